import Derived.Test.YtpnpgihabgglcaaGreatDoorAmUZe
import Derived.Test.YtpnpgihabgglcaaGreatDoorAmUZm
import Derived.Test.YtpnpgihabgglcaaGreatDoorAmUZj
set_option linter.defProp false
set_option linter.unusedVariables false
set_option linter.unusedSimpArgs false
set_option linter.unusedSectionVars false
set_option maxRecDepth 100000
open Nat renaming reduceEqDiff→bc
namespace Go.Am
open Go.RowKit
section
variable{P:Program}
def Wt(P:Program)(t:TypeId){Hh:Type}(d:DataW Hh):Prop:=∀x∈DataW.weights P t d,x<=reachBytes
def xe5{a:Type}{e:TypeId}{x:Nat}{d:DataW a}:∀{l:List (DataW a)},d∈l->x∈DataW.weights P e d->x∈DataW.weightsAll P e l
 |y::l,h,hx=>by
  rw[DataW.weightsAll,zt];rcases jf.1 h with rfl|h
  .exact .inl hx
  .exact .inr (xe5 h hx)
def sR(P:Program)(t:TypeId)(R:ar->List AV->Prop):Prop :=
 (∀H H' l,R H l->Fr Em H H'->R H' l) /\ ∀{Hh:Type}(enc:TypeId×Value->Hh)(W:World)(held:Bool)(fuel:Nat)(cs:List Value)(d:DataW Hh)(ps:List MemPlace),
  DataW.trod enc P W 0 (λ _=>true) held fuel t cs=some (d,ps)->Wt P t d -> ∀(θ:Th)(n:Nat)(gl:GL),Good W θ n gl -> ∃θ' n' gl' l,Step W θ n gl θ' n' gl'/\bL (Lt n') θ' l cs/\R (yx gl' n') l
def VW.toW{t:TypeId}{R:ar->List AV->Prop}(h:VW P t R):sR P t R:=⟨h.1,λ enc W held fuel cs d e a _=>h.2 enc W held fuel cs d e a⟩
def xey{e:TypeId}{R:ar->List AV->Prop}(hR:sR P e R){w:Type}(enc:TypeId×Value->w)(W:World)(held:Bool)(fuel:Nat):∀(a:List (List Value)),(∀cs∈a,∃x,DataW.trod enc P W 0 (λ _=>true) held fuel e cs=some x/\Wt P e x.1) ->
 ∀(θ:Th)(n:Nat)(d:GL),Good W θ n d -> ∃(θ':Th)(n':Nat)(g:GL)(ls:List (List AV)),Step W θ n d θ' n' g/\bL (Lt n') θ' ls.flatten a.flatten/\ls.length=a.length /\ ∀(i:Nat)l cs,ls[i]? = some l->a[i]? = some cs->R (yx g n') l/\l.length=cs.length
 |[],_,θ,n,d,hg=>⟨θ,n,d,[],Step.refl hg,.nil,rfl,λ i l cs h=>by simp at h⟩
 |cs::a,h,θ,n,d,hg=>by
  obtain⟨x,A,hw⟩:=h cs (by simp);obtain⟨θ1,n1,j,l,s1,v1,F⟩:=hR.2 enc W held fuel cs x.1 x.2 A hw θ n d hg;obtain⟨θ2,n2,m,ls,s2,v2,D,E⟩:=xey hR enc W held fuel a (λ c y=>h c (by simp[y])) θ1 n1 j s1.cY;refine⟨θ2,n2,m,l::ls,s1.trans s2,?_,by simp[D],λ i C cs' q v=>?_⟩
  .rw [Ps,Ps];exact(v1.up s2.ag λ b hb=>qj hb s2.le).app v2
  .cases i with
   |zero =>
    simp at q v;subst q;subst v;exact⟨hR.1 _ _ _ F s2.fr,v1.length.symm⟩
   |succ i=>exact E i C cs' (by simpa using q) (by simpa using v)
def v8(P:Program)(e:TypeId)(R:ar->List AV->Prop)(size:Nat)(H:ar)(u:AV):Prop:=NR R size H u /\ ∀k,eY u=some k->k*P.bytesOf e<=reachBytes
def XD{t e:TypeId}{R:ar->List AV->Prop}(ht:P.underlying t=some (.slice e))(hR:sR P e R)(hs:0<P.cellsOf e):sR P t λ H l=>∃u,l=[u]/\v8 P e R (P.cellsOf e) H u:=by
 refine⟨λ H H' l⟨u,w,h2,h3⟩f=>⟨u,w,h2.em hR.1 f,h3⟩,?_⟩;intro Hh enc W held fuel O d ps h hwt θ n gl hg;cases fuel with
 |zero=>cases h
 |succ f =>
  have key:O=[.slice none 0 0] \/ ∃a len cap,O=[.slice (some a) len cap]/\len<=cap/\(∀i,i<len -> ∃cs x,W.cells? 0 (a.add (i*P.cellsOf e)) (P.cellsOf e)=some cs/\DataW.trod enc P W 0 (λ _=>true) held f e cs=some x/\Wt P e x.1)/\len*P.bytesOf e<=reachBytes/\(len<cap -> ∃cs,W.cells? 0 (a.add (len*P.cellsOf e)) (P.cellsOf e)=some cs):=by
   simp only[DataW.trod,ht]at h;split at h<;>first|(cases h;done)|skip
   all_goals first|(rename_i w;cases w;done)|skip
   .left;rfl
   .right;rename_i e' a len cap w;injection w with w;injection w with w;subst w
    split at h
    .rename_i hb;simp only[qd,ri,xl]at h;obtain⟨elems,he,rest,G,C⟩:=h;injection C with C _
     have hw1:=hwt ((elems.length+rest.length)*P.bytesOf e) (by rw[<-C,DataW.weights,ht];simp);have hel0:elems.length=len:=by have:=mapM_some_length he;simpa using this
     refine⟨a,len,cap,rfl,hb.2.1,λ i m=>?_,xu (jv _ (by omega)) hw1,λ hlt=>?_⟩
     .have hl:=mapM_some_length he;have:=mapM_some_get he i i (by simp[m]);have v:i<elems.length:=by rw[hl];simpa using m
      rw[qt v]at this;obtain⟨cs,q,A⟩:=qd.1 this;refine⟨cs,_,q,A,λ x hx=>hwt x ?_⟩;rw[<-C,DataW.weights,ht];exact vq _ (zt.2 (.inl (xe5 (List.mem_map_of_mem (List.getElem_mem v)) hx)))
     .have hl:=mapM_some_length G;have:=mapM_some_get G 0 0 (by rw[yg (by omega)]);have v:0<rest.length:=by rw[hl];simp;omega
      rw[qt v,vf]at this;obtain⟨cs,q,A⟩:=qd.1 this;exact⟨cs,q⟩
    .cases h
  rcases key with rfl|⟨a,len,cap,rfl,hlc,Z,Q,G⟩
  .exact ⟨θ,n,gl,[.nils],Step.refl hg,λ _ _=>rfl,.nils,rfl,⟨[],by simp,⟨by simp,rfl⟩,.inl rfl⟩,(λ k hk=>by injection hk with hk;subst hk;simp)⟩
  .obtain ⟨k,o,s⟩:=a
   by_cases h0:cap=0
   .subst h0;have:len=0:=by omega
    subst this;have hst:=Step.NX hg k o (sA s);refine⟨_,_,_,[.eslice n],hst,.one ?_,.eslice n,rfl,⟨[],by simp,⟨by simp,rfl,zp n⟩,.inr (zp n)⟩,(λ k hk=>by injection hk with hk;subst hk;simp)⟩;intro θ' hθ;obtain⟨q,A,q3⟩:=θ.eH n k o (sA s);obtain⟨r1,r2,r3⟩:=hθ n (zp n);simp only[az,r1,r2,r3,q,A,q3,BI]
   .have hsp:s=none:=by
     by_cases L:len=0
     .subst L;obtain⟨cs,y⟩:=G (by omega);rw[wh]at y;exact tN hs (by simpa[Addr.add]using y)
     .obtain ⟨cs,x,y,_,_⟩:=Z 0 (by omega);rw[wh]at y;exact tN hs (by simpa[Addr.add]using y)
    subst hsp
    by_cases L:len=0
    .subst L;refine⟨_,_,_,[.slice n 0 0 cap],Step.bare hg k o,.one ?_,.slice n 0 0 cap,rfl,⟨[],by simp,⟨by simp,rfl,xy _,.inl rfl⟩,.inr (zp n)⟩,(λ k hk=>by injection hk with hk;subst hk;simp)⟩;have:=VR.slice (D:=Lt (n+1)) (θ:=θ.add n k o 0) (b:=n) (o:=0) (n:=0) (c:=cap) (zp n:Lt (n+1) n);obtain⟨q,A,_⟩:=θ.eH n k o 0
     simpa[az,q,A]using this
    .have hex:∀i:Nat,∃cs,i<len->W.cells? 0 ⟨k,o+i*P.cellsOf e,none⟩ (P.cellsOf e)=some cs /\ ∃x,DataW.trod enc P W 0 (λ _=>true) held f e cs=some x/\Wt P e x.1:=λ i=>by
      by_cases m:i<len
      .obtain ⟨cs,x,w,h2⟩:=Z i m;rw[vV]at w;exact⟨cs,λ _=>⟨w,x,h2⟩⟩
      .exact ⟨[],λ h=>(m h).elim⟩
     obtain⟨F,hF⟩:=Classical.axiomOfChoice hex
     let css:=(List.range len).map F
     have Y:css.length=len:=by simp[css]
     have X:∀(i:Nat)c,css[i]? = some c->i<len/\c=F i:=λ i c y=>by
      simp only[css,xj,xl]at y;obtain⟨j,hj,rfl⟩:=y;have m:i<len:=by have:=Eu hj;simpa using this
      rw[yg m]at hj;injection hj with hj;subst hj
      exact⟨m,rfl⟩
     obtain⟨arr,e',fz,hh,_,_⟩:=Wd hs (hF 0 (by omega)).1;obtain⟨N,e2,fz2,g,_,hle⟩:=Wd hs (hF (len-1) (by omega)).1;rw[hh]at g;injection g with g;injection g with q A q3;subst q
     have hmul:(len-1)*P.cellsOf e+P.cellsOf e=len*P.cellsOf e:=by rw[<-wL];congr 1;omega
     have I:∀(i:Nat)c,css[i]? = some c->c=(arr.toList.drop (o+i*P.cellsOf e)).take (P.cellsOf e)/\c.length=P.cellsOf e:=λ i c y=>by
      obtain⟨m,rfl⟩:=X i c y;obtain⟨N,e2,fz2,g,h6,h7⟩:=Wd hs (hF i m).1;rw[hh]at g;injection g with g;injection g with q A q3;subst q
      exact⟨h6,by rw[h6];simp;omega⟩
     have U:css.flatten=(arr.toList.drop o).take (len*P.cellsOf e):=by rw[Zt I,Y]
     obtain⟨θ1,n1,gl1,ls,s1,v1,l1,r1⟩:=xey hR enc W held f css (λ c y=>by
      obtain⟨i,m⟩:=O0.1 y;obtain⟨v,rfl⟩:=X i c m;exact(hF i v).2) θ n gl hg
     rw[U]at v1;have hsz:o+len*P.cellsOf e<=arr.size:=by omega
     have E:ls.length=len:=by rw[l1,Y]
     have K:ls.flatten.length=len*P.cellsOf e:=by rw[<-v1.length,j6,kr,vg];omega
     have J:=Step.row (l:=ls.flatten) (k:=k) (off:=o) (pre:=arr.toList.take o) (cs:=(arr.toList.drop o).take (len*P.cellsOf e)) (post:=arr.toList.drop (o+len*P.cellsOf e)) (e:=e') (fz:=fz) s1.cY (by
      rw[hh];congr 2;have hq:arr.toList.take o++(arr.toList.drop o).take (len*P.cellsOf e)++arr.toList.drop (o+len*P.cellsOf e)=arr.toList:=by
       rw[zm,<-Ib,ve,ve]
      rw[hq]) (by simp;omega) v1
     refine⟨_,_,_,[.slice n1 0 len cap],s1.trans J,.one ?_,.slice n1 0 len cap,rfl,⟨ls,λ l hl=>?_,⟨by rw[K,E],E.symm,by rw[E];exact hlc,.inr ⟨zp n1,ls.flatten,qy (fz:=(0,0)) (e:=0) (ow:=false) ?_,?_⟩⟩,.inr (zp n1)⟩,λ k hk=>by injection hk with hk;subst hk;exact Q⟩
     .have:=VR.slice (D:=Lt (n1+1)) (θ:=θ1.add n1 k o 0) (b:=n1) (o:=0) (n:=len) (c:=cap) (zp n1:Lt (n1+1) n1);obtain⟨q,A,_⟩:=θ1.eH n1 k o 0
      simpa[az,q,A]using this
     .obtain ⟨i,m⟩:=O0.1 hl;have hil:i<css.length:=by rw[<-l1];exact Eu m
      obtain⟨q,A⟩:=r1 i l css[i] m (by simp[hil]);exact⟨hR.1 _ _ _ q J.fr,by rw[A];exact(I i _ (by simp[hil])).2⟩
     .show (Eb ((n1,ls.flatten)::gl1) .nil).get n1=_;rw[Eb,T.aI,qr rfl]
     .rw [E,u4,qr (by omega),ym,zg (by omega)]
def zC:List (ar->List AV->Prop)->ar->List AV->Prop
 |[],_,l=>l=[]
 |R::Rs,H,l=>∃a b,l=a++b/\R H a/\zC Rs H b
def zC.em:∀{Rs:List (ar->List AV->Prop)},(∀R∈Rs,∀H H' l,R H l->Fr Em H H'->R H' l) -> ∀H H' l,zC Rs H l->Fr Em H H'->zC Rs H' l
 |[],_,_,_,_,h,_=>h
 |R::Rs,hm,H,H',l,⟨a,b,h1,h2,h3⟩,f=>⟨a,b,h1,hm R (by simp) _ _ _ h2 f,zC.em (λ S d=>hm S (by simp[d])) _ _ _ h3 f⟩
def xa1{w:Type}(enc:TypeId×Value->w)(W:World)(held:Bool)(fuel:Nat){cs:List Value}:∀{fs:List (TypeId×Nat×(ar->List AV->Prop))}{k:Nat}{xs:List (DataW w×List MemPlace)},
 (∀f∈fs,sR P f.1 f.2.2)->(∀(j:Nat)f,fs[j]? = some f->f.2.1=k+((fs.take j).map λ f=>P.cellsOf f.1).sum) ->
 fs.mapM (λ f=>DataW.trod enc P W 0 (λ _=>true) held fuel f.1 ((cs.drop f.2.1).take (P.cellsOf f.1)))=some xs->(∀x∈DataW.weightsEach P (fs.map (·.1)) (xs.map (·.1)),x<=reachBytes) ->
 k+(fs.map λ f=>P.cellsOf f.1).sum<=cs.length -> ∀(θ:Th)(n:Nat)(d:GL),Good W θ n d ->
 ∃θ' n' e l,Step W θ n d θ' n' e/\bL (Lt n') θ' l ((cs.drop k).take ((fs.map λ f=>P.cellsOf f.1).sum))/\zC (fs.map (·.2.2)) (yx e n') l
 |[],k,xs,_,_,_,_,_,θ,n,d,hg=>⟨θ,n,d,[],Step.refl hg,by simpa using bL.nil,rfl⟩
 |f::fs,k,xs,hf,ho,hm,hw,hl,θ,n,d,hg=>by
  simp only[List.mapM_cons,Option.bind_eq_bind,qd,Option.pure_def,qe]at hm;obtain⟨y,C,ys,v,rfl⟩:=hm;simp only[ji,DataW.weightsEach,zt]at hw;have A:f.2.1=k:=by have:=ho 0 f rfl;simpa using this
  obtain⟨θ1,n1,h,a,s1,v1,D⟩:=(hf f (by simp)).2 enc W held fuel _ y.1 y.2 C (λ x q=>hw x (.inl q)) θ n d hg;simp only[ji,List.sum_cons]at hl;obtain⟨θ2,n2,m,b,s2,v2,E⟩:=xa1 enc W held fuel (cs:=cs) (fs:=fs) (k:=k+P.cellsOf f.1) (λ g hg=>hf g (by simp[hg])) (λ j g hg=>by
   have:=ho (j+1) g (by simpa using hg);simp only[List.take_succ_cons,ji,List.sum_cons]at this;omega) v (λ x q=>hw x (.inr q)) (by omega) θ1 n1 h s1.cY
  refine⟨θ2,n2,m,a++b,s1.trans s2,?_,a,b,rfl,(hf f (by simp)).1 _ _ _ D s2.fr,E⟩;rw[A]at v1;rw[ji,List.sum_cons,List.take_add,Ib];exact(v1.up s2.ag λ b hb=>qj hb s2.le).app v2
def Zs{H:Type}{g:TypeId->List Value->Option (DataW H×List MemPlace)}{cs:List Value}:∀{fs:List Field}{Rs:List (ar->List AV->Prop)},fs.length=Rs.length ->
 fs.mapM (λ f=>g f.type ((cs.drop f.offset).take (P.cellsOf f.type)))=((fs.zip Rs).map λ x=>(x.1.type,x.1.offset,x.2)).mapM (λ f=>g f.1 ((cs.drop f.2.1).take (P.cellsOf f.1)))
 |[],[],_=>rfl
 |f::fs,R::Rs,h=>by simp only[List.zip_cons_cons,ji,List.mapM_cons,Zs (fs:=fs) (Rs:=Rs) (by simpa using h)]
def YC{t:TypeId}{fs:Array Field}{Rs:List (ar->List AV->Prop)}(h:P.underlying t=some (.struct fs))(hn:fs.toList.length=Rs.length)(hR:∀x∈fs.toList.zip Rs,sR P x.1.type x.2)
 (ho:G6 P 0 fs.toList=true) (E:(fs.toList.map λ f=>P.cellsOf f.type).sum=P.cellsOf t):sR P t λ H l=>zC Rs H l:=by
 refine⟨zC.em λ R w=>?_,?_⟩
 .obtain ⟨i,F⟩:=O0.1 w;have y:i<fs.toList.length:=by rw[hn];exact Eu F
  have L:(fs.toList.zip Rs)[i]? = some (fs.toList[i],R):=by rw[List.getElem?_zip_eq_some];exact⟨by simp[qt y],F⟩
  exact(hR _ (x9 L)).1
 intro N enc W held fuel cs d O e A θ n J hg;cases fuel with
 |zero=>cases e
 |succ f =>
  have hlen:cs.length=P.cellsOf t /\ ∃xs,fs.toList.mapM (λ g=>DataW.trod enc P W 0 (λ _=>true) held f g.type ((cs.drop g.offset).take (P.cellsOf g.type)))=some xs /\ ∀x∈DataW.weightsEach P (fs.toList.map (·.type)) (xs.map (·.1)),x<=reachBytes:=by
   simp only[DataW.trod,h]at e;split at e
   .rename_i hl;obtain⟨xs,hm,a⟩:=xl.1 e;injection a with a _
    exact⟨hl,xs,hm,λ x C=>A x (by rw[<-a,DataW.weights,h];exact C)⟩
   .cases e
  obtain⟨hl,xs,hm,hw⟩:=hlen;rw[Zs (Rs:=Rs) hn]at hm;have m:((fs.toList.zip Rs).map λ x=>(x.1.type,x.1.offset,x.2)).map (λ f=>P.cellsOf f.1)=fs.toList.map λ f=>P.cellsOf f.type:=by
   rw[we];have:((fs.toList.zip Rs).map λ x=>P.cellsOf x.1.type)=(fs.toList.zip Rs |>.map Prod.fst).map λ f=>P.cellsOf f.type:=by rw[we];rfl
   rw[List.map_fst_zip (by omega)]at this;exact this
  have G:((fs.toList.zip Rs).map λ x=>(x.1.type,x.1.offset,x.2)).map (·.1)=fs.toList.map (·.type):=by
   rw[we];have:((fs.toList.zip Rs).map λ x=>x.1.type)=(fs.toList.zip Rs |>.map Prod.fst).map (·.type):=by rw[we];rfl
   rw[List.map_fst_zip (by omega)]at this;exact this
  have I:((fs.toList.zip Rs).map λ x=>(x.1.type,x.1.offset,x.2)).map (·.2.2)=Rs:=by
   rw[we];have:((fs.toList.zip Rs).map λ x=>x.2)=Rs:=by rw[List.map_snd_zip (by omega)]
   exact this
  obtain⟨θ',n',q,l,s,v,r⟩:=xa1 enc W held f (cs:=cs) (k:=0) (fs:=(fs.toList.zip Rs).map λ x=>(x.1.type,x.1.offset,x.2)) (λ g hg=>by
   obtain⟨x,C,rfl⟩:=FE.1 hg;exact hR x C) (λ j g hg=>by
   simp only[xj,xl,List.getElem?_zip_eq_some]at hg;obtain⟨x,⟨D,K⟩,rfl⟩:=hg;have:=Bb ho j x.1 D;rw[List.map_take,m,<-List.map_take];exact this) hm (by rw[G];exact hw) (by rw[m,E,hl];omega) θ n J hg
  rw[I]at r;rw[m,E,ym,zg (by omega)]at v;exact⟨θ',n',q,l,s,v,r⟩
end
end Go.Am
namespace Go.Am
open Go.RowKit Lang
section
variable{P:Program}
def sR.imp{t:TypeId}{R a:ar->List AV->Prop}(h:sR P t R)(hm:∀H H' l,a H l->Fr Em H H'->a H' l)(j:∀H l,R H l->a H l):sR P t a :=
 ⟨hm,λ enc W held fuel cs d q m hw θ n g hg=>by
  obtain⟨θ',n',e,l,s,v,r⟩:=h.2 enc W held fuel cs d q m hw θ n g hg;exact⟨θ',n',e,l,s,v,j _ _ r⟩⟩
def Ud{α β:Type}{f:α->TypeId}{Q:TypeId -> β->Prop}:∀(l:List α)(R:List β),(∀x∈(l.map f).zip R,Q x.1 x.2) -> ∀x∈l.zip R,Q (f x.1) x.2
 |[],_,_,x,h=>by simp at h
 |_::_,[],_,x,h=>by simp at h
 |a::l,b::R,hq,x,h=>by
  rcases jf.1 h with rfl|h
  .exact hq (f a,b) (by simp)
  .exact Ud l R (λ y d=>hq y (by simp[d])) x h
def RX{tS e:TypeId}{fs:Array Field}{n:Nat}(uS:P.underlying tS=some (.struct fs))(a:fs.toList.map (·.type)=List.replicate n e)(uN:P.underlying e=some (.int .i64))(j:G6 P 0 fs.toList=true)(m:(fs.toList.map λ f=>P.cellsOf f.type).sum=P.cellsOf tS) :
 sR P tS λ H l=>zC (List.replicate n λ _ l=>p8 .i64 l) H l:=by
 have hn:fs.toList.length=n:=by have:=congrArg List.length a;simpa using this
 refine YC uS (by rw[hn];simp) (Ud (f:=Field.type) (Q:=sR P) _ _ ?_) j m;rw[a];intro x d;have g:=(List.of_mem_zip d).1;have h:=(List.of_mem_zip d).2;rw[vy g,vy h];exact(GO (BO uN)).toW
def vK(H:ar)(u:List AV):Prop:=∃l c s w f so sf cv ps,u=uJ l c s w cv f so sf/\dU nj 1 H cv ps /\ ∀p∈ps,dU fh 5 H p.1 p.2
def Bh{tM tS E tC tI tB m:TypeId}{ms ss is bs:Array Field}(uM:P.underlying tM=some (.struct ms))(J:ms.toList.map (·.type)=[tS,E,tB])(uS:P.underlying tS=some (.struct ss))(O:ss.toList.map (·.type)=[m,m,m,m])
 (uK:P.underlying E=some (.slice tC)) (F:P.underlying tC=some (.slice tI)) (uI:P.underlying tI=some (.struct is)) (hI:is.toList.map (·.type)=[m,m,m,m,m]) (uB:P.underlying tB=some (.struct bs)) (N:bs.toList.map (·.type)=[m,m,m]) (uN:P.underlying m=some (.int .i64))
 (G:P.cellsOf tC=1) (I:P.cellsOf tI=5) (T:G6 P 0 ms.toList=true) (Y:(ms.toList.map λ f=>P.cellsOf f.type).sum=P.cellsOf tM) (U:G6 P 0 ss.toList=true) (Z:(ss.toList.map λ f=>P.cellsOf f.type).sum=P.cellsOf tS)
 (R:G6 P 0 is.toList=true) (X:(is.toList.map λ f=>P.cellsOf f.type).sum=P.cellsOf tI) (oB:G6 P 0 bs.toList=true) (W:(bs.toList.map λ f=>P.cellsOf f.type).sum=P.cellsOf tB):sR P tM vK:=by
 have hm:ms.toList.length=3:=by have:=congrArg List.length J;simpa using this
 have C:sR P tC λ H l=>∃u,l=[u] /\ ∃code:List gO,dU fh 5 H u code:=by
  refine(XD F (RX (n:=5) uI hI uN R X) (by rw[I];decide)).imp ?_ λ H l h=>?_
  .rintro H H' l ⟨u,j,xs,v⟩ f;exact⟨u,j,xs,v.em f⟩
  .obtain ⟨u,rfl,j,v⟩:=h;rw[I]at j;obtain⟨xs,A,_⟩:=T5 (enc:=fh) (Q:=λ _=>True) (λ l h=>by
    obtain⟨_,_,rfl,⟨a,rfl,_⟩,_,_,rfl,⟨b,rfl,_⟩,_,_,rfl,⟨c,rfl,_⟩,_,_,rfl,⟨d,rfl,_⟩,_,_,rfl,⟨e,rfl,_⟩,rfl⟩:=h;exact⟨⟨a,b,c,d,e⟩,rfl,trivial⟩) j
   exact⟨u,rfl,xs,A⟩
 have D:sR P E λ H l=>∃u,l=[u] /\ ∃y:List (AV×List gO),dU nj 1 H u y /\ ∀p∈y,dU fh 5 H p.1 p.2:=by
  refine(XD uK C (by rw[G];decide)).imp ?_ λ H l h=>?_
  .rintro H H' l ⟨u,j,xs,v,A⟩ f;exact⟨u,j,xs,v.em f,λ p q=>(A p q).em f⟩
  .obtain ⟨u,rfl,j,v⟩:=h;rw[G]at j;obtain⟨xs,A,L⟩:=T5 (enc:=nj) (Q:=λ p=>dU fh 5 H p.1 p.2) (λ l h=>by
    obtain⟨u,rfl,code,h⟩:=h;exact⟨(u,code),rfl,h⟩) j
   exact⟨u,rfl,xs,A,L⟩
 refine(YC (Rs:=[λ H l=>zC (List.replicate 4 λ _ l=>p8 .i64 l) H l,λ H l=>∃u,l=[u] /\ ∃y:List (AV×List gO),dU nj 1 H u y /\ ∀p∈y,dU fh 5 H p.1 p.2,λ H l=>zC (List.replicate 3 λ _ l=>p8 .i64 l) H l]) uM (by rw[hm];rfl)
  (Ud (f:=Field.type) (Q:=sR P) _ _ (by
   rw[J];intro x K;simp only[List.zip_cons_cons,List.zip_nil_right,jf,P1,or_false]at K;rcases K with rfl|rfl|rfl
   .exact RX (n:=4) uS O uN U Z
   .exact D
   .exact RX (n:=3) uB N uN oB W)) T Y).imp ?_ λ H l h=>?_
 .rintro H H' u ⟨l,c,s,w,f,so,sf,cv,y,j,v,A⟩ fr;exact⟨l,c,s,w,f,so,sf,cv,y,j,v.em fr,λ p q=>(A p q).em fr⟩
 .obtain ⟨_,_,rfl,⟨_,_,rfl,⟨a,rfl,_⟩,_,_,rfl,⟨b,rfl,_⟩,_,_,rfl,⟨c,rfl,_⟩,_,_,rfl,⟨d,rfl,_⟩,rfl⟩,_,_,rfl,⟨cv,rfl,y,j,v⟩,_,_,rfl,⟨_,_,rfl,⟨e,rfl,_⟩,_,_,rfl,⟨f,rfl,_⟩,_,_,rfl,⟨g,rfl,_⟩,rfl⟩,rfl⟩:=h;exact⟨a,b,c,d,e,f,g,cv,y,rfl,j,v⟩
end
end Go.Am
namespace Go.Am
open Lang
def IB(f s o:Int)(x:La):Prop:=∃a b c:Int,x.gT=[0,a,b,c,0]/\x.fC=[0,f,s,o,-1]/\(0<=x.lane/\x.lane<=4)/\(0<=a/\a<=f/\0<=b/\b<=s/\0<=c/\c<=o)/\(x.lane=1->a<f)/\(x.lane=2->b<s)/\(x.lane=3->c<o)/\(x.lane<1->a=0)/\(x.lane<2->b=0)/\(x.lane<3->c=0)
def IB.of{f s o a b c k:Int}(h:(0<=k/\k<=4)/\(0<=a/\a<=f/\0<=b/\b<=s/\0<=c/\c<=o)/\(k=1->a<f)/\(k=2->b<s)/\(k=3->c<o)/\(k<1->a=0)/\(k<2->b=0)/\(k<3->c=0)):IB f s o ⟨[0,f,s,o,-1],k,[0,a,b,c,0]⟩:=⟨a,b,c,rfl,rfl,h⟩
def IB.oP{f s o a b c l:Int}(h:0<=a/\a<=f/\0<=b/\b<=s/\0<=c/\c<=o)(d:l<1->a=0)(g:l<2->b=0)(j:l<3->c=0)(hl:l<=3):IB f s o ⟨[0,f,s,o,-1],La.after [0,f,s,o,-1] l,[0,a,b,c,0]⟩/\l<La.after [0,f,s,o,-1] l:=by
 have e:La.after [0,f,s,o,-1] l=if l<1/\f≠0 then 1 else if l<2/\s≠0 then 2 else if l<3/\o≠0 then 3 else 4:=rfl
 rw[e];split
 .exact ⟨IB.of (by omega),by omega⟩
 split
 .exact ⟨IB.of (by omega),by omega⟩
 split
 .exact ⟨IB.of (by omega),by omega⟩
 .exact ⟨IB.of (by omega),by omega⟩
def IB.enter{f s o:Int}{x:La}(h:IB f s o x):IB f s o x.enter/\(x.enter.lane=0\/x.lane<=x.enter.lane):=by
 unfold La.enter;split
 .rename_i q;obtain⟨a,b,c,m,hb,g,j,-⟩:=h;obtain⟨d,e⟩:=IB.oP (f:=f) (s:=s) (o:=o) (a:=0) (b:=0) (c:=0) (l:=0) (by omega) (λ _=>rfl) (λ _=>rfl) (λ _=>rfl) (by decide);rw[hb];exact⟨d,.inr (by rw[q];exact HD e)⟩
 .exact ⟨h,.inr (ya _)⟩
def IB.leave{f s o:Int}{x:La}(h:IB f s o x):IB f s o x.leave/\(x.leave.lane=0\/x.lane<=x.leave.lane):=by
 unfold La.leave;split
 .exact ⟨h,.inr (ya _)⟩
 .obtain ⟨a,b,c,g,hb,d,e,-⟩:=h;rw[hb];exact⟨IB.of (a:=0) (b:=0) (c:=0) (k:=0) (by omega),.inl rfl⟩
def IB.abort{f s o:Int}(J:f<=16)(hs:s<=16)(ho:o<=16){x:La}(h:IB f s o x)(d:Int):IB f s o (x.abort d)/\((x.abort d).lane=0\/x.lane<=(x.abort d).lane):=by
 unfold La.abort
 by_cases q:x.lane=0\/x.lane=4\/d<1\/8<d\/d=7
 .rw [qr q];exact⟨h,.inr (ya _)⟩
 rw[qo q];obtain⟨fC,lane,gT⟩:=x;obtain⟨a,b,c,C,hb,D,I,v,y,A,E,F,G⟩:=h;simp only at C hb D v y A E F G q;subst C;subst hb;simp only;have m:lane=1\/lane=2\/lane=3:=by omega
 rcases m with rfl|rfl|rfl
 .have w:aj .i64 (a+1)=a+1:=js (by omega) (by omega);have e:(La.mk [0,f,s,o,-1] 1 [0,a,b,c,0]).count=a:=rfl;rw[e,w];have v:=v rfl;split
  .obtain ⟨g,j⟩:=IB.oP (f:=f) (s:=s) (o:=o) (a:=a+1) (b:=b) (c:=c) (l:=2) (by omega) (by omega) (by omega) (by omega) (by decide);exact⟨g,.inr (Int.le_trans (by decide) (HD j))⟩
  split
  .obtain ⟨g,j⟩:=IB.oP (f:=f) (s:=s) (o:=o) (a:=a+1) (b:=b) (c:=c) (l:=1) (by omega) (by omega) (by omega) (by omega) (by decide);exact⟨g,.inr (HD j)⟩
  .rename_i n;have n:¬a+1=f:=n;exact⟨IB.of (a:=a+1) (k:=1) (by omega),.inr (ya _)⟩
 .have w:aj .i64 (b+1)=b+1:=js (by omega) (by omega);have e:(La.mk [0,f,s,o,-1] 2 [0,a,b,c,0]).count=b:=rfl;rw[e,w];have y:=y rfl;split
  .obtain ⟨g,j⟩:=IB.oP (f:=f) (s:=s) (o:=o) (a:=a) (b:=b+1) (c:=c) (l:=2) (by omega) (by omega) (by omega) (by omega) (by decide);exact⟨g,.inr (HD j)⟩
  split
  .obtain ⟨g,j⟩:=IB.oP (f:=f) (s:=s) (o:=o) (a:=a) (b:=b+1) (c:=c) (l:=2) (by omega) (by omega) (by omega) (by omega) (by decide);exact⟨g,.inr (HD j)⟩
  .rename_i n;have n:¬b+1=s:=n;exact⟨IB.of (b:=b+1) (k:=2) (by omega),.inr (ya _)⟩
 .have w:aj .i64 (c+1)=c+1:=js (by omega) (by omega);have e:(La.mk [0,f,s,o,-1] 3 [0,a,b,c,0]).count=c:=rfl;rw[e,w];have A:=A rfl;split
  .rename_i n;exact absurd (show false=true from n.1) (by decide)
  split
  .obtain ⟨g,j⟩:=IB.oP (f:=f) (s:=s) (o:=o) (a:=a) (b:=b) (c:=c+1) (l:=3) (by omega) (by omega) (by omega) (by omega) (by decide);exact⟨g,.inr (HD j)⟩
  .rename_i n;have n:¬c+1=o:=n;exact⟨IB.of (c:=c+1) (k:=3) (by omega),.inr (ya _)⟩
namespace CS
structure Sm(s t:CS):Prop where
 l:t.c.la=s.c.la
 b:t.c.lM=s.c.lM
 o:∃l,t.o=s.o++l /\ ∀e∈l,e.kind≠6
structure Go(s t:CS):Prop where
 l:t.c.la=s.c.la\/t.c.la=s.c.la.leave\/(∃d,t.c.la=s.c.la.abort d)\/t.c.la=s.c.la.enter
 o:∃l,t.o=s.o++l /\ ∀e∈l,e.kind=6->e.code=7/\t.c.lM=true\/e.code≠7/\t.c.lM=s.c.lM/\e.lane≠4
 p:t.c.ph≠6\/(t.c.ph=s.c.ph/\t.c.la=s.c.la)\/t.c.la.lane=3
section
variable{s t u:CS}
def Sm.rf(l:t.c.la=s.c.la)(b:t.c.lM=s.c.lM)(o:t.o=s.o):Sm s t:=⟨l,b,[],by rw[o,ze],λ _ h=>nomatch h⟩
def Sm.trans(h:Sm s t)(g:Sm t u):Sm s u:=by
 obtain⟨l,e,q⟩:=h.o;obtain⟨m,f,r⟩:=g.o;exact⟨g.l.trans h.l,g.b.trans h.b,l++m,by rw[f,e,zm],λ e w=>(zt.1 w).elim (q e) (r e)⟩
def Sm.on(g:Sm t u)(h:Sm s t):Sm s u:=h.trans g
def Sm.ite{p:Prop}[Decidable p](h:Sm s t)(g:Sm s u):Sm s (if p then t else u):=by split;exact h;exact g
def Go.ite{p:Prop}[Decidable p](h:Go s t)(g:Go s u):Go s (if p then t else u):=by split;exact h;exact g
def Sm.go(h:Sm s t)(q:t.c.ph≠6\/t.c.ph=s.c.ph\/s.c.la.lane=3):Go s t:=by
 obtain⟨l,e,r⟩:=h.o;exact⟨.inl h.l,⟨l,e,λ x w k=>(r x w k).elim⟩,q.imp id λ q=>q.imp (λ q=>⟨q,h.l⟩) λ q=>by rw[h.l];exact q⟩
def Go.rf(l:t.c.la=s.c.la)(b:t.c.lM=s.c.lM)(o:t.o=s.o)(q:t.c.ph≠6\/t.c.ph=s.c.ph\/s.c.la.lane=3):Go s t:=(Sm.rf l b o).go q
def Sm.then(h:Sm s t)(g:Go t u)(q:t.c.ph=s.c.ph\/s.c.la.lane=3):Go s u:=by
 obtain⟨l,e,r⟩:=h.o;obtain⟨m,f,w⟩:=g.o;refine⟨by have:=g.l;rw[h.l]at this;exact this,⟨l++m,by rw[f,e,zm],λ x y k=>?_⟩,?_⟩
 .rcases zt.1 y with y|y
  .exact (r x y k).elim
  .have:=w x y k;rw[h.b]at this;exact this
 .rcases g.p with p|⟨d,a⟩|p
  .exact .inl p
  .exact q.elim (λ q=>.inr (.inl ⟨d.trans q,a.trans h.l⟩)) λ q=>.inr (.inr (by rw[a,h.l];exact q))
  .exact .inr (.inr p)
def MT{k a v d:Int}(hk:k≠6):Sm s (s.tell k a v d):=⟨rfl,rfl,[vU s.c k a v d],rfl,λ e h=>by
 rw[ja.1 h];unfold vU;split<;>exact hk⟩
def QA(n:Int):Sm s (s.fm n):=.rf rfl rfl rfl
def BP(i v:Int):Sm s (s.fi (·.set i v)):=.rf rfl rfl rfl
def RA(f:mE)(v:Int):Sm s (s.d9 f v):=(MT (by split<;>decide)).trans ((BP f.nQ v).trans (QA _))
def SU{k:Int}(hk:k≠6)(f:mE)(a:Int):Sm s (s.stored k f a):=(MT hk).trans (QA _)
def qxm:Sm s s.aw:=by
 unfold aw;exact(Sm.ite (.rf rfl rfl rfl) (MT (by decide))).trans (.rf rfl rfl rfl)
def Rw:Go s s.cz:=by
 have h:Sm s s.aw:=qxm;obtain⟨l,e,r⟩:=h.o;exact⟨.inr (.inl (congrArg La.leave h.l)),⟨l,e,λ x w k=>(r x w k).elim⟩,.inl (show(0:Int)≠6 by decide)⟩
def Vj:Go s s.breaks :=
 ⟨.inr (.inl rfl),⟨[vU s.c 6 0 0 7],rfl,λ e w k=>.inl ⟨by rw[ja.1 w];unfold vU;split<;>rfl,rfl⟩⟩,.inl (show(0:Int)≠6 by decide)⟩
def xeb(h:s.c.la.lane≠4){d:Int}(a:d≠7):Go s (s.abort d) :=
 ⟨.inr (.inr (.inl ⟨d,rfl⟩)),⟨[vU s.c 6 0 0 d],rfl,λ e w k=>.inr ⟨by rw[ja.1 w];unfold vU;split<;>exact a,rfl,by
  rw[ja.1 w];unfold vU;split
  .exact (by decide:(0:Int)≠4)
  .exact h⟩⟩,.inl (show(1:Int)≠6 by decide)⟩
def uk(k n v o:Int):Sm s (s.kJ k n v o):=.rf rfl rfl rfl
def Sm.ah(h:Sm s t)(q:t.c.ph=s.c.ph):Go s t:=h.go (.inr (.inl q))
def xfy:Go s s.cJ:=by
 unfold cJ
 by_cases h:s.c.la.lane=0
 .rw [qr h];exact⟨.inl rfl,⟨[],(ze _).symm,λ _ h=>nomatch h⟩,.inr (.inl ⟨rfl,rfl⟩)⟩
 rw[qo h]
 by_cases a:s.c.la.lane=3
 .rw [qr a];exact .rf rfl rfl rfl (.inr (.inr a))
 rw[qo a];split
 .exact .rf rfl rfl rfl (.inl (show(10:Int)≠6 by decide))
 .exact (uk ..).then Vj (.inl rfl)
def zX(f:mE)(a:Int):Go s (s.kY f a):=by
 unfold kY;simp only
 by_cases h:s.c.la.lane=3
 .have n:s.c.la.lane≠0:=by rw[h];decide
  rw[qr h];exact .ite (.rf rfl rfl rfl (.inr (.inr h))) (Sm.go (Sm.on (RA ..) (.rf rfl rfl rfl)) (.inr (.inr h)))
 .rw [qo h];split
  .exact (RA ..).ah rfl
  .exact .ite (Sm.ah (Sm.on (RA ..) (uk ..)) rfl) ((uk ..).ah rfl)
def xi6(f:mE)(a:Int):Go s (s.ic f a):=by
 unfold ic;simp only
 by_cases h:s.c.la.lane=3
 .have n:s.c.la.lane≠0:=by rw[h];decide
  rw[qr h];exact .ite (.rf rfl rfl rfl (.inr (.inr h))) (Sm.go (Sm.on (SU (by decide) ..) (.rf rfl rfl rfl)) (.inr (.inr h)))
 .rw [qo h];refine .ite (Sm.ah (Sm.on (SU (by decide) ..) (.rf rfl rfl rfl)) rfl) (.ite (.ite (Sm.ah (Sm.on (SU (by decide) ..) (uk ..)) rfl) ?_) ((uk ..).ah rfl));exact Sm.ah (Sm.on (SU (by decide) ..) (.rf rfl rfl rfl)) rfl
def GC:Go s s.ends:=by
 unfold ends;simp only
 by_cases a:s.c.la.lane=3
 .rw [qr a];exact .rf rfl rfl rfl (.inr (.inr a))
 rw[qo a];refine .ite ?_ (.ite ?_ ((uk ..).then Rw (.inl rfl)))
 .exact .rf rfl rfl rfl (.inl (show(9:Int)≠6 by decide))
 .exact .rf rfl rfl rfl (.inl (show(7:Int)≠6 by decide))
def xi4:Go s s.iZ:=by
 unfold iZ;simp only;have a:Sm s {(s.tell 1 0 0 0)with c:={(s.tell 1 0 0 0).c with aQ:=[],done:=0,wrote:=false,said:=false}}:=(MT (by decide)).trans (.rf rfl rfl rfl);refine .ite ?_ (.ite ?_ ?_)
 .exact Sm.go (Sm.trans a (.rf rfl rfl rfl)) (.inl (show(2:Int)≠6 by decide))
 .exact Sm.go (Sm.trans a (.rf rfl rfl rfl)) (.inl (show(3:Int)≠6 by decide))
 .by_cases d:s.c.la.lane=3
  .refine .ite ?_ ?_
   .exact Sm.go (Sm.trans a (.rf rfl rfl rfl)) (.inr (.inr d))
   .exact Sm.go (Sm.trans a (.rf rfl rfl rfl)) (.inl (show(4:Int)≠6 by decide))
  .rw [qo (show¬_=(3:Int)from d)];exact Sm.go (Sm.trans a (.rf rfl rfl rfl)) (.inl (show(4:Int)≠6 by decide))
def Cf:Go s s.nE:=by
 unfold nE;simp only;refine .ite ((uk ..).ah rfl) (.ite ?_ ?_)
 .exact Sm.go (Sm.trans (Sm.trans (uk 2 0 (aj .u64 (s.c.seq+1)) s.c.seq) (MT (k:=4) (a:=0) (v:=0) (d:=0) (by decide))) (.rf rfl rfl rfl)) (.inl (show(0:Int)≠6 by decide))
 .exact Go.rf rfl rfl rfl (.inl (show(4:Int)≠6 by decide))
def xi5(h:s.c.la.lane=3):Go s s.eL:=by
 unfold eL;refine .ite (xeb (by rw[h];decide) (by decide)) (.ite (.rf rfl rfl rfl (.inr (.inr h))) (.ite ?_ (.ite Rw Vj)));exact Sm.go (Sm.on (RA ..) (.rf rfl rfl rfl)) (.inr (.inr h))
def DO(h:s.c.la.lane=3)(v:Int)(q:Bool):Go s (s.given v q):=by
 unfold given;simp only;have d:Sm s {s with c:={s.c with held:=s.c.held ||q && decide (s.c.so.want.a=0),so:=s.c.so.eO v q}}:=.rf rfl rfl rfl;generalize({s with c:={s.c with held:=s.c.held ||q && decide (s.c.so.want.a=0),so:=s.c.so.eO v q}}:CS)=t at *;have hu:Sm s (if s.c.so.aC=true/\(s.c.so.eO v q).aC=false then t.aw else t):=.ite (d.trans qxm) d;generalize(if s.c.so.aC=true/\(s.c.so.eO v q).aC=false then t.aw else t)=u at *;have hw:Sm s (if s.c.so.points<u.c.so.points then u.tell 4 0 0 0 else u):=.ite (hu.trans (MT (by decide))) hu;generalize(if s.c.so.points<u.c.so.points then u.tell 4 0 0 0 else u)=w at *;exact .ite (hw.go (.inr (.inr h))) (hw.then (xi5 (by rw[hw.l];exact h)) (.inr h))
def DE(h:s.c.la.lane=3):Go s s.mJ:=by
 unfold mJ;simp only;have b:∀{k n v o},Go s (s.kJ k n v o):=λ{k n v o}=>(uk k n v o).ah rfl;have g:∀{k n v o x q},Go s ((s.kJ k n v o).given x q):=λ{k n v o x q}=>(uk k n v o).then (DO (s:=s.kJ k n v o) h x q) (.inl rfl)
 exact .ite (.ite g b) (.ite (.ite g b) (.ite (.ite g b) (.rf rfl rfl rfl (.inr (.inl rfl)))))
def AJ:Go s s.aK:=by
 unfold aK gG;simp only;split
 .exact .ite (.rf rfl rfl rfl (.inr (.inl rfl))) ((uk ..).ah rfl)
 .exact .ite ((uk ..).then Rw (.inl rfl)) ((uk ..).ah rfl)
def Bm:Go s s.mY:=by
 unfold mY;simp only;have i:Go s s.cJ:=xfy;refine .ite (.ite (.rf rfl rfl rfl (.inr (.inl rfl))) i) (.ite i (.ite (.rf rfl rfl rfl (.inr (.inl rfl))) (.ite (((BP ..).trans (QA ..)).ah rfl) (.ite ((QA ..).ah rfl) (.ite (zX ..) (.ite (xi6 ..) (.ite ?_ GC)))))));exact⟨.inr (.inr (.inr rfl)),⟨[],(ze _).symm,λ _ h=>nomatch h⟩,.inl (show(1:Int)≠6 by decide)⟩
def Jf(h:s.c.ph=6->s.c.la.lane=3):Go s s.act:=by
 unfold act;have k:∀{t:CS},Sm s t->t.c.ph=s.c.ph\/t.c.ph≠6->Go s t:=λ h q=>h.go (q.elim (λ q=>.inr (.inl q)) .inl);have b:∀{k n v o},Go s (s.kJ k n v o):=λ{k n v o}=>(uk k n v o).ah rfl;refine .ite Bm (.ite xi4 (.ite ?_ (.ite ?_ (.ite ?_ (.ite Cf ?_)))))
 .exact .ite (.ite (k (.rf rfl rfl rfl) (.inr (show(3:Int)≠6 by decide))) (k (.rf rfl rfl rfl) (.inr (show(3:Int)≠6 by decide)))) b
 .exact .ite (.ite (k (.rf rfl rfl rfl) (.inr (show(0:Int)≠6 by decide))) (k (.rf rfl rfl rfl) (.inr (show(0:Int)≠6 by decide)))) b
 .exact .ite (k (.rf rfl rfl rfl) (.inr (show(5:Int)≠6 by decide))) b
 by_cases a:s.c.ph=6
 .rw [qr a];exact DE (h a)
 rw[qo a];refine .ite ?_ (.ite ((uk ..).then Rw (.inl rfl)) (.ite AJ (.ite ?_ (.rf rfl rfl rfl (.inr (.inl rfl))))))
 .exact .ite (k (.rf rfl rfl rfl) (.inr (show(8:Int)≠6 by decide))) b
 .exact .ite ((uk ..).then Vj (.inl rfl)) b
def Gf{f b o:Int}(m:f<=16)(hs:b<=16)(ho:o<=16)(h:IB f b o s.c.la)(j:s.c.ph=6->s.c.la.lane=3) :
 IB f b o s.step.1.c.la/\(s.step.1.c.ph=6->s.step.1.c.la.lane=3)/\(s.step.1.c.la.lane=0\/s.c.la.lane<=s.step.1.c.la.lane) /\ ∃l,s.step.1.o=s.o++l /\ ∀e∈l,e.kind=6->e.code=7/\s.step.1.c.lM=true\/e.code≠7/\s.step.1.c.lM=false/\e.lane≠4:=by
 have key:∀{t:CS},Go s t->s.c.lM=false->IB f b o t.c.la/\(t.c.ph=6->t.c.la.lane=3)/\(t.c.la.lane=0\/s.c.la.lane<=t.c.la.lane) /\ ∃l,t.o=s.o++l /\ ∀e∈l,e.kind=6->e.code=7/\t.c.lM=true\/e.code≠7/\t.c.lM=false/\e.lane≠4:=λ{t}g nb=>by
  have a:IB f b o t.c.la/\(t.c.la.lane=0\/s.c.la.lane<=t.c.la.lane):=by
   rcases g.l with e|e|⟨d,e⟩|e
   .rw [e];exact⟨h,.inr (ya _)⟩
   .rw [e];exact h.leave
   .rw [e];exact h.abort m hs ho d
   .rw [e];exact h.enter
  refine⟨a.1,λ q=>?_,a.2,by have:=g.o;rw[nb]at this;exact this⟩;rcases g.p with p|⟨n,v⟩|p
  .exact (p q).elim
  .rw [v];exact j (n.symm.trans q)
  .exact p
 have none:∀{t:CS},t=s->IB f b o t.c.la/\(t.c.ph=6->t.c.la.lane=3)/\(t.c.la.lane=0\/s.c.la.lane<=t.c.la.lane) /\ ∃l,t.o=s.o++l /\ ∀e∈l,e.kind=6->e.code=7/\t.c.lM=true\/e.code≠7/\t.c.lM=false/\e.lane≠4:=λ{t}e=>by
  subst e;exact⟨h,j,.inr (ya _),[],(ze _).symm,λ _ h=>nomatch h⟩
 unfold step;split
 .exact none rfl
 rename_i nb;have nb:s.c.lM=false:=Bool.not_eq_true _▸nb;split
 .exact none rfl
 split
 .rename_i q;have q:=q.1;unfold La.pG at q;refine key (xeb (λ e=>?_) ?_) nb
  .rw [e]at q;exact absurd q (by decide)
  .unfold oq;split
   .decide
   .omega
 .exact key (Jf j) nb
end
end CS
end Go.Am
namespace Go.Am
open Lang Go.Proofs
variable{M:ak}[MK M]
def i5:[AV.int .i64 0,.int .i64 0,.int .i64 0,.int .i64 0,.int .i64 0]=La.fL.map iC:=rfl
def U4(l:List Int):aJ (l.map iC)=true:=by rw[yj,List.all_map];exact wq.2 λ _ _=>rfl
section
variable{H H':ar}{o:Nat->Nat}{p f l sp k:Nat}{cv rv ov pv:AV}{c:Co}{os:List iq}{x:La}
def Dg(h:dH H o p f l sp cv rv ov pv c os k):∀K,C3 M true (.func qk2) [.ptr p 0] H K=K true (.tuple [.bool c.halted,.bool c.lM]) H:=by
 refine dW (qtf ?_);simp only[aa,bc,qtg,aA,QX h,h.bq]
def Bi(h:kN H l x):za M XG [.ptr l 0] H λ v H'=>v=.agg (x.gT.map iC)/\Fr Em H H':=by
 refine qhb ?_;obtain⟨H1,d,g,-,-⟩:=bX H (OR (La.fL.map iC) fR);have a:=h.em g;obtain⟨m,s,ld,j,-⟩:=tX (H:=H1) (n:=5) (z:=La.fL.map iC) (l:=x.gT.map iC) (e:=fR) (b:=H.au) (by rw[d,xf]) rfl (by rw[xp];exact a.w.c5) (U4 _);simp only[aa,bc,Yh,i5,<-d,aA,fJ a,Iw a,s,ld];exact g.trans j λ z(q:z=H.au)=>.inr (by omega)
def Cp(h:dH H o p f l sp cv rv ov pv c os k):za M qk1 [.ptr p 0] H λ v H'=>v=.agg (c.la.gT.map iC)/\Fr Em H H':=by
 refine qtd ?_;obtain⟨H1,d,g,n1,-⟩:=bX H (OR (La.fL.map iC) fR);have a:=h.fr g (λ _ _ _ q=>q) (λ _ _=>rfl) (qg _);simp only[aa,bc,qte,i5,<-d,aA,QX a,a.bq];refine C3.q (Bi (M:=M) a.la) λ v m⟨A,j⟩=>?_;subst A;obtain⟨C,s,ld,y,-⟩:=tX (H:=m) (n:=5) (z:=La.fL.map iC) (l:=c.la.gT.map iC) (e:=fR) (b:=H.au) (by rw[j.ah _ (by omega) id,d,xf]) rfl (by rw[xp];exact a.la.w.c5) (U4 _);simp only[aa,bc,s,ld];exact(g.em j).trans y λ z(q:z=H.au)=>.inr (by omega)
end
structure JU(f s o:Int)(cs:List Co)(Ls:List Int):Prop where
 l4:Ls.length=4
 c4:cs.length<=4
 j:∀(i:Nat)c,cs[i]? = some c->IB f s o c.la/\(c.ph=6->c.la.lane=3)/\Ls[i]? = some c.la.lane
def yT(k:Nat)(cs:List Co)(Ls:List Int):List Int:=Ls.mapIdx λ i x=>if i<k then match cs[i]? with
 |some c=>c.la.lane
 |none=>x
 else x
def Mm(k:Nat)(cs:List Co)(Ls:List Int)(i:Nat):(yT k cs Ls)[i]? = (Ls[i]?).map λ x=>if i<k then match cs[i]? with
 |some c=>c.la.lane
 |none=>x
 else x:=by unfold yT;rw[List.getElem?_mapIdx]
def QB(k:Nat)(cs:List Co)(Ls:List Int):(yT k cs Ls).length=Ls.length:=List.length_mapIdx
def BV(cs:List Co)(Ls:List Int):yT 0 cs Ls=Ls:=by
 apply jz;intro i;rw[Mm];simp
def Bp{k:Nat}{cs:List Co}{Ls:List Int}{c:Co}{x:Int}(d:cs[k]? = some c)(a:Ls[k]? = some x):yT (k+1) cs Ls=(yT k cs Ls).set k c.la.lane/\(yT k cs Ls)[k]? = some x:=by
 have hl:=(qk.1 a).1;refine⟨?_,by rw[Mm,a,wl,qo (A9 k)]⟩;apply jz;intro i
 by_cases w:i=k
 .subst w;rw[xr (by rw[QB];exact hl),Mm,a,wl,qr (zp i),d]
 .rw [xw (λ e=>w e.symm),Mm,Mm]
  by_cases q:i<k
  .simp only[qr q,qr (show i<k+1 by omega)]
  .simp only[qo q,qo (show¬i<k+1 by omega)]
def JU.step{f s r:Int}{b:Bu}{cs cs':List Co}{o:List iq}{Ls:List Int}(hb:0<cs.length->f<=16/\s<=16/\r<=16)(h:JU f s r cs Ls)(pl:Pl b cs cs' o)(C:∀(i:Nat)c,cs[i]? = some c->c.id=i):JU f s r cs' (yT cs'.length cs' Ls) /\
 (∀(i:Nat)c,cs'[i]? = some c -> ∃x,Ls[i]? = some x/\(c.la.lane=0\/x<=c.la.lane)) /\ ∀e∈o,∃(i:Nat)(c:Co),cs'[i]? = some c/\e.core=(i:Int)/\(e.kind=6->e.code=7/\c.lM=true\/e.code≠7/\c.lM=false/\e.lane≠4):=by
 have G:∀{i:Nat}{c:Co}{x:Int},cs'[i]? = some c->Ls[i]? = some x->(yT cs'.length cs' Ls)[i]? = some c.la.lane:=λ{i c x}g R=>by
  rw[Mm,R,wl,qr (qk.1 g).1,g]
 rcases pl with⟨rfl,rfl⟩|⟨i,c,g,rfl,rfl⟩
 .refine ⟨⟨by rw[QB];exact h.l4,h.c4,λ i c g=>?_⟩,λ i c g=>?_,λ e w=>nomatch w⟩
  .obtain ⟨a,d,e⟩:=h.j i c g;exact⟨a,d,G g e⟩
  .obtain ⟨a,d,e⟩:=h.j i c g;exact⟨_,e,.inr (ya _)⟩
 .have Q:=(qk.1 g).1;obtain⟨a,d,e⟩:=h.j i c g;obtain⟨L,N,O⟩:=hb (by omega);obtain⟨I,J,T,l,K,ev⟩:=CS.Gf (s:=⟨c,b,[]⟩) L N O a d;obtain⟨l2,A,-,D⟩:=CS.Bz ⟨c,b,[]⟩;generalize(CS.step ⟨c,b,[]⟩).1=t at *;have v:(cs.set i t.c)[i]? = some t.c:=xr Q;have lP:∀{m:Nat}{n:Co},(cs.set i t.c)[m]? = some n->(m=i/\n=t.c)\/cs[m]? = some n:=λ{m n}q=>by
   by_cases w:m=i
   .subst w;rw[v]at q;injection q with q;exact .inl ⟨rfl,q.symm⟩
   .rw [xw (λ e=>w e.symm)]at q;exact .inr q
  refine⟨⟨by rw[QB];exact h.l4,by rw[xg];exact h.c4,λ m n q=>?_⟩,λ m n q=>?_,λ x w=>?_⟩
  .rcases lP q with⟨rfl,rfl⟩|E
   .exact ⟨I,J,G v e⟩
   .obtain ⟨F,d2,y⟩:=h.j m n E;exact⟨F,d2,G q y⟩
  .rcases lP q with⟨rfl,rfl⟩|E
   .exact ⟨_,e,T⟩
   .obtain ⟨F,d2,y⟩:=h.j m n E;exact⟨_,y,.inr (ya _)⟩
  .exact ⟨i,t.c,v,(D x (by rw[A]at w;exact w)).trans (C i c g),ev x (by rw[K]at w;exact w)⟩
end Go.Am
namespace Go.Am
open Lang Go.Proofs
variable{M:ak}[MK M]
def Pl.len{b:Bu}{cs cs':List Co}{o:List iq}(h:Pl b cs cs' o):o.length<=3:=by
 rcases h with⟨-,rfl⟩|⟨i,c,-,-,rfl⟩
 .exact xy _
 .obtain ⟨l,e,h,-⟩:=CS.Bz ⟨c,b,[]⟩;rw[e];exact h
def yW(f s o:Int)(Ls:List Int):List (List AV×Nat):=[([.int .i64 0,.int .i64 f,.int .i64 s,.int .i64 o,.int .i64 0],fR),(Ls.map iC,wH)]
section
variable{Hb H H1:ar}{B k i z S:Nat}{bs:Bs}{own:Nat->Nat}{ks:List Ck}{V:Int->L8}{b:Bu}{cs:List Co}{c:Co}{cvs ov lv:AV}{Ls:List Int}{f s r:Int}{o:List iq}
def sN(i z S B:Nat)(cvs lv:AV):Env:=[(14,.int .i64 (i:Int)),(13,.ptr (z+1) 0),(12,.ptr z 0),(7,cvs),(6,.ptr B 0),(5,.bool true),(2,.ptr S 0),(1,lv)]
def JR{Q:aF}{X:List (List AV×Nat)}(h:LR Hb H1 H B bs own ks V k b cs cvs z X)(ow:dU iq.enc 9 H ov o)(o3:o.length<=3)(hev:∀e∈o,∃(i:Nat)(c:Co),cs[i]? = some c/\e.core=(i:Int)/\(e.kind=6->e.code=7/\c.lM=true\/e.code≠7/\c.lM=false/\e.lane≠4))(j:Nat)
 (hQ:∀H' D v16,LR Hb H1 H' B bs own D V k b cs cvs z X->W M ⟨none,jp⟩ (HH jp 58) true Q ((16,v16)::(15,ov)::sN j z S B cvs lv) [] H') :
 W M ⟨none,jp⟩ (HH jp 33) true Q ((15,ov)::sN j z S B cvs lv) [] H:=by
 obtain⟨-,-,-,-,-,-,-,-,-,w33,-,g,-,v,-,C,w,-,-,-,-,-,-,-⟩:=RS M ⟨none,jp⟩;simp only[aa,bc,w33];refine de.intro (λ nn E a=>∃(i:Nat)(D:List Ck),E=(16,.int .i64 (i:Int))::(15,ov)::sN j z S B cvs lv/\nn=o.length-i/\i<=o.length/\LR Hb H1 a B bs own D V k b cs cvs z X/\Fr Em H a) ?_ ?_
 .exact ⟨_,_,⟨0,ks,rfl,rfl,xy _,h,Fr.refl _⟩,by unfold sN;simp only[aa,bc]⟩
 rintro nn E a ⟨i,kx,rfl,rfl,hi,hx,K⟩;have so:dU iq.enc 9 a ov o:=Sl.em ow K;have ln:=so.len;unfold sN at *;rcases xq i o.length with d|hge
 .obtain ⟨e,he⟩:∃e,o[i]? = some e:=⟨_,qt d⟩
  have wi:aj .i64 ((i:Int)+1)=((i+1:Nat):Int):=by rw[js (by omega) (by omega)];omega
  have I:(i:Int)<((o.length:Nat):Int):=by omega
  have ix:=so.idx he (z:=(i:Int)) rfl .i64;have l9:=so.aq (enc:=iq.enc) (size:=9) FW (by decide) he;obtain⟨m,c,hc,em,h6⟩:=hev e (x9 he);obtain⟨H2,L,f2,-,-⟩:=bX a (OR (IM.enc) yv);obtain⟨F,s3,-,f3,R⟩:=tX (H:=H2) (n:=9) (z:=IM.enc) (l:=e.enc) (e:=yv) (b:=a.au) (by rw[L,xf]) rfl rfl rfl;have J:Fr Em a F:=f2.trans f3 λ y(q:y=a.au)=>.inr (by omega);have N:=hx.em J;obtain⟨A,hcr,-,T,ld,ldz⟩:=N.core hc;have G:=Dg (M:=M) hcr;have U:Op.ae [.ptr a.au 0] F=some (.int .i64 e.kind):=vd R 0;have Y:Op.ae [.ptr a.au 2] F=some (.int .i64 (m:Int)):=(vd R 2).trans (by rw[<-em];rfl);have k5:Op.ae [.ptr a.au 5] F=some (.int .i64 e.lane):=vd R 5;have Z:Op.ae [.ptr a.au 8] F=some (.int .i64 e.code):=vd R 8;have e1:∀b,Op.eq tu.bool true [.bool b,.bool b] F=some (.bool false):=λ b=>by cases b<;>rfl
  by_cases O:e.kind=6
  .rcases h6 O with⟨c7,hb⟩|⟨c7,hb,l4⟩
   .have n7:¬(7:Int)≠7:=λ q=>q rfl;rw[c7]at Z;rw[hb]at G
    by_cases q4:e.lane=4
    .simp only[aa,bc,g,ln,I,v,ix,l9,Mn,<-L,s3,Y,T,ld,G,aA,w,U,O,Z,e1,k5,q4,n7,C,wi];exact⟨_,_,⟨i+1,_,rfl,rfl,d,N,K.em J⟩,by simp only[aa,bc],by omega⟩
    .simp only[aa,bc,g,ln,I,v,ix,l9,Mn,<-L,s3,Y,T,ld,G,aA,w,U,O,Z,e1,k5,q4,C,wi];exact⟨_,_,⟨i+1,_,rfl,rfl,d,N,K.em J⟩,by simp only[aa,bc],by omega⟩
   .rw [hb]at G;simp only[aa,bc,g,ln,I,v,ix,l9,Mn,<-L,s3,Y,T,ld,G,aA,w,U,O,Z,c7,e1,k5,l4,C,wi];exact⟨_,_,⟨i+1,_,rfl,rfl,d,N,K.em J⟩,by simp only[aa,bc],by omega⟩
  .simp only[aa,bc,g,ln,I,v,ix,l9,Mn,<-L,s3,Y,T,ld,G,aA,w,U,O,C,wi];exact⟨_,_,⟨i+1,_,rfl,rfl,d,N,K.em J⟩,by simp only[aa,bc],by omega⟩
 .have I:¬(i:Int)<((o.length:Nat):Int):=by omega
  simp only[aa,bc,g,ln,I];exact hQ _ _ _ hx
def LR.atU(h:LR Hb H1 H B bs own ks V k b cs cvs z (yW f s r Ls))(l4:Ls.length=4){x:Int}(d:Ls[i]? = some x):Op.aS 4 1 [.ptr (z+1) 0,.int .i64 (i:Int)]=some (.ptr (z+1) i)/\Op.ae [.ptr (z+1) i] H=some (.int .i64 x) /\ ∃H',Op.store 1 [.ptr (z+1) i,.int .i64 c.la.lane] H=some (.undef,H')/\Fr (λ y=>y=z+1) H H'/\LR Hb H1 H' B bs own (wide ks H.au) V k b cs cvs z (yW f s r (Ls.set i c.la.lane)):=by
 have g:i<4:=by have:=(qk.1 d).1;omega
 have a:=(h.bx 1 _ rfl).1;refine⟨by rw[Me rfl g,jy,IV],?_,_,a.st i rfl (by show i<(Ls.map iC).length;rw[xp];omega),cE ..,?_⟩
 .refine (a.ld i).trans ?_;show(Ls.map iC)[i]? = _;rw[xj,d];rfl
 .have q:=h.set (i:=1) rfl ((Ls.map iC).set i (.int .i64 c.la.lane));have e:yW f s r (Ls.set i c.la.lane)=(yW f s r Ls).set 1 ((Ls.map iC).set i (.int .i64 c.la.lane),wH):=by unfold yW;rw[List.map_set];rfl
  rw[e];exact q
def GW{Q:aF}(h:LR Hb H1 H B bs own ks V k b cs cvs z (yW f s r Ls))(l4:Ls.length=4)(hc:cs[i]? = some c){x:Int}(hx:Ls[i]? = some x)(hI:IB f s r c.la)(hl:c.la.lane=0\/x<=c.la.lane)(j:Nat)
 (hQ:∀H' ks' v22 v21,LR Hb H1 H' B bs own ks' V k b cs cvs z (yW f s r (Ls.set i c.la.lane))->W M ⟨none,jp⟩ (HH jp 102) true Q ((22,v22)::(21,v21)::(20,.int .i64 (i:Int))::(15,ov)::sN j z S B cvs lv) [] H') :
 W M ⟨none,jp⟩ (HH jp 68) true Q ((20,.int .i64 (i:Int))::(15,ov)::sN j z S B cvs lv) [] H:=by
 obtain⟨A,J,-,ix,ld,-⟩:=h.core hc;obtain⟨-,-,-,-,-,-,-,-,-,-,-,-,-,-,w68,-,-,-,w72,R,C,d,w83,w92⟩:=RS M ⟨none,jp⟩;unfold sN at *;simp only[aa,bc,w68,ix,ld];refine C3.q (Cp (M:=M) J) λ v g⟨hv,f2⟩=>?_;subst hv;obtain⟨H3,Y,f3,-,-⟩:=bX g (OR (La.fL.map iC) fR);obtain⟨X,s4,-,f4,Z⟩:=tX (H:=H3) (n:=5) (z:=La.fL.map iC) (l:=c.la.gT.map iC) (e:=fR) (b:=g.au) (by rw[Y,xf]) rfl (by rw[xp];exact J.la.w.c5) (U4 _);have F4:Fr Em H X:=(f2.em f3).trans f4 λ y(q:y=g.au)=>.inr (by have:=f2.au;omega);have I:=h.em F4;have hn4:g.au<X.au:=by have:=f4.au;rw[Y,xx]at this;omega
 simp only[aa,bc,i5,<-Y,s4,w72];obtain⟨a,b',c',hct,-,-,hab,-⟩:=hI;refine de.intro (λ nn E D=>∃(m:Nat),E=(22,.int .i64 (m:Int))::(21,.ptr g.au 0)::(20,.int .i64 (i:Int))::(15,ov) :: [(14,.int .i64 (j:Int)),(13,.ptr (z+1) 0),(12,.ptr z 0),(7,cvs),(6,.ptr B 0),(5,.bool true),(2,.ptr S 0),(1,lv)]/\nn=5-m/\m<=5/\Fr Em X D) ?_ ?_
 .exact ⟨_,_,⟨0,rfl,rfl,xy _,Fr.refl _⟩,by simp only[aa,bc]⟩
 rintro nn E D ⟨m,rfl,rfl,hm,U⟩;have I:=I.em U;have Z:D.get g.au=some (OR (c.la.gT.map iC) fR):=by rw[U.ah _ hn4 id];exact Z
 rcases xq m 5 with L|hge
 .have T:(m:Int)<5:=by omega
  have wi:aj .i64 ((m:Int)+1)=((m+1:Nat):Int):=by rw[js (by omega) (by omega)];omega
  have i1:∀p:Nat,Op.aS 5 1 [.ptr p 0,.int .i64 (m:Int)]=some (.ptr p m):=λ p=>by rw[Me rfl L,jy,IV]
  have a0:=(I.bx 0 _ rfl).1;obtain⟨u,w,l1,l2,hle⟩:∃u w:Int,Op.ae [.ptr g.au m] D=some (.int .i64 u)/\Op.ae [.ptr z m] D=some (.int .i64 w) /\ ¬w<u:=by
   have F:=vd Z m;have G:Op.ae [.ptr z m] D=_:=a0.ld m;rw[hct]at F;rcases(show m=0\/m=1\/m=2\/m=3\/m=4 by omega)with rfl|rfl|rfl|rfl|rfl
   .exact ⟨0,0,F,G,by decide⟩
   .exact ⟨a,f,F,G,by omega⟩
   .exact ⟨b',s,F,G,by omega⟩
   .exact ⟨c',r,F,G,by omega⟩
   .exact ⟨0,0,F,G,by decide⟩
  simp only[aa,bc,C,T,w83,i1,l1,l2,hle,w92,wi];exact⟨_,_,⟨m+1,rfl,rfl,L,U⟩,by simp only[aa,bc],by omega⟩
 .have T:¬(m:Int)<5:=by omega
  obtain⟨A4,K,-,iy,O,-⟩:=I.core hc;obtain⟨N,l1,H5,s5,f5,h5⟩:=I.atU l4 hx (c:=c);have ln:=JG (M:=M) K
  by_cases p0:0<c.la.lane
  .have p1:¬c.la.lane<x:=by omega
   simp only[aa,bc,C,T,R,iy,O,ln,p0,N,l1,p1,d,s5];exact hQ _ _ _ _ h5
  .simp only[aa,bc,C,T,R,iy,O,ln,p0,N,d,s5];exact hQ _ _ _ _ h5
def BZ{Q:aF}(h:LR Hb H1 H B bs own ks V k b cs cvs z (yW f s r Ls))(l4:Ls.length=4)(c4:cs.length<=4)(J:∀(i:Nat)c,cs[i]? = some c->IB f s r c.la /\ ∃x,Ls[i]? = some x/\(c.la.lane=0\/x<=c.la.lane))(j:Nat)(v:AV)
 (G:∀H' a y,LR Hb H1 H' B bs own a V k b cs cvs z (yW f s r (yT cs.length cs Ls))->uT (sN j z S B cvs lv) y->Q .normal y [] H') :
 W M ⟨none,jp⟩ (HH jp 58) true Q ((16,v)::(15,ov)::sN j z S B cvs lv) [] H:=by
 obtain⟨-,-,-,-,-,-,-,-,-,-,w,-,g,-,-,-,-,e,-,-,-,-,-,-⟩:=RS M ⟨none,jp⟩;simp only[aa,bc,w];refine de.intro (λ nn E A=>∃(i:Nat)(a:List Ck),E=(20,.int .i64 (i:Int))::(15,ov)::sN j z S B cvs lv/\nn=cs.length-i/\i<=cs.length/\LR Hb H1 A B bs own a V k b cs cvs z (yW f s r (yT i cs Ls))) ?_ ?_
 .exact ⟨_,_,⟨0,ks,rfl,rfl,xy _,by rw[BV];exact h⟩,by unfold sN;simp only[aa,bc]⟩
 rintro nn E A ⟨i,U,rfl,rfl,T,n⟩;have ln:=n.len;rcases xq i cs.length with d|I
 .obtain ⟨c,m⟩:∃c,cs[i]? = some c:=⟨_,qt d⟩
  obtain⟨hI,x,F,hl⟩:=J i c m;obtain⟨C,hu⟩:=Bp m F;have L:(yT i cs Ls).length=4:=by rw[QB];exact l4
  have R:aj .i64 ((i:Int)+1)=((i+1:Nat):Int):=by rw[js (by omega) (by omega)];omega
  have q:(i:Int)<((cs.length:Nat):Int):=by omega
  have go:=λ Q'=>GW (M:=M) (S:=S) (ov:=ov) (lv:=lv) (Q:=Q') n L m hu hI hl j;unfold sN at *;simp only[aa,bc,g,ln,q];refine go _ λ H' a O N D=>?_;simp only[aa,bc,e,R];exact⟨_,_,⟨i+1,a,rfl,rfl,d,by rw[C];exact D⟩,by simp only[aa,bc],by omega⟩
 .have q:¬(i:Int)<((cs.length:Nat):Int):=by omega
  have K:i=cs.length:=by omega
  subst K;unfold sN at *;simp only[aa,bc,g,ln,q];exact G _ _ _ n (by simp only[aa,bc])
end
def JU.zero{l f so sf:Int}{qs:List (List gO)}(g:qs.length<=4)(hb:0<qs.length->okB f so sf):JU f so sf (Dt l f so sf qs qs.length) [0,0,0,0]:=by
 refine⟨rfl,by rw[SH];exact g,λ i c d=>?_⟩;have e:=(qk.1 d).1;rw[SH]at e;obtain⟨h,j,m⟩:=hb (by omega);unfold Dt at d;rw[xj,yg e]at d;injection d with d;subst d
 refine⟨IB.of (a:=0) (b:=0) (c:=0) (k:=0) (by omega),λ q=>absurd (show(0:Int)=6 from q) (by decide),?_⟩;rcases(show i=0\/i=1\/i=2\/i=3 by omega)with rfl|rfl|rfl|rfl<;>rfl
def q4o{H:ar}{l c s w f so sf:Int}{cv lv:AV}{G:List (AV×List gO)}{C:List Ac}(hal:∀H1,Fr Em H H1->za M q6w [] H1 λ v H'=>v=.bool true/\H'=H1)(hS:u6 H)
 (hP:dU nj 1 H cv G) (hps:∀p∈G,dU fh 5 H p.1 p.2) (ha:dU qO 3 H lv C):za M jp [.agg (uJ l c s w cv f so sf),lv] H λ v _=>v=.bool true:=by
 refine qt5 ?_;obtain⟨w0,w4,w6,w14,w18,Y,w23,w29,W,-,-,-,-,-,-,-,-,-,-,-,-,-,-,-⟩:=RS M ⟨none,jp⟩;obtain⟨H1,e1,K,n1,g1⟩:=bX H (OR (uJ l c s w cv f so sf) kz);have k8:Op.aq 8 [.ptr H.au 0] H1=some (.agg (uJ l c s w cv f so sf)):=fp g1 rfl;simp only[aa,bc,w0,<-e1];refine C3.q (hal H1 K) λ v X⟨hv,hh⟩=>?_;subst hv;subst hh;simp only[aa,bc,w4,k8];refine C3.q (xjq (M:=M) (l:=l) (c:=c) (s:=s) (w:=w) (f:=f) (so:=so) (sf:=sf) (Sl.em hP K) λ p q=>Sl.em (hps p q) K) λ v g⟨f2,hm⟩=>?_;rcases hm with⟨q,rfl⟩|⟨Hb,B,cvs,bs,own,ks,V,x,y,rfl,hok,hlen,L,hb2,hr,oc,N⟩
 .simp only[aa,bc,aA,w6]
 have al:=(show dU qO 3 g lv C from Sl.em ha (K.em f2)).len
 by_cases q5:(500:Int)<((C.length:Nat):Int)
 .simp only[aa,bc,aA,w6,al,q5]
 have g2:g.get H.au=some (OR (uJ l c s w cv f so sf) kz):=by rw[f2.ah _ (by omega) id];exact g1
 have m5:Op.ae [.ptr H.au 5] g=some (.int .i64 f):=vd g2 5;have m6:Op.ae [.ptr H.au 6] g=some (.int .i64 so):=vd g2 6;have m7:Op.ae [.ptr H.au 7] g=some (.int .i64 sf):=vd g2 7;obtain⟨H3,e3,f3,n3,g3⟩:=bX g (OR [.int .i64 0,.int .i64 0,.int .i64 0,.int .i64 0,.int .i64 0] fR);obtain⟨I,e4⟩:∃Z,Z=H3.set g.au (OR [.int .i64 0,.int .i64 f,.int .i64 so,.int .i64 sf,.int .i64 0] fR):=⟨_,rfl⟩
 have s4:Op.store 5 [.ptr g.au 0,.agg [.int .i64 0,.int .i64 f,.int .i64 so,.int .i64 sf,.int .i64 0]] H3=some (.undef,I):=by rw[gK (n:=5) (x:=[.int .i64 0,.int .i64 f,.int .i64 so,.int .i64 sf,.int .i64 0]) g3 rfl rfl rfl,e4]
 have f4:Fr (On g.au) H3 I:=e4▸cE ..;have g4:I.get g.au=some (OR [.int .i64 0,.int .i64 f,.int .i64 so,.int .i64 sf,.int .i64 0] fR):=by rw[e4];exact xc ..
 have bd:Op.build [.int .i64 0,.int .i64 0,.int .i64 0,.int .i64 0,.int .i64 0] [(0,1),(1,1),(2,1),(3,1),(4,1)] [.int .i64 0,.int .i64 f,.int .i64 so,.int .i64 sf,.int .i64 0]=some (.agg [.int .i64 0,.int .i64 f,.int .i64 so,.int .i64 sf,.int .i64 0]):=rfl;have n4:I.au=g.au+1:=by rw[e4];exact n3
 obtain⟨J,e5,f5,-,-⟩:=bX I (OR [.int .i64 0,.int .i64 0,.int .i64 0,.int .i64 0] wH);have n5:J.au=g.au+2:=by rw[e5,xx,n4]
 have D:Fr Em g J:=(f3.trans f4 λ y(q:y=g.au)=>.inr (by omega)).em f5;have hB:Hb.au<=g.au:=by have:=hr.r.lo B (.inl rfl);have:=hr.r.lt;omega
 have FH:Fr Em H g:=K.em f2;have X5:LR Hb g J B bs own (wide ks g.au) V 0 (iO l c s w []) (Dt l f so sf (G.map Prod.snd) (G.map Prod.snd).length) cvs g.au (yW f so sf [0,0,0,0]):=by
  refine⟨hr.em D,by rw[IL];exact Own.em oc D,λ y q=>⟨(N y q).1.em D.au,(N y q).1.lt⟩,D.mono λ _ _ q=>q.elim,λ i x e=>?_,hB⟩;have g3:J.get g.au=some (OR [.int .i64 0,.int .i64 f,.int .i64 so,.int .i64 sf,.int .i64 0] fR):=by rw[f5.ah _ (by omega) id];exact g4
  have g5:J.get (g.au+1)=some (OR [.int .i64 0,.int .i64 0,.int .i64 0,.int .i64 0] wH):=by rw[e5,<-n4,xf]
  have hi:=(qk.1 e).1;have hi:i<2:=hi;refine⟨?_,hr.new (by omega) (by omega)⟩;rcases(show i=0\/i=1 by omega)with rfl|rfl
  .injection e with e;subst e;exact⟨g3,by omega⟩
  .injection e with e;subst e;exact⟨g5,by omega⟩
 simp only[aa,bc,aA,w6,al,q5,w14,m5,m6,m7,bd,<-e3,s4,<-e5,w18];have q4:(G.map Prod.snd).length<=4:=by have:=hok.1.2.2;omega
 refine de.intro (λ nn E Hx=>∃(i:Nat)(bs:Bs)(own:Nat->Nat)(ks:List Ck)(V:Int->L8)(b:Bu)(cs:List Co)(Ls:List Int),E=sN i g.au H.au B cvs lv/\nn=C.length-i/\i<=C.length/\LR Hb g Hx B bs own ks V (2*i) b cs cvs g.au (yW f so sf Ls)/\JU f so sf cs Ls/\cs.length=(G.map Prod.snd).length) ?_ ?_
 .exact ⟨_,_,⟨0,bs,own,_,V,_,_,[0,0,0,0],rfl,rfl,xy _,X5,JU.zero q4 L,SH ..⟩,by unfold sN;simp only[aa,bc,n4]⟩
 rintro nn E Hx ⟨i,bs,own,ks,V,b,cs,Ls,rfl,rfl,hi,T,hj,O⟩;have FX:Fr Em H Hx:=FH.trans T.F λ y q=>.inr (by omega);have sa:dU qO 3 Hx lv C:=Sl.em ha FX;unfold sN;rcases xq i C.length with R|hge
 .obtain ⟨a,U⟩:∃a,C[i]? = some a:=⟨_,qt R⟩
  have wi:aj .i64 ((i:Int)+1)=((i+1:Nat):Int):=by rw[js (by omega) (by omega)];omega
  have q0:(i:Int)<((C.length:Nat):Int):=by omega
  have ix:=sa.idx U (z:=(i:Int)) rfl .i64;have ld:=sa.aq xis (by decide) U;simp only[aa,bc,w23,al,q0,w29,ix,ld];refine C3.q (xj3 (M:=M) T.m T.oc (by omega) (hS.em FX) (by have:=hS.2;omega) a) λ ov H6 hp=>?_;obtain⟨b',cs',o,bs',aR,ks',V',h6,pl,ow,ns⟩:=T.NH hp;have hid:∀(i:Nat)c,cs[i]? = some c->c.id=i:=λ i c hc=>by
   obtain⟨A,-,h,-⟩:=T.core hc;exact h
  obtain⟨j',hl',ev⟩:=hj.step (λ q=>by obtain⟨b1,b2,b3⟩:=L (by omega);omega) pl hid;have Q:cs'.length=(G.map Prod.snd).length:=by
   rcases pl with⟨rfl,-⟩|⟨i,c,-,rfl,-⟩
   .exact O
   .rw [xg];exact O
  have c4:=j'.c4;have hl4:=hj.l4;simp only[aa,bc];refine JR h6 (a9.sl ow) pl.len ev i λ H7 ks7 v16 h7=>?_;refine BZ h7 hl4 c4 (λ m d hd=>⟨(j'.j m d hd).1,hl' m d hd⟩) i v16 λ H8 ks8 E8 h8 hE=>?_;have E8:=hE;unfold sN at E8;obtain⟨k14,k13,k12,k7,k6,k5,k2,k1,-⟩:=E8;simp only[aa,bc,W,k14,wi];exact⟨_,_,⟨i+1,bs',aR,ks8,V',b',cs',_,rfl,rfl,R,h8,j',Q⟩,by simp only[aa,bc,k13,k12,k7,k6,k5,k2,k1],by omega⟩
 .have q0:¬(i:Int)<((C.length:Nat):Int):=by omega
  simp only[aa,bc,w23,al,q0,Y]
end Go.Am
