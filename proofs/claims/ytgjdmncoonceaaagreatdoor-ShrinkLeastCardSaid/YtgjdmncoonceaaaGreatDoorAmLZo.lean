import Derived.Test.YtgjdmncoonceaaaGreatDoorAmLZe
import Derived.Test.YtgjdmncoonceaaaGreatDoorAmLZn
import Derived.Test.YtgjdmncoonceaaaGreatDoorAmLZa
import Derived.Test.YtgjdmncoonceaaaGreatDoorAmLZf
set_option linter.defProp false
set_option linter.unusedVariables false
set_option linter.unusedSimpArgs false
set_option linter.unusedSectionVars false
set_option maxRecDepth 100000
open Bool renaming false→B2,true→B4
open False renaming elim→Nn
open Go renaming DataW→Ry,IntKind→PJ,MemPlace→BI,Program→Jv,TypeId→Mj,Value→KP,World→NG
open Go.DataW renaming trod→Oc,weights→Bm,weightsEach→CC
open List renaming drop_left'→Cq,range→N5,replicate→Jr
open Nat renaming beq→JW,blt→Pk
open Option renaming none→B5,some→B1
open Prod renaming snd→CH
open Nat renaming reduceEqDiff→bc
namespace Go.Am
open Go.RowKit
section
variable{P:Jv}
def Wt(P:Jv)(t:Mj){Hh:Type}(d:Ry Hh):Prop:=∀x∈Bm P t d,x<=reachBytes
theorem xia{c:Type}{e:Mj}{x:Nat}{d:Ry c}:∀{l:List (Ry c)},d∈l->x∈Bm P e d->x∈Ry.weightsAll P e l
 |y::l,h,hx=>by
  rw[Ry.weightsAll,jo];rcases kj.1 h with rfl|h
  .grind
  .exact .inr (xia h hx)
def rN(P:Jv)(t:Mj)(R:ar->List AV->Prop):Prop :=
 (∀H H' l,R H l->Fr Em H H'->R H' l) /\ ∀{Hh:Type}(enc:Mj×KP->Hh)(W:NG)(held:Bool)(fuel:Nat)(cs:List KP)(d:Ry Hh)(ps:List BI),
  Oc enc P W 0 (λ _=>B4) held fuel t cs=B1 (d,ps)->Wt P t d -> ∀(θ:Th)(n:Nat)(gl:GL),Good W θ n gl -> ∃θ' n' gl' l,Step W θ n gl θ' n' gl'/\bM (Lt n') θ' l cs/\R (vi gl' n') l
def Zi.J0{t:Mj}{R:ar->List AV->Prop}(h:Zi P t R):rN P t R:=⟨h.1,λ enc W held fuel cs d e c _=>h.2 enc W held fuel cs d e c⟩
def δ{e:Mj}{R:ar->List AV->Prop}(hR:rN P e R){t:Type}(enc:Mj×KP->t)(W:NG)(held:Bool)(fuel:Nat):∀(c:List (List KP)),(∀cs∈c,∃x,Oc enc P W 0 (λ _=>B4) held fuel e cs=B1 x/\Wt P e x.1) ->
 ∀(θ:Th)(n:Nat)(d:GL),Good W θ n d -> ∃(θ':Th)(n':Nat)(f:GL)(ls:List (List AV)),Step W θ n d θ' n' f/\bM (Lt n') θ' ls.flatten c.flatten/\ls.length=c.length /\ ∀(i:Nat)l cs,ls[i]? = B1 l->c[i]? = B1 cs->R (vi f n') l/\l.length=cs.length
 |[],_,θ,n,d,hg=>⟨θ,n,d,[],Step.refl hg,.nil,rfl,λ i l cs h=>by grind⟩
 |cs::c,h,θ,n,d,hg=>by
  have⟨x,u,hw⟩:=h cs (by simp);have⟨θ1,n1,g,l,s1,v1,v⟩:=hR.2 enc W held fuel cs x.1 x.2 u hw θ n d hg;have⟨θ2,n2,j,ls,s2,v2,A,C⟩:=δ hR enc W held fuel c (by grind) θ1 n1 g s1.dm;refine⟨θ2,n2,j,l::ls,s1.trans s2,?_,by grind,λ i z cs' o r=>?_⟩
  .rw [List.flatten_cons,List.flatten_cons];exact(v1.up s2.ag λ b hb=>qn hb s2.le).app v2
  .cases i with
   |zero =>
    simp at o r;subst o;subst r;exact⟨hR.1 _ _ _ v s2.fr,v1.length.symm⟩
   |succ i=>grind
def SlW(P:Jv)(e:Mj)(R:ar->List AV->Prop)(size:Nat)(H:ar)(u:AV):Prop:=HK R size H u /\ ∀k,eJ u=B1 k->k*P.bytesOf e<=reachBytes
def TT{t e:Mj}{R:ar->List AV->Prop}(ht:P.underlying t=B1 (.slice e))(hR:rN P e R)(hs:0<P.cellsOf e):rN P t λ H l=>∃u,l=[u]/\SlW P e R (P.cellsOf e) H u:=by
 refine⟨λ H H' l⟨u,z,h2,h3⟩f=>⟨u,z,h2.em hR.1 f,h3⟩,?_⟩;intro Hh enc W held fuel kW d ps h S θ n gl hg;cases fuel with
 |zero=>cases h
 |succ f =>
  have key:kW=[.slice B5 0 0] \/ ∃a len cap,kW=[.slice (B1 a) len cap]/\len<=cap/\(∀i,i<len -> ∃cs x,W.cells? 0 (a.add (i*P.cellsOf e)) (P.cellsOf e)=B1 cs/\Oc enc P W 0 (λ _=>B4) held f e cs=B1 x/\Wt P e x.1)/\len*P.bytesOf e<=reachBytes/\(len<cap -> ∃cs,W.cells? 0 (a.add (len*P.cellsOf e)) (P.cellsOf e)=B1 cs):=by
   simp only[Oc,ht]at h;split at h<;>first|(cases h;done)|skip
   all_goals first|(rename_i z;cases z;done)|skip
   .left;rfl
   .right;rename_i e' a len cap z;injection z with z;cases z
    split at h
    .rename_i hb;simp only[qj,vF,xt]at h;have⟨elems,he,rest,j,L⟩:=h;injection L with L _
     have hw1:=S ((elems.length+rest.length)*P.bytesOf e) (by grind [Bm]);have hel0:elems.length=len:=by have:=mapM_some_length he;simpa using this
     refine⟨a,len,cap,rfl,hb.2.1,λ i U=>?_,(by grind),λ hlt=>?_⟩
     .have hl:=mapM_some_length he;have:=mapM_some_get he i i (by grind);have C:i<elems.length:=by omega
      rw[xc C]at this;have⟨cs,v,I⟩:=qj.1 this;refine⟨cs,_,v,I,λ x hx=>S x ?_⟩
      grind [Bm,xia,List.mem_map_of_mem,List.getElem_mem]
     .have hl:=mapM_some_length j;have:=mapM_some_get j 0 0 (by grind);have C:0<rest.length:=by grind
      rw[xc C,vx]at this
      grind [qj]
    .cases h
  rcases key with rfl|⟨a,len,cap,rfl,hlc,Y,J,j⟩
  .exact ⟨θ,n,gl,[.nils],Step.refl hg,λ _ _=>rfl,.nils,rfl,⟨[],by simp,⟨by simp,rfl⟩,.inl rfl⟩,(λ k hk=>by cases hk;simp)⟩
  .have ⟨k,o,s⟩:=a
   by_cases h0:cap=0
   .subst h0;have:len=0:=by omega
    subst this;have hst:=Step.RS hg k o (tI s);refine⟨_,_,_,[.eslice n],hst,.one ?_,.eslice n,rfl,⟨[],by simp,⟨by simp,rfl,zu n⟩,.inr (zu n)⟩,(λ k hk=>by cases hk;simp)⟩;intro θ' hθ;have⟨v,I,q3⟩:=θ.eO n k o (tI s);have⟨r1,r2,r3⟩:=hθ n (zu n)
    grind [az,ag0]
   .have hsp:s=none:=by
     by_cases E:len=0
     .subst E;have⟨cs,A⟩:=j (by omega);rw[Ax]at A;exact na hs (by simpa[Addr.add]using A)
     .have ⟨cs,x,A,_,_⟩:=Y 0 (by omega);rw[Ax]at A;exact na hs (by simpa[Addr.add]using A)
    subst hsp
    by_cases E:len=0
    .subst E;refine⟨_,_,_,[.slice n 0 0 cap],Step.bare hg k o,.one ?_,.slice n 0 0 cap,rfl,⟨[],by simp,⟨by simp,rfl,xx _,.inl rfl⟩,.inr (zu n)⟩,(λ k hk=>by cases hk;simp)⟩;have:=VR.slice (D:=Lt (n+1)) (θ:=θ.add n k o 0) (b:=n) (o:=0) (n:=0) (c:=cap) (zu n:Lt (n+1) n);have⟨v,I,_⟩:=θ.eO n k o 0
     grind [az]
    .have hex:∀i:Nat,∃cs,i<len->W.cells? 0 ⟨k,o+i*P.cellsOf e,B5⟩ (P.cellsOf e)=B1 cs /\ ∃x,Oc enc P W 0 (λ _=>B4) held f e cs=B1 x/\Wt P e x.1:=λ i=>by
      by_cases U:i<len
      .grind [yJ]
      .exact ⟨[],λ h=>(U h).elim⟩
     have⟨F,hF⟩:=Classical.axiomOfChoice hex
     let css:=(N5 len).map F
     have hcl:css.length=len:=by grind
     have hcg:∀(i:Nat)c,css[i]? = B1 c->i<len/\c=F i:=λ i c A=>by
      grind
     have⟨arr,e',fz,hh,_,_⟩:=Zx hs (hF 0 (by omega)).1;have⟨arr',e2,fz2,g,_,hle⟩:=Zx hs (hF (len-1) (by omega)).1;rw[hh]at g;injection g with g;injection g with v I q3;subst v
     have hmul:(len-1)*P.cellsOf e+P.cellsOf e=len*P.cellsOf e:=by rw[<-vy];grind
     have Q:∀(i:Nat)c,css[i]? = B1 c->c=(arr.toList.drop (o+i*P.cellsOf e)).take (P.cellsOf e)/\c.length=P.cellsOf e:=λ i c A=>by
      grind [Zx]
     have K:css.flatten=(arr.toList.drop o).take (len*P.cellsOf e):=by grind [_T]
     have⟨θ1,n1,X,ls,s1,v1,l1,r1⟩:=δ hR enc W held f css (by grind) θ n gl hg;rw[K]at v1;have hsz:o+len*P.cellsOf e<=arr.size:=by omega
     have O:ls.length=len:=by omega
     have Z:ls.flatten.length=len*P.cellsOf e:=by rw[<-v1.length,jr,jq,Array.length_toList];omega
     have r:=Step.row (l:=ls.flatten) (k:=k) (off:=o) (pre:=arr.toList.take o) (cs:=(arr.toList.drop o).take (len*P.cellsOf e)) (post:=arr.toList.drop (o+len*P.cellsOf e)) (e:=e') (fz:=fz) s1.dm (by
      rw[hh];congr 2;have hq:arr.toList.take o++(arr.toList.drop o).take (len*P.cellsOf e)++arr.toList.drop (o+len*P.cellsOf e)=arr.toList:=by
       grind [FN,yt]
      rw[hq]) (by grind) v1
     refine⟨_,_,_,[.slice n1 0 len cap],s1.trans r,.one ?_,.slice n1 0 len cap,rfl,⟨ls,λ l hl=>?_,⟨by grind,O.symm,by omega,.inr ⟨zu n1,ls.flatten,xe (fz:=(0,0)) (e:=0) (ow:=B2) ?_,?_⟩⟩,.inr (zu n1)⟩,λ k hk=>by cases hk;exact J⟩
     .have:=VR.slice (D:=Lt (n1+1)) (θ:=θ1.add n1 k o 0) (b:=n1) (o:=0) (n:=len) (c:=cap) (zu n1:Lt (n1+1) n1);have⟨v,I,_⟩:=θ1.eO n1 k o 0
      grind [az]
     .have ⟨i,U⟩:=List.mem_iff_getElem?.1 hl;have N:i<css.length:=by grind
      have⟨v,I⟩:=r1 i l css[i] U (by simp[N]);exact⟨hR.1 _ _ _ v r.fr,by rw[I];exact(Q i _ (by simp[N])).2⟩
     .show (FG ((n1,ls.flatten)::X) .nil).get n1=_;rw[FG,T.aJ,xg rfl]
     .rw [O,tR,xg (by omega),yx,zi (by omega)]
def Bz:List (ar->List AV->Prop)->ar->List AV->Prop
 |[],_,l=>l=[]
 |R::Rs,H,l=>∃a b,l=a++b/\R H a/\Bz Rs H b
def Bz.em:∀{Rs:List (ar->List AV->Prop)},(∀R∈Rs,∀H H' l,R H l->Fr Em H H'->R H' l) -> ∀H H' l,Bz Rs H l->Fr Em H H'->Bz Rs H' l
 |[],_,_,_,_,h,_=>h
 |R::Rs,hm,H,H',l,⟨a,b,h1,h2,h3⟩,f=>⟨a,b,h1,hm R (by simp) _ _ _ h2 f,Bz.em (λ S c=>hm S (by grind)) _ _ _ h3 f⟩
def φ{t:Type}(enc:Mj×KP->t)(W:NG)(held:Bool)(fuel:Nat){cs:List KP}:∀{fs:List (Mj×Nat×(ar->List AV->Prop))}{k:Nat}{xs:List (Ry t×List BI)},
 (∀f∈fs,rN P f.1 f.2.2)->(∀(j:Nat)f,fs[j]? = B1 f->f.2.1=k+((fs.take j).map λ f=>P.cellsOf f.1).sum) ->
 fs.mapM (λ f=>Oc enc P W 0 (λ _=>B4) held fuel f.1 ((cs.drop f.2.1).take (P.cellsOf f.1)))=B1 xs->(∀x∈CC P (fs.map (·.1)) (xs.map (·.1)),x<=reachBytes) ->
 k+(fs.map λ f=>P.cellsOf f.1).sum<=cs.length -> ∀(θ:Th)(n:Nat)(c:GL),Good W θ n c ->
 ∃θ' n' d l,Step W θ n c θ' n' d/\bM (Lt n') θ' l ((cs.drop k).take ((fs.map λ f=>P.cellsOf f.1).sum))/\Bz (fs.map (·.2.2)) (vi d n') l
 |[],k,xs,_,_,_,_,_,θ,n,c,hg=>⟨θ,n,c,[],Step.refl hg,by simpa using bM.nil,rfl⟩
 |f::fs,k,xs,hf,ho,hm,hw,hl,θ,n,c,hg=>by
  simp only[List.mapM_cons,Option.bind_eq_bind,qj,Option.pure_def,qk]at hm;obtain⟨y,v,ys,r,rfl⟩:=hm;simp only[kh,CC,jo]at hw;have u:f.2.1=k:=by have:=ho 0 f rfl;simpa using this
  have⟨θ1,n1,e,a,s1,v1,z⟩:=(hf f (by simp)).2 enc W held fuel _ y.1 y.2 v (λ x o=>hw x (.inl o)) θ n c hg;simp only[kh,List.sum_cons]at hl;have⟨θ2,n2,h,b,s2,v2,A⟩:=φ enc W held fuel (cs:=cs) (fs:=fs) (k:=k+P.cellsOf f.1) (by grind) (λ j g hg=>by
   have:=ho (j+1) g (by simpa using hg)
   grind) r (λ x o=>hw x (.inr o)) (by omega) θ1 n1 e s1.dm
  refine⟨θ2,n2,h,a++b,s1.trans s2,?_,a,b,rfl,(hf f (by simp)).1 _ _ _ z s2.fr,A⟩;rw[u]at v1;rw[kh,List.sum_cons,List.take_add,FN];exact(v1.up s2.ag λ b hb=>qn hb s2.le).app v2
def N'{H:Type}{g:Mj->List KP->Option (Ry H×List BI)}{cs:List KP}:∀{fs:List Field}{Rs:List (ar->List AV->Prop)},fs.length=Rs.length ->
 fs.mapM (λ f=>g f.type ((cs.drop f.offset).take (P.cellsOf f.type)))=((fs.zip Rs).map λ x=>(x.1.type,x.1.offset,x.2)).mapM (λ f=>g f.1 ((cs.drop f.2.1).take (P.cellsOf f.1)))
 |[],[],_=>rfl
 |f::fs,R::Rs,h=>by simp only[List.zip_cons_cons,kh,List.mapM_cons,N' (fs:=fs) (Rs:=Rs) (by simpa using h)]
def YR{t:Mj}{fs:Array Field}{Rs:List (ar->List AV->Prop)}(h:P.underlying t=B1 (.struct fs))(hn:fs.toList.length=Rs.length)(hR:∀x∈fs.toList.zip Rs,rN P x.1.type x.2)
 (ho:Gp P 0 fs.toList=B4) (L:(fs.toList.map λ f=>P.cellsOf f.type).sum=P.cellsOf t):rN P t λ H l=>Bz Rs H l:=by
 refine⟨Bz.em λ R o=>?_,?_⟩
 .have ⟨i,N⟩:=List.mem_iff_getElem?.1 o;have D:i<fs.toList.length:=by grind
  have I:(fs.toList.zip Rs)[i]? = B1 (fs.toList[i],R):=by grind
  exact(hR _ (zh I)).1
 intro J enc W held fuel cs d Q e u θ n A hg;cases fuel with
 |zero=>cases e
 |succ f =>
  have hlen:cs.length=P.cellsOf t /\ ∃xs,fs.toList.mapM (λ g=>Oc enc P W 0 (λ _=>B4) held f g.type ((cs.drop g.offset).take (P.cellsOf g.type)))=B1 xs /\ ∀x∈CC P (fs.toList.map (·.type)) (xs.map (·.1)),x<=reachBytes:=by
   simp only[Oc,h]at e;split at e
   .rename_i hl;have⟨xs,hm,c⟩:=xt.1 e;injection c with c _
    exact⟨hl,xs,hm,λ x O=>u x (by grind [Bm])⟩
   grind
  have⟨hl,xs,hm,hw⟩:=hlen;rw[N' (Rs:=Rs) hn]at hm;have e1:((fs.toList.zip Rs).map λ x=>(x.1.type,x.1.offset,x.2)).map (λ f=>P.cellsOf f.1)=fs.toList.map λ f=>P.cellsOf f.type:=by
   rw[AJ];have:((fs.toList.zip Rs).map λ x=>P.cellsOf x.1.type)=(fs.toList.zip Rs |>.map Prod.fst).map λ f=>P.cellsOf f.type:=by simp_all
   rw[List.map_fst_zip (by omega)]at this;exact this
  have K:((fs.toList.zip Rs).map λ x=>(x.1.type,x.1.offset,x.2)).map (·.1)=fs.toList.map (·.type):=by
   rw[AJ];have:((fs.toList.zip Rs).map λ x=>x.1.type)=(fs.toList.zip Rs |>.map Prod.fst).map (·.type):=by simp_all
   rw[List.map_fst_zip (by omega)]at this;exact this
  have e2:((fs.toList.zip Rs).map λ x=>(x.1.type,x.1.offset,x.2)).map (·.2.2)=Rs:=by
   rw[AJ];have:((fs.toList.zip Rs).map λ x=>x.2)=Rs:=by grind [List.map_snd_zip]
   exact this
  have⟨θ',n',C,l,s,v,r⟩:=φ enc W held f (cs:=cs) (k:=0) (fs:=(fs.toList.zip Rs).map λ x=>(x.1.type,x.1.offset,x.2)) (by grind) (λ j g hg=>by
   simp only[xm,xt,List.getElem?_zip_eq_some]at hg;obtain⟨x,⟨z,E⟩,rfl⟩:=hg;have:=DI ho j x.1 z;simp_all) hm (by grind) (by grind) θ n A hg
  grind
end
end Go.Am
namespace Go.Am
open Go.RowKit
section
variable{P:Jv}
def rN.imp{t:Mj}{R c:ar->List AV->Prop}(h:rN P t R)(hm:∀H H' l,c H l->Fr Em H H'->c H' l)(g:∀H l,R H l->c H l):rN P t c :=
 ⟨hm,λ enc W held fuel cs d o j hw θ n f hg=>by
  obtain⟨θ',n',e,l,s,v,r⟩:=h.2 enc W held fuel cs d o j hw θ n f hg;exact⟨θ',n',e,l,s,v,g _ _ r⟩⟩
def Ta{α β:Type}{f:α->Mj}{Q:Mj -> β->Prop}:∀(l:List α)(R:List β),(∀x∈(l.map f).zip R,Q x.1 x.2) -> ∀x∈l.zip R,Q (f x.1) x.2
 |[],_,_,x,h=>by simp at h
 |_::_,[],_,x,h=>by simp at h
 |a::l,b::R,hq,x,h=>by
  rcases kj.1 h with rfl|h
  .exact hq (f a,b) (by simp)
  .exact Ta l R (λ y c=>hq y (by simp[c])) x h
def fB{tS e:Mj}{fs:Array Field}{n:Nat}(uS:P.underlying tS=B1 (.struct fs))(c:fs.toList.map (·.type)=Jr n e)(uN:P.underlying e=B1 (.int .i64))(j:Gp P 0 fs.toList=B4)(o:(fs.toList.map λ f=>P.cellsOf f.type).sum=P.cellsOf tS) :
 rN P tS λ H l=>Bz (Jr n λ _ l=>kH .i64 l) H l:=by
 have hn:fs.toList.length=n:=by have:=congrArg List.length c;simpa using this
 refine YR uS (by rw[hn];simp) (Ta (f:=Field.type) (Q:=rN P) _ _ ?_) j o;rw[c];intro x d;have g:=(List.of_mem_zip d).1;have h:=(List.of_mem_zip d).2;rw[we g,we h];exact(J2 (Je uN)).J0
end
end Go.Am
namespace Go.Am
open Go.RowKit Lang
section
variable{P:Jv}
def Ze(l c s w:Int)(pv:AV)(f so sf:Int)(fv:AV):List AV:=[.int .i64 l,.int .i64 c,.int .i64 s,.int .i64 w,pv,.int .i64 f,.int .i64 so,.int .i64 sf,fv]
def vR(H:ar)(u:AV):Prop:=u=.nils\/aF u<H.au
def vR.em{H H':ar}{u:AV}(h:vR H u)(f:H.au<=H'.au):vR H' u:=h.imp id λ q=>qn q f
def vR.lt{α:Type}{enc:α->List AV}{size:Nat}{H:ar}{u:AV}{xs:List α}(h:vR H u)(hs:bR enc size H u xs)(c:xs≠[]):aF u<H.au:=by
 rcases h with rfl|h
 .exact (c (jc.1 hs.2)).elim
 .exact h
def HK.ltB{R:ar->List AV->Prop}{size:Nat}{H:ar}{u:AV}(h:HK R size H u):vR H u:=by
 have⟨_,_,_,q⟩:=h;exact q
def kM(H:ar)(u:List AV):Prop:=∃l c s w f so sf pv fv ps fs,u=Ze l c s w pv f so sf fv/\bR lX 1 H pv ps/\(∀p∈ps,bR gQ 1 H p.1 p.2/\Bytes p.2/\vR H p.1/\p.2.length<=reachBytes)/\bR cu 8 H fv fs/\(∀x∈fs,x.u)/\vR H fv/\ps.length<=reachBytes
def kM.em{H H':ar}{u:List AV}(h:kM H u)(fr:Fr Em H H'):kM H' u:=by
 have⟨l,c,s,w,f,so,v,pv,fv,t,fs,e,g,d,j,n,o,r⟩:=h;exact⟨l,c,s,w,f,so,v,pv,fv,t,fs,e,g.em fr,λ p q=>⟨(d p q).1.em fr,(d p q).2.1,(d p q).2.2.1.em fr.au,(d p q).2.2.2⟩,j.em fr,n,o.em fr.au,r⟩
def wf_u8{a:Int}(h:(Lit.int .u8 a).wf=B4):0<=a/\a<256:=by
 simp[Lit.wf,PJ.min,PJ.max,IntKind.bits,IntKind.signed]at h;omega
def wf_u64{a:Int}(h:(Lit.int .u64 a).wf=B4):fH a:=by
 simp[Lit.wf,PJ.min,PJ.max,IntKind.bits,IntKind.signed]at h;unfold fH;omega
def xnm{tC tB:Mj}(j:P.underlying tC=B1 (.slice tB))(uY:P.underlying tB=B1 (.int .u8))(n:P.cellsOf tB=1)(r:0<P.bytesOf tB):rN P tC λ H l=>∃u,l=[u] /\ ∃bs:List Int,bR gQ 1 H u bs/\Bytes bs/\vR H u/\bs.length<=reachBytes:=by
 refine(TT j (J2 (Je uY)).J0 (by rw[n];decide)).imp ?_ λ H l h=>?_
 .rintro H H' l ⟨u,c,xs,e,d,g,t⟩ f;exact⟨u,c,xs,e.em f,d,g.em f.au,t⟩
 .obtain ⟨u,rfl,c,e⟩:=h;have lt:=HK.ltB c;rw[n]at c;have⟨xs,d,g⟩:=SK (enc:=gQ) (Q:=λ x=>0<=x/\x<256) (λ l h=>by
   obtain⟨a,rfl,o⟩:=h;exact⟨a,rfl,by have:=wf_u8 o;omega⟩) c
  exact⟨u,rfl,xs,d,g,lt,x9 (Nat.le_mul_of_pos_right _ r) (e _ (Sl.eJ d))⟩
def xno{tM tS tK tC tY tB tF tL v tU:Mj}{ms ss bs:Array Field}(uM:P.underlying tM=B1 (.struct ms))(K:ms.toList.map (·.type)=[tS,tK,tB,tF])(uS:P.underlying tS=B1 (.struct ss))(T:ss.toList.map (·.type)=[v,v,v,v])
 (uK:P.underlying tK=B1 (.slice tC)) (E:P.underlying tC=B1 (.slice tY)) (uY:P.underlying tY=B1 (.int .u8)) (uB:P.underlying tB=B1 (.struct bs)) (R:bs.toList.map (·.type)=[v,v,v]) (uF:P.underlying tF=B1 (.slice tL)) (uL:P.underlying tL=B1 (.array 8 tU)) (uU:P.underlying tU=B1 (.int .u64)) (uN:P.underlying v=B1 (.int .i64))
 (I:P.cellsOf tC=1) (N:P.cellsOf tY=1) (bY:0<P.bytesOf tY) (bC:0<P.bytesOf tC) (J:P.cellsOf tL=8) (L:8*P.cellsOf tU=P.cellsOf tL) (U:Gp P 0 ms.toList=B4) (Y:(ms.toList.map λ f=>P.cellsOf f.type).sum=P.cellsOf tM) (W:Gp P 0 ss.toList=B4) (Z:(ss.toList.map λ f=>P.cellsOf f.type).sum=P.cellsOf tS)
 (oB:Gp P 0 bs.toList=B4) (X:(bs.toList.map λ f=>P.cellsOf f.type).sum=P.cellsOf tB):rN P tM kM:=by
 have hm:ms.toList.length=4:=by have:=congrArg List.length K;simpa using this
 have D:rN P tK λ H l=>∃u,l=[u] /\ ∃r:List (AV×List Int),bR lX 1 H u r/\(∀p∈r,bR gQ 1 H p.1 p.2/\Bytes p.2/\vR H p.1/\p.2.length<=reachBytes)/\r.length<=reachBytes:=by
  refine(TT uK (xnm E uY N bY) (by rw[I];decide)).imp ?_ λ H l h=>?_
  .rintro H H' l ⟨u,o,xs,t,j⟩ f;exact⟨u,o,xs,t.em f,λ p q=>⟨(j.1 p q).1.em f,(j.1 p q).2.1,(j.1 p q).2.2.1.em f.au,(j.1 p q).2.2.2⟩,j.2⟩
  .obtain ⟨u,rfl,o,t⟩:=h;rw[I]at o;have⟨xs,j,z⟩:=SK (enc:=lX) (Q:=λ p=>bR gQ 1 H p.1 p.2/\Bytes p.2/\vR H p.1/\p.2.length<=reachBytes) (λ l h=>by
    obtain⟨u,rfl,b,h⟩:=h;exact⟨(u,b),rfl,h⟩) o
   exact⟨u,rfl,xs,j,z,x9 (Nat.le_mul_of_pos_right _ bC) (t _ (Sl.eJ j))⟩
 have S:rN P tF λ H l=>∃u,l=[u] /\ ∃fs:List L8,bR cu 8 H u fs/\(∀x∈fs,x.u)/\vR H u:=by
  refine(TT uF (J2 (xi8 uL (Je uU) L)).J0 (by rw[J];decide)).imp ?_ λ H l h=>?_
  .rintro H H' l ⟨u,o,xs,t,j,z⟩ f;exact⟨u,o,xs,t.em f,j,z.em f.au⟩
  .obtain ⟨u,rfl,o,t⟩:=h;have lt:=HK.ltB o;rw[J]at o;have⟨xs,j,z⟩:=SK (enc:=cu) (Q:=λ x=>x.u) (λ l h=>by
    obtain⟨_,_,rfl,⟨a,rfl,qa⟩,_,_,rfl,⟨b,rfl,qb⟩,_,_,rfl,⟨c,rfl,qc⟩,_,_,rfl,⟨d,rfl,qd⟩,_,_,rfl,⟨e,rfl,qe⟩,_,_,rfl,⟨f,rfl,qf⟩,_,_,rfl,⟨g,rfl,qg⟩,_,_,rfl,⟨i,rfl,qi⟩,rfl⟩:=h;refine⟨⟨[a,b,c,d,e,f,g,i],rfl⟩,rfl,?_⟩;intro x A;have A:x∈[a,b,c,d,e,f,g,i]:=A;simp only[kj,Lw,or_false]at A;rcases A with rfl|rfl|rfl|rfl|rfl|rfl|rfl|rfl<;>(refine wf_u64 ?_;assumption)) o
   exact⟨u,rfl,xs,j,z,lt⟩
 refine(YR (Rs:=[λ H l=>Bz (Jr 4 λ _ l=>kH .i64 l) H l,λ H l=>∃u,l=[u] /\ ∃r:List (AV×List Int),bR lX 1 H u r/\(∀p∈r,bR gQ 1 H p.1 p.2/\Bytes p.2/\vR H p.1/\p.2.length<=reachBytes)/\r.length<=reachBytes,λ H l=>Bz (Jr 3 λ _ l=>kH .i64 l) H l,λ H l=>∃u,l=[u] /\ ∃fs:List L8,bR cu 8 H u fs/\(∀x∈fs,x.u)/\vR H u]) uM (by rw[hm];rfl)
  (Ta (f:=Field.type) (Q:=rN P) _ _ (by
   rw[K];intro x A;simp only[List.zip_cons_cons,List.zip_nil_right,kj,Lw,or_false]at A;rcases A with rfl|rfl|rfl|rfl
   .exact fB (n:=4) uS T uN W Z
   .exact D
   .exact fB (n:=3) uB R uN oB X
   .exact S)) U Y).imp ?_ λ H l h=>?_
 .exact λ H H' u h fr=>h.em fr
 .obtain ⟨_,_,rfl,⟨_,_,rfl,⟨a,rfl,_⟩,_,_,rfl,⟨b,rfl,_⟩,_,_,rfl,⟨c,rfl,_⟩,_,_,rfl,⟨d,rfl,_⟩,rfl⟩,_,_,rfl,⟨pv,rfl,r,o,t,C⟩,_,_,rfl,⟨_,_,rfl,⟨e,rfl,_⟩,_,_,rfl,⟨f,rfl,_⟩,_,_,rfl,⟨g,rfl,_⟩,rfl⟩,_,_,rfl,⟨fv,rfl,fs,j,z,O⟩,rfl⟩:=h;exact⟨a,b,c,d,e,f,g,pv,fv,r,fs,rfl,o,t,j,z,O,C⟩
end
end Go.Am
namespace Go.Am
open Lang Go.Proofs
variable{M:ak}[MK M]
def pS.at{H H':ar}(h:pS H)(n:H.au<=H'.au)(e:H'.get yv=H.get yv):pS H':=⟨by unfold ar.bW;rw[e];exact h.1,qn h.2 n⟩
def bR.low{α:Type}{enc:α->List AV}{size:Nat}{H H':ar}{u:AV}{xs:List α}(h:bR enc size H u xs)(n:H.au<=H'.au)(hl:xs≠[]->aF u<H.au)(e:xs≠[]->H'.get (aF u)=H.get (aF u)):bR enc size H' u xs:=by
 by_cases q:xs=[]
 .exact Sl.fr h (W:=λ _=>True) ⟨n,λ z _ t=>(t trivial).elim⟩ (.inl (by rw[q];rfl))
 .exact Sl.fr h (W:=λ z=>z≠aF u) ⟨n,λ z _ t=>by have t:=wn.1 t;rw[t];exact e q⟩ (.inr λ t=>t rfl)
def W1(nb:Nat)(H:ar)(w k:Nat)(x:Wo)(F:Nat->Prop):Prop:=∃Hb B cvs hv bs own ks V,Hb.au=nb/\fC Hb H w B cvs hv bs own ks V k x /\ ∀z,F z->lF H w B cvs hv bs ks z
section
variable{H H':ar}{nb w k:Nat}{x y:Wo}{F G:Nat->Prop}
def W1.lt(h:W1 nb H w k x F){z:Nat}(q:F z):z<H.au:=by
 have⟨Hb,B,c,d,bs,own,ks,V,e,r,f⟩:=h;exact(f z q).lt
def W1.sub(h:W1 nb H w k x F)(g:∀z,G z->F z):W1 nb H w k x G:=by
 have⟨Hb,B,c,d,bs,own,ks,V,e,r,f⟩:=h;exact⟨Hb,B,c,d,bs,own,ks,V,e,r,λ z q=>f z (g z q)⟩
def W1.low(h:W1 nb H w k x F):nb<=H.au:=by
 have⟨Hb,B,c,d,bs,own,ks,V,e,r,f⟩:=h;have:=r.b.lo B (.inl rfl);have:=r.b.lt;omega
def W1.below(h:W1 nb H w k x F):W1 nb H w k x (λ z=>F z\/z<nb):=by
 have nl:=h.low;have⟨Hb,B,c,d,bs,own,ks,V,e,r,f⟩:=h;refine⟨Hb,B,c,d,bs,own,ks,V,e,r,λ z q=>q.elim (f z) λ q=>⟨by omega,λ t=>by have:=r.b.lo z t;omega,λ t=>by have:=(r.wb z t).2;omega,λ i A t=>zq λ g=>by have:=r.lo i A t z (by omega) g;omega⟩⟩
def W1.C8(h:W1 nb H w k x F)(n:H.au<=H'.au)(f:∀z,z<H.au -> ¬F z->H'.get z=H.get z):W1 nb H' w k x (λ z=>F z\/(H.au<=z/\z<H'.au)):=by
 have⟨Hb,B,c,d,bs,own,ks,V,e,r,g⟩:=h;refine⟨H'.low Hb.au,B,c,d,bs,own,_,V,e,r.C8 n λ z u q=>f z u λ t=>q (g z t),λ z q=>?_⟩;rcases q with q|⟨j,o⟩
 .exact (g z q).wide n (λ q=>.inl q) λ q=>.inl q
 .exact r.new j o
def W1.em(h:W1 nb H w k x F)(f:Fr Em H H'):W1 nb H' w k x (λ z=>F z\/(H.au<=z/\z<H'.au)):=h.C8 f.au λ z c _=>f.ah z c id
structure WtP(nb:Nat)(H:ar)(w k:Nat)(y:Wo)(F:Nat->Prop)(H':ar)(N:Nat->Prop):Prop where
 w:W1 nb H' w k y (λ z=>F z\/N z)
 n:H.au<=H'.au
 kp:∀z,F z->H'.get z=H.get z
 nw:∀z,N z->H.au<=z
def Pq(h:W1 nb H w k x F)(hk:k+1<=90000)(o:pS H)(A:yv<nb)(t:x.h.length<=100000)(n0:0<=x.n)(n1:x.n<=1000000)(a:Act) :
 ze M Uj [.ptr w 0,.agg a.enc] H λ v H'=>v=.agg (gP (x.act a).2)/\WtP nb H w (k+2) (x.act a).1 F H' Em:=by
 have⟨Hb,B,c,C,bs,own,ks,V,e,r,f⟩:=h;refine(Di r hk o (by omega) t n0 n1 a).mono λ v H' q=>?_;have⟨d,hv',bs',aO,g,j,u,n',kp⟩:=q;exact⟨d,⟨⟨Hb,B,c,hv',bs',aO,g,j,e,u,λ z q=>q.elim (λ q=>(kp z (f z q)).1) Nn⟩,n',λ z q=>(kp z (f z q)).2,λ z q=>q.elim⟩⟩
def Nz(H:ar)(nw nv w w' k k':Nat)(x x':Wo)(L:Nat->Prop):Prop:=∃F F',W1 nw H w k x F/\W1 nv H w' k' x' F'/\(∀z,z<H.au->F z\/F' z) /\ ∀z,L z->F z/\F' z
def Nz.em{nw nv w' k':Nat}{c:Wo}{L:Nat->Prop}(h:Nz H nw nv w w' k k' x c L)(f:Fr Em H H'):Nz H' nw nv w w' k k' x c (λ z=>L z\/(H.au<=z/\z<H'.au)):=by
 have⟨F,d,a,b,ap,hl⟩:=h;refine⟨_,_,a.em f,b.em f,λ z q=>?_,λ z q=>?_⟩
 .rcases za z H.au with e|e
  .exact (ap z e).imp .inl .inl
  .exact .inl (.inr ⟨e,q⟩)
 .rcases q with q|q
  .exact ⟨.inl (hl z q).1,.inl (hl z q).2⟩
  .exact ⟨.inr q,.inr q⟩
def Nz.loc{nw nv w' k':Nat}{d:Wo}{L U:Nat->Prop}(h:Nz H nw nv w w' k k' x d L)(f:Fr U H H')(hu:∀z,U z->L z):Nz H' nw nv w w' k k' x d (λ z=>L z\/(H.au<=z/\z<H'.au)):=by
 have⟨F,g,a,b,ap,hl⟩:=h;refine⟨_,_,a.C8 f.au λ z c q=>f.ah z c λ e=>q (hl z (hu z e)).1,b.C8 f.au λ z c q=>f.ah z c λ e=>q (hl z (hu z e)).2,λ z q=>?_,λ z q=>?_⟩
 .rcases za z H.au with e|e
  .exact (ap z e).imp .inl .inl
  .exact .inl (.inr ⟨e,q⟩)
 .rcases q with q|q
  .exact ⟨.inl (hl z q).1,.inl (hl z q).2⟩
  .exact ⟨.inr q,.inr q⟩
def W1.core(h:W1 nb H w k x F){i:Nat}{c:Co}(g:x.cs[i]? = B1 c):∃p o f l sp cv rv,(∀K,C3 M B4 (.func SZ) [.ptr w 0,.int .i64 (i:Int)] H K=K B4 (.ptr p 0) H)/\dX H o p f l sp cv rv .nils .nili c [] k:=by
 have⟨Hb,B,j,t,bs,own,ks,V,e,r,f⟩:=h;have n:=(qo.1 g).1;have hk:=r.kl;obtain⟨A,d⟩:∃A,ks[i]? = B1 A:=⟨_,xc (by omega)⟩
 exact⟨A.p,A.o,A.f,A.l,A.sp,A.cv,A.rv,RU r (by omega) (by rw[show((i:Int)).toNat=i by omega];exact d),(r.co i c A g d).1⟩
end
end Go.Am
namespace Go.Am
open Lang Go.Proofs
variable{M:ak}[MK M]
def tT{α:Type}{enc:α->List AV}(h:∀x,aN (enc x)=B4)(l:List α):aN (l.flatMap enc)=true:=by
 rw[vh,List.all_flatMap,Gm];intro x _;have:=h x;rw[vh]at this;exact this
def xe9{H:ar}{a:AV}{l:List fh}(ha:bR fh.enc 9 H a l)(hl:l.length<=100000):ze M sm [a] H λ v H'=>bR fh.enc 9 H' v l/\Fr Em H H':=by
 refine qn9 ?_
 by_cases hn:a=.nils
 .subst hn;simp only[aa,bc,qg4,Wn];exact⟨ha,Fr.refl _⟩
 .have c:Fr Em H (H.alloc (.row [] jv (0,0) B4)):=(Fr.refl H).alloc _;simp only[aa,bc,qg4,Vi ha hn,RZ];refine Tl (e:=jv) (n:=0) (cells:=[]) ⟨rfl,.inl ⟨rfl,.inr ⟨H.au,rfl,by rw[xz];omega⟩⟩⟩ (Sl.em ha c) (tT (λ x=>rfl) _) (by omega) (by omega) (by omega) λ j h hv' d f=>?_;simp only[aa,bc];rw[yf,jp]at hv';exact⟨hv'.sl,c.trans d λ x g=>.inr (by rw[g.2];exact qm _)⟩
def Iw{H:ar}{nb w k:Nat}{x:Wo}{F:Nat->Prop}(h:W1 nb H w k x F)(hl:x.h.length<=100000):ze M xy [.ptr w 0] H λ v H'=>bR fh.enc 9 H' v x.h/\Fr Em H H':=by
 have⟨Hb,B,c,n,bs,own,ks,V,e,r,f⟩:=h;refine qr7 ?_;have g:Op.eq .ptr B2 [.ptr w 0,.nilp] H=B1 (.bool B2):=rfl;simp only[aa,bc,qr8,av,g,r.bm];refine C3.q (xe9 (aT.sl r.hl) hl) λ v j⟨a,d⟩=>?_;simp only[aa,bc];exact⟨a,d⟩
end Go.Am
namespace Go.Am
section
variable{α:Type}(P:List α->Bool)
def CB:Nat->List α->List α
 |0,l=>l
 |n+1,l=>CB n (if P (l.eraseIdx n)=B4 then l.eraseIdx n else l)
def nA(l:List α):List α:=CB P l.length l
def og:Nat->List α->List α
 |0,l=>l
 |n+1,l=>og n (nA P l)
def SU:∀(n:Nat)(l:List α),(CB P n l).Sublist l
 |0,l=>.refl l
 |n+1,l=>by
  rw[CB];refine(SU n _).trans ?_;split
  .exact List.eraseIdx_sublist ..
  .exact .refl l
def BW(l:List α)(h:P l=B4):∀(n:Nat)(l:List α),P l=B4->P (CB P n l)=B4
 |0,l,h=>h
 |n+1,l,h=>by
  rw[CB];refine BW l h n _ ?_;split
  .assumption
  .exact h
def xnt:∀(n:Nat)(l:List α),n<=l.length->(CB P n l).length=l.length->CB P n l=l /\ ∀i,i<n->P (l.eraseIdx i)=B2
 |0,l,_,_=>⟨rfl,λ i q=>by omega⟩
 |n+1,l,hn,h=>by
  rw[CB]at h⊢;cases q:P (l.eraseIdx n)with
  |true =>
   rw[q,xg rfl]at h;have a:=(SU P n (l.eraseIdx n)).length_le;have b:=List.length_eraseIdx_of_lt (l:=l) (i:=n) (by omega);omega
  |false =>
   rw[q,qy (by decide)]at h;rw[qy (by decide)];have⟨a,b⟩:=xnt n l (by omega) h;refine⟨a,λ i c=>?_⟩
   by_cases e:i=n
   .rw [e];exact q
   .exact b i (by omega)
def Xn(l:List α):(nA P l).length<=l.length:=(SU P _ l).length_le
def Yz{l:List α}(h:(nA P l).length=l.length):nA P l=l /\ ∀i,i<l.length->P (l.eraseIdx i)=false:=xnt P l.length l (qm _) h
def Q4{l:List α}(h:nA P l=l):∀n,og P n l=l
 |0=>rfl
 |n+1=>by rw[og,h];exact Q4 h n
def W8:∀(n:Nat)(l:List α),l.length<=n->nA P (og P n l)=og P n l
 |0,l,h=>by
  have:l=[]:=jc.1 (by omega);subst this;rfl
 |n+1,l,h=>by
  rw[og]
  by_cases q:(nA P l).length=l.length
  .have e:=(Yz P q).1;rw[e,Q4 P e,e]
  .have:=Xn P l;exact W8 n _ (by omega)
def shr(l:List α):List α:=og P (l.length+1) l
def xh6:∀(n m:Nat)(l:List α),og P (n+m) l=og P m (og P n l)
 |0,m,l=>by rw[yf];rfl
 |n+1,m,l=>by rw[Nat.succ_add];exact xh6 n m _
def xns{n:Nat}{l:List α}(h:l.length<=n):og P n l=shr P l:=by
 have e:∀{m},l.length<=m->og P m l=og P l.length l:=λ{m}h=>by
  rw[show m=l.length+(m-l.length)by omega,xh6];exact Q4 P (W8 P _ l (qm _)) _
 rw[e h];exact(e (jy _)).symm
def v8(l:List α):nA P (shr P l)=shr P l:=W8 P _ l (jy _)
def DH(l:List α):shr P (nA P l)=shr P l:=by
 have:=Xn P l;rw[<-xns P (n:=l.length) (l:=nA P l) this];rfl
def Fw(l:List α):shr P (shr P l)=shr P l:=Q4 P (v8 P l) _
def WH{Q:List α->Prop}(h:∀l,Q l->Q (nA P l)):∀(n:Nat)(l:List α),Q l->Q (og P n l)
 |0,l,q=>q
 |n+1,l,q=>WH h n _ (h l q)
def LU{l:List α}(h:P l=B4):P (shr P l)=true:=WH P (Q:=λ l=>P l=B4) (λ l q=>BW P l q _ l q) _ l h
def HX(l:List α):(shr P l).Sublist l:=WH P (Q:=λ m=>m.Sublist l) (λ m q=>(SU P _ m).trans q) _ l (.refl l)
def DP(l:List α){i:Nat}(h:i<(shr P l).length):P ((shr P l).eraseIdx i)=false:=(Yz P (by rw[v8])).2 i h
end
end Go.Am
namespace Go.Am
open Go.Proofs Ca
open Lang (ints)
variable{M:ak}[MK M]
section
variable{H0 H:ar}{B:Nat}{s:Bs}{b:Bu}{own:Nat->Nat}
def xl2(h:eS H0 H B s b own){i:Nat}{w:L8}(hw:b.m[i]? = B1 w):ze M Xq [.ptr s.D 0,.int .i64 (i:Int)] H λ v H'=>v=.tuple [.agg (cu w),.int .i64 0]/\Fr Em H H':=by
 refine q0k ?_;obtain⟨w0,w2,e⟩:=q0l M ⟨B5,Xq⟩;obtain⟨c,e2⟩:∃X,X=H.alloc (OR (cu .zero) ja):=⟨_,rfl⟩
 have g:Fr Em H c:=by rw[e2];exact(Fr.refl H).alloc _
 have o:c.get H.au=B1 (OR (cu .zero) ja):=by rw[e2,xq]
 have d2:=h.d.em g;have n2:c.au=H.au+1:=by rw[e2,xz]
 have lm:Op.ae [.ptr s.D 0] c=B1 (.ptr s.mp 0):=zd (xe d2.row) 0;simp only[aa,bc,w0,lZ,<-e2,w2,yq,e,qt,lm];refine C3.q (qwf (M:=M) (w:=w) d2.me (n:=(i:Int)) (by omega) (by rw[HC];exact hw)) λ v f⟨t,j⟩=>?_;rw[t];have r:f.get H.au=B1 (OR (cu .zero) ja):=by rw[j.ah _ (by omega) id];exact o
 have st:=fG r (yk _) (yk w) (uk w);have ln:=eH (xf f H.au (OR (cu w) ja)) (yk w);simp only[aa,bc,xj,st,ln];exact(g.trans j λ _ q=>q.elim).set (.inr (qm _)) _
def xjw{r nb:Nat}{sv bv:AV}{n:No}{ks:List Nat}(h:de H0 H r nb sv bv n ks)(z:CI n.lines n.c)(line:Int):ze M Wy [.ptr r 0,.int .i64 line] H λ v H'=>v=nZ n.c line/\Fr Em H H':=by
 refine q01 ?_;obtain⟨w0,w2,j⟩:=q02 M ⟨B5,Wy⟩;obtain⟨H1,e1⟩:∃X,X=H.alloc (OR (aw .zero) xk):=⟨_,rfl⟩
 have f:Fr Em H H1:=by rw[e1];exact(Fr.refl H).alloc _
 have u:H1.get H.au=B1 (OR (aw .zero) xk):=by rw[e1,xq]
 have n1:H1.au=H.au+1:=by rw[e1,xz]
 have t:=h.em f;simp only[aa,bc,w0,eZ,<-e1,w2,yq,j,qt,t.l2];refine C3.q (Pu (M:=M) t.ca z line) λ v d⟨A,g⟩=>?_;rw[A];have o:d.get H.au=B1 (OR (aw .zero) xk):=by rw[g.ah _ (by omega) id];exact u
 unfold nZ;cases n.c.find line with
 |none =>
  have st:=fG o (z4 _) (z4 .zero) (ux _);have ln:=eH (xf d H.au (OR (aw .zero) xk)) (z4 .zero);simp only[aa,bc,xj,st,ln];exact(f.trans g λ _ q=>q.elim).set (.inr (qm _)) _
 |some e =>
  have st:=fG o (z4 _) (z4 e) (ux e);have ln:=eH (xf d H.au (OR (aw e) xk)) (z4 e);simp only[aa,bc,xj,st,ln];exact(f.trans g λ _ q=>q.elim).set (.inr (qm _)) _
end
def ri(b:Bu)(line:Int)(i:Nat):List En:=(b.ns.take i).filterMap λ n=>n.c.find line
def Ar(b:Bu)(line:Int):List (List AV):=(ri b line b.ns.length).map λ e=>[.agg (aw e)]
def Dg{b:Bu}{line:Int}{i:Nat}{n:No}(hn:b.ns[i]? = B1 n):ri b line (i+1)=ri b line i++(match n.c.find line with|none=>[]|some e=>[e]):=by
 unfold ri;rw[kw,hn,List.filterMap_append];congr 1;show List.filterMap _ [n]=_;rw[List.filterMap_cons,List.filterMap_nil];cases n.c.find line<;>rfl
def Hv(b:Bu)(line:Int){i:Nat}(d:i<=b.ns.length):∃r,ri b line b.ns.length=ri b line i++r:=by
 refine⟨(b.ns.drop i).filterMap λ n=>n.c.find line,?_⟩;unfold ri;rw[zi (qm _),<-List.filterMap_append,yt]
def PD{b:Bu}{line:Int}{i:Nat}{n:No}{e:En}(hn:b.ns[i]? = B1 n)(he:n.c.find line=B1 e):(Ar b line)[(ri b line i).length]? = B1 [.agg (aw e)]:=by
 have hl:=(qo.1 hn).1;obtain⟨r,hr⟩:=Hv b line (i:=i+1) (by omega);unfold Ar;rw[hr,Dg hn,he,xm];show Option.map _ ((ri b line i ++ [e]++r)[(ri b line i).length]?)=_;rw[jf,je (qm _),GU];rfl
section
variable{Hb H0:ar}{B p q:Nat}{s:Bs}{b:Bu}{own:Nat->Nat}{line:Int}
def _2(Hb:ar)(B:Nat)(s:Bs)(p q:Nat)(z:Nat):Prop:=z<Hb.au\/z=p\/z=q\/gM B s z
def ag9(h:eS Hb H0 B s b own)(hb:BB b)(hp:H0.get p=B1 (OR [.ptr B 0] xO))(hq:H0.get q=B1 (OR [.int .i64 line] cE))(hpl:p<H0.au)(hql:q<H0.au)(hbl:Hb.au<=H0.au) :
 qX M LY [] [.ptr p 0,.ptr q 0] (_2 Hb B s p q) (λ _=>False) H0 (Ar b line):=by
 intro Y R S j H1 hnx hN hR0 hW0 loc locS step;obtain⟨p1,p2,p3⟩:=hN p (.inl (.inr (.inl rfl)));obtain⟨q1,q2,q3⟩:=hN q (.inl (.inr (.inr (.inl rfl))));have hN4:=hb.N4;have kp:∀{Hx:ar},Fr j H1 Hx->eS Hb Hx B s b own:=λ{Hx}f=>by
  have f0:Fr (λ z=>Hb.au<=z /\ ¬gM B s z) H0 Hx:=by
   refine⟨x9 hnx f.au,λ z o hw=>?_⟩;have hk:_2 Hb B s p q z:=by
    by_cases w1:z<Hb.au
    .exact .inl w1
    .by_cases w2:gM B s z
     .exact .inr (.inr (.inr w2))
     .exact absurd ⟨by omega,w2⟩ hw
   obtain⟨-,k2,k3⟩:=hN z (.inl hk);rw[f.ah z (by omega) k3,k2]
  exact h.fr f0 λ z w=>w
 suffices hs:ze M LY [.fn (.yield Y) [] [],.ptr p 0,.ptr q 0] H1 (Hq R S j (λ _=>False) H1 (Ar b line).length)by
  obtain⟨v,H',hc,W',q1,q2,q3⟩:=hs.elim;exact⟨v,H',W',hc,q1,q2,q3⟩
 refine qz6 ?_;obtain⟨w0,w4,w10,N,L⟩:=qz7 M ⟨B5,LY⟩;have lp:∀{Hx:ar},Fr j H1 Hx->Op.ae [.ptr p 0] Hx=B1 (.ptr B 0):=λ f=>by rw[zd (xe (by rw[f.ah _ (by omega) p3,p2];exact hp))];rfl
 have lq:∀{Hx:ar},Fr j H1 Hx->Op.ae [.ptr q 0] Hx=B1 (.int .i64 line):=λ f=>by rw[zd (xe (by rw[f.ah _ (by omega) q3,q2];exact hq))];rfl
 have r0:=Fr.refl (W:=j) H1;have h1:=kp r0;have J:=h1.nv.sl.len;rw[xr,h1.al]at J;have hll:(Ar b line).length=(ri b line b.ns.length).length:=xr _;simp only[aa,bc,w0,lp r0,qt,h1.l1,J];refine cz.intro (λ n E Hx=>∃(i:Nat)(V:Nat->Prop),E=[(13,.int .i64 (i:Int)),(12,.int .i64 ((b.ns.length:Nat):Int)),(11,s.nv),(0,.fn (.yield Y) [] []),(1,.ptr p 0),(2,.ptr q 0)]/\n=b.ns.length-i/\i<=b.ns.length/\JE R j H1 Hx (ri b line i).length V) ?_ ?_
 .exact ⟨_,_,⟨0,j,rfl,rfl,xx _,⟨hR0,λ b hb=>⟨hW0 b hb,.inl hb⟩,Fr.refl _⟩⟩,by simp only[aa,bc]⟩
 rintro n E Hx ⟨i,V,rfl,rfl,hi,hI⟩
 by_cases c1:(i:Int)<((b.ns.length:Nat):Int)
 .obtain ⟨nd,hn⟩:∃n,b.ns[i]? = B1 n:=⟨_,xc (by omega)⟩
  have hx:=kp hI.fr;obtain⟨A,hA,nr⟩:=hx.yT hn;have K:(s.ad.map Na.r)[i]? = B1 A.r:=by rw[xm,hA];rfl
  have ix:=hx.nv.sl.idx K (z:=(i:Int)) rfl .i64;have ld:=hx.nv.sl.jQ XW K (by decide);have ld:Op.ae [.ptr (aF s.nv) (cZ 1 s.nv i)] Hx=B1 (.ptr A.r 0):=ld;obtain⟨ni,-,-⟩:=hb.no _ nd hn;have wj:aj .i64 ((i:Int)+1)=((i+1:Nat):Int):=by rw[jj (by omega) (by omega)];omega
  simp only[aa,bc,w4,c1,w10,ix,ld,lq hI.fr];refine C3.q (xjw (M:=M) nr ni.ci line) λ v g⟨hv,U⟩=>?_;rw[hv];have f03:Fr j H1 g:=hI.fr.trans U λ _ w=>w.elim;obtain⟨O,Q⟩:∃X,X=g.alloc (OR (aw .zero) xk):=⟨_,rfl⟩
  have f4:Fr Em g O:=by rw[Q];exact(Fr.refl g).alloc _
  have g4:O.get g.au=B1 (OR (aw .zero) xk):=by rw[Q,xq]
  unfold nZ;cases hf:nd.c.find line with
  |none =>
   have st:=fG g4 (z4 _) (z4 .zero) (ux .zero);have hs:=Dg (line:=line) hn;rw[hf]at hs;simp only[zn]at hs;obtain⟨t,u⟩:∃X,X=O.set g.au (OR (aw .zero) xk):=⟨_,rfl⟩
   rw[<-u]at st;have Z:Fr Em g t:=by rw[u];exact f4.set (.inr (qm _)) _
   have d:Fr Em Hx t:=U.trans Z λ _ w=>w.elim;simp only[aa,bc,xj,eZ,<-Q,st,L];simp only[aa,bc,N,wj];refine⟨_,_,⟨i+1,V,rfl,rfl,by omega,⟨?_,λ z o=>⟨qn (hI.hV z o).1 d.au,(hI.hV z o).2⟩,hI.fr.trans d λ _ w=>w.elim⟩⟩,by simp only[aa,bc],by omega⟩;rw[hs];exact loc _ V Hx t hI.hR (λ z o=>d.ah z (hI.hV z o).1 id) d.au
  |some e =>
   have st:=fG g4 (z4 _) (z4 e) (ux e);have hs:=Dg (line:=line) hn;rw[hf]at hs;obtain⟨t,u⟩:∃X,X=O.set g.au (OR (aw e) xk):=⟨_,rfl⟩
   rw[<-u]at st;have g5:t.get g.au=B1 (OR (aw e) xk):=by rw[u,xf]
   have Z:Fr Em g t:=by rw[u];exact f4.set (.inr (qm _)) _
   have d:Fr Em Hx t:=U.trans Z λ _ w=>w.elim;have ld5:=eH g5 (z4 e);obtain⟨bb,H6,T,hr,hf6,I,ht,hs6⟩:=step _ [.agg (aw e)] (PD hn hf) V t (loc _ V Hx t hI.hR (λ z o=>d.ah z (hI.hV z o).1 id) d.au) (λ z o=>⟨qn (hI.hV z o).1 d.au,(hI.hV z o).2⟩) ((hI.fr.trans d λ _ w=>w.elim).mono λ _ _ w=>.inl w);have C:Fr j H1 H6:=(hI.fr.trans d λ _ w=>w.elim).trans hf6 λ z w=>(hI.hV z w).2;have D:∀z,T z->z<H6.au/\(j z\/H1.au<=z):=λ z w=>⟨(I z w).1,(I z w).2.elim (λ w=>(hI.hV z w).2) λ w=>.inr (x9 (x9 hI.fr.au d.au) w)⟩
   simp only[aa,bc,xj,eZ,<-Q,st,L,ld5];refine C3.tu hr ?_;cases bb with
   |true =>
    simp only[aa,bc];simp only[aa,bc,N,wj];exact⟨_,_,⟨i+1,T,rfl,rfl,by omega,⟨by rw[hs,qv];exact ht rfl,D,C⟩⟩,by simp only[aa,bc],by omega⟩
   |false =>
    simp only[aa,bc];exact⟨T,C.mono λ _ _ w=>.inl w,D,.inr (hs6 rfl)⟩
 .have hiw:i=b.ns.length:=by omega
  simp only[aa,bc,w4,c1];exact⟨V,hI.fr.mono λ _ _ w=>.inl w,hI.hV,.inl (by rw[hll,<-hiw];exact hI.hR)⟩
end
def Km(j:Int)(m:Mg):Bool:=decide (m.line=j/\(m.k=3\/m.k=5))
def wJ(fl:List Mg)(j:Int)(w:L8):L8:=match fl.find? (Km j)with
 |some m=>m.d
 |none=>w
def qQ(x:L8)(e:En):L8:=if e.st=2 then cond e.w e.o e.d else x
def Bu.Ni(b:Bu)(j:Nat):L8:=(ri b j b.ns.length).foldl qQ (wJ b.fl j (b.m[j]?.getD .zero))
def Bu.vD(b:Bu)(a:Int):Int×Int:=if 0<=a/\a<8*b.l.length then((b.Ni (a.toNat / 8)).get (a.toNat % 8),0)else(0,2)
def GI{fl:List Mg}{i:Nat}{m:Mg}{j:Int}{w:L8}(h:fl[i]? = B1 m)(hm:Km j m=B4)(c:∀x∈fl.take i,Km j x=B2):wJ fl j w=m.d:=by
 have⟨hl,he⟩:=qo.1 h;have e:fl=fl.take i++(m::fl.drop (i+1)):=by rw[<-he,SC hl,yt]
 have f:fl.find? (Km j)=B1 m:=by
  rw[e,List.find?_append,List.find?_eq_none.2 λ x g=>by rw[c x g];decide,List.find?_cons,hm];rfl
 unfold wJ;rw[f]
def G1{fl:List Mg}{j:Int}{w:L8}(c:∀x∈fl,Km j x=B2):wJ fl j w=w:=by
 unfold wJ;rw[List.find?_eq_none.2 λ x d=>by rw[c x d];decide]
section
variable{Hb H:ar}{B:Nat}{s:Bs}{b:Bu}{own:Nat->Nat}{V:Int->L8}
def xix{H:ar}(B:Nat)(line:Int):ze M wc [.ptr B 0,.int .i64 line] H λ v H'=>v=.fn (.func LY) [] [.ptr H.au 0,.ptr (H.au+1) 0]/\H'=(H.alloc (OR [.ptr B 0] xO)).alloc (OR [.int .i64 line] cE):=by
 refine q7i ?_;obtain⟨H1,e1⟩:∃X,X=H.alloc (OR [.ptr B 0] xO):=⟨_,rfl⟩
 have n1:H1.au=H.au+1:=by rw[e1,xz]
 have ca:AV.cells (.ptr B 0)=[.ptr B 0]:=rfl;have c:AV.cells (.int .i64 line)=[.int .i64 line]:=rfl;have mk:Op.bt LY 0 [.ptr H.au 0,.ptr (H.au+1) 0]=B1 (.fn (.func LY) [] [.ptr H.au 0,.ptr (H.au+1) 0]):=rfl;simp only[aa,bc,q7j,ca,c,<-e1,n1,mk];rfl
structure nz(x0:L8)(es:List En)(t i:Nat)(W:Nat->Prop)(Hx:ar):Prop where
 vt:W t
 ex:Hx.get t=B1 (OR (cu ((es.take i).foldl qQ x0)) ja)
 lt:t<Hx.au
def QF{H:ar}{t T:Nat}{e:En}(h:H.get t=B1 (OR (aw e) T)):Op.aq 8 [.ptr t 4] H=B1 (.agg (cu e.d))/\Op.aq 8 [.ptr t 12] H=B1 (.agg (cu e.o)):=by
 have hl:=z4 e;have e1:aw e=[.int .i64 e.line,.int .i64 e.st,.bool e.r,.bool e.w]++(cu e.d++(cu e.o ++ [.int .i64 e.u])):=rfl;constructor
 .rw [se (xe h) (by omega),e1,Cq (by rfl),NR (yk _)]
 .rw [se (xe h) (by omega),e1,<-jf,Cq (by rw[qv,yk];rfl),NR (yk _)]
def xes(h:eS Hb H B s b own)(hl:b.l.length<=64){a:Int}(ha:¬(0<=a/\a<8*b.l.length)):ze M yw [.ptr B 0,.int .i64 a] H λ v H'=>v=.tuple [.int .u64 0,.int .i64 2]/\H'=H:=by
 refine _6 ?_;obtain⟨w0,E,wb,w2,C,e,g,j,n,u,o,z,r,A,t⟩:=V8 M ⟨B5,yw⟩;have D:aj .i64 (((b.l.length:Nat):Int)*8)=((b.l.length*8:Nat):Int):=by rw[jj (by omega) (by omega)];omega
 have c:Op.eq .ptr B2 [.ptr B 0,.nilp] H=B1 (.bool B2):=rfl
 by_cases d:a<0
 .simp only[aa,bc,w0,w2,e,c,xb d,uO]
 .have f:((b.l.length*8:Nat):Int)<=a:=by omega
  simp only[aa,bc,w0,w2,e,c,d,qt,h.l3,D,xb f,uO]
def q9m(h:eS Hb H B s b own)(hb:BB b)(hI:BuI b V)(hbl:Hb.au<=H.au){a:Nat}(ha:a<8*b.l.length)(hl:b.l.length<=64):ze M yw [.ptr B 0,.int .i64 (a:Int)] H λ v H'=>v=.tuple [.int .u64 ((b.Ni (a / 8)).get (a % 8)),.int .i64 0]/\Fr Em H H':=by
 refine _6 ?_;obtain⟨w0,wa,wb,w2,wb7,w3,w18,w22,w24,w47,K,w49,w35,w54,w46⟩:=V8 M ⟨B5,yw⟩;have hj:a / 8<b.l.length:=by omega
 obtain⟨wd,hwd⟩:∃x,b.m[a / 8]? = B1 x:=⟨_,xc (by rw[hI.ml];exact hj)⟩
 have q0:¬(a:Int)<0:=by omega
 have wm:aj .i64 (((b.l.length:Nat):Int)*8)=((b.l.length*8:Nat):Int):=by rw[jj (by omega) (by omega)];omega
 have q1:¬((b.l.length*8:Nat):Int)<=(a:Int):=by omega
 have qu:=AB (a:=a) (by omega);have re:=Mh (a:=a) (by omega);have pn:Op.eq .ptr B2 [.ptr B 0,.nilp] H=B1 (.bool B2):=rfl;simp only[aa,bc,w0,w2,w3,pn,q0,qt,h.l3,wm,q1,Cw,w18,qu,re,h.l0];refine C3.q (xl2 (M:=M) h hwd) λ v H1⟨hv,f1⟩=>?_;rw[hv];obtain⟨H2,e2⟩:∃X,X=H1.alloc (OR (cu .zero) ja):=⟨_,rfl⟩
 have f2:Fr Em H1 H2:=by rw[e2];exact(Fr.refl H1).alloc _
 have g2:H2.get H1.au=B1 (OR (cu .zero) ja):=by rw[e2,xq]
 have st2:=fG g2 (yk _) (yk wd) (uk wd);obtain⟨H3,e3⟩:∃X,X=H2.set H1.au (OR (cu wd) ja):=⟨_,rfl⟩
 rw[<-e3]at st2;have g3:H3.get H1.au=B1 (OR (cu wd) ja):=by rw[e3,xf]
 have n3:H3.au=H1.au+1:=by rw[e3,e2];rfl
 have f3:Fr Em H1 H3:=by rw[e3];exact f2.set (.inr (qm _)) _
 have f03:=f1.trans f3 λ _ q=>q.elim;have n1:=f1.au;generalize ht:H1.au=t at *
 -- behind the messages
 have rest:∀(Hx:ar)(x:L8)(E:Env)(Z:aE),(∀E D H',Z .ret E D H'=eG M [.tmp 4,.tmp 5] (uZ λ v H'=>v=.tuple [.int .u64 ((b.Ni (a / 8)).get (a % 8)),.int .i64 0]/\Fr Em H H') .ret E D H')->Fr Em H Hx->Hx.get t=B1 (OR (cu x) ja)->t<Hx.au->x=wJ b.fl ((a / 8:Nat):Int) wd ->
  lk E 0=B1 (.ptr B 0)->lk E 6=B1 (.int .i64 ((a / 8:Nat):Int))->lk E 7=B1 (.int .i64 ((a % 8:Nat):Int))->lk E 8=B1 (.ptr t 0) ->
  W M ⟨B5,yw⟩ (JR yw 49) B4 Z E [] Hx:=by
  intro Hx x E Z hZ R gx hlt hx e0 e6 e7 e8;have hbx:=h.em R;simp only[aa,bc,w49,e0,e6];refine C3.q (xix (M:=M) B ((a / 8:Nat):Int)) λ v n⟨hv,hh⟩=>?_;rw[hv];obtain⟨L,I⟩:∃X,X=Hx.alloc (OR [.ptr B 0] xO):=⟨_,rfl⟩
  rw[<-I]at hh;have f4:Fr Em Hx L:=by rw[I];exact(Fr.refl Hx).alloc _
  have n4:L.au=Hx.au+1:=by rw[I,xz]
  have f5:Fr Em L n:=by rw[hh];exact(Fr.refl L).alloc _
  have n5:n.au=L.au+1:=by rw[hh,xz]
  have gp:n.get Hx.au=B1 (OR [.ptr B 0] xO):=by rw[f5.ah _ (by omega) id,I,xq]
  have gq:n.get (Hx.au+1)=B1 (OR [.int .i64 ((a / 8:Nat):Int)] cE):=by rw[<-n4,hh,xq]
  have r:Fr Em Hx n:=f4.trans f5 λ _ q=>q.elim;have h5:=hbx.em r;have nx:=R.au;have gt5:n.get t=B1 (OR (cu x) ja):=by rw[r.ah _ hlt id];exact gx
  have hbw:∀z,gM B s z->z<H.au:=λ z q=>h.low q;refine iH.iter (fn:=Sv) (lp:=Rl) (pa:=XC 0) (pb:=U3 0) qt3 qke.1 qke.2 (by decide) qsq qsr
   (ag9 (M:=M) (line:=((a / 8:Nat):Int)) h5 hb gp gq (by omega) (by omega) (by omega)) (λ i W Hy=>nz x (ri b ((a / 8:Nat):Int) b.ns.length) t i W Hy) (λ _ _ _=>False) (λ z=>z=t) (qm _) ?_ ?_ ?_ ?_ ?_ ?_ ?_ ?_
  .rintro z ((q|q|q|q)|q)
   .exact ⟨by omega,rfl,by omega⟩
   .exact ⟨by omega,rfl,by omega⟩
   .exact ⟨by omega,rfl,by omega⟩
   .exact ⟨by have:=hbw z q;omega,rfl,by have:=hbw z q;omega⟩
   .exact q.elim
  .exact λ z hz=>by omega
  .exact ⟨rfl,gt5,by omega⟩
  .exact λ i W Ha Hb' j hs hn=>⟨j.vt,by rw[hs _ j.vt];exact j.ex,qn j.lt hn⟩
  .exact λ e W Ha Hb' j _ _=>j
  .intro C i lr lb xv U hL2 W g j hW hf6 hnL hL6 hgL;have U:((ri b ((a / 8:Nat):Int) b.ns.length).map λ e=>[AV.agg (aw e)])[i]? = B1 xv:=U;rw[xm,xt]at U;obtain⟨e,he,rfl⟩:=U;refine⟨_,rfl,?_⟩;obtain⟨-,wa,wb,-,wb7,-⟩:=V8 M ⟨B1 C,yw⟩;obtain⟨H7,O⟩:∃X,X=g.alloc (OR (aw .zero) xk):=⟨_,rfl⟩
   have f7:Fr Em g H7:=by rw[O];exact(Fr.refl g).alloc _
   have g7:H7.get g.au=B1 (OR (aw .zero) xk):=by rw[O,xq]
   have st7:=fG g7 (z4 _) (z4 e) (ux e);obtain⟨H8,Q⟩:∃X,X=H7.set g.au (OR (aw e) xk):=⟨_,rfl⟩
   rw[<-Q]at st7;have f8:Fr Em g H8:=by rw[Q];exact f7.set (.inr (qm _)) _
   have g8:H8.get g.au=B1 (OR (aw e) xk):=by rw[Q,xf]
   have n8:H8.au=g.au+1:=by rw[Q,O];rfl
   simp only[aa,bc,wa,eZ,<-O,st7,A6];refine⟨by rw[f8.ah _ hL6 id];exact hgL,?_⟩;have gy:=j.ex;have hLt:C≠t:=λ q=>hnL (by rw[q];exact j.vt);have htl:=j.lt;obtain⟨A,e9⟩:∃X,X=H8.set C lb:=⟨_,rfl⟩
   rw[<-e9];have f9:Fr (On C) H8 A:=by rw[e9];exact(Fr.refl H8).set (W:=On C) (.inl rfl) _
   have n9:A.au=H8.au:=by rw[e9];rfl
   have gL9:A.get C=B1 lb:=by rw[e9];exact xf ..
   have g9:A.get g.au=B1 (OR (aw e) xk):=by rw[f9.ah _ (by omega) (λ(q:g.au=C)=>by omega)];exact g8
   have gt9:A.get t=B1 (OR (cu (((ri b ((a / 8:Nat):Int) b.ns.length).take i).foldl qQ x)) ja):=by rw[f9.ah _ (by omega) (λ(q:t=C)=>hLt q.symm),f8.ah _ htl id];exact gy
   have F9:Fr (λ z=>W z\/z=C) g A:=(f8.mono λ z _ q=>q.elim).trans f9 λ z q=>.inl (.inr q);have l1:Op.ae [.ptr g.au 1] A=B1 (.int .i64 e.st):=zd (xe g9) 1;have l3:Op.ae [.ptr g.au 3] A=B1 (.bool e.w):=zd (xe g9) 3;obtain⟨lD,lO⟩:=QF g9;have tk:(ri b ((a / 8:Nat):Int) b.ns.length).take (i+1)=(ri b ((a / 8:Nat):Int) b.ns.length).take i ++ [e]:=by rw[kw,he];rfl
   have hV9:∀z,W z->z<A.au/\(W z\/g.au<=z):=λ z hz=>⟨by have:=(hW z hz).1;omega,.inl hz⟩
   have fo:((ri b ((a / 8:Nat):Int) b.ns.length).take (i+1)).foldl qQ x=qQ (((ri b ((a / 8:Nat):Int) b.ns.length).take i).foldl qQ x) e:=by rw[tk,List.foldl_append];rfl
   generalize hy:((ri b ((a / 8:Nat):Int) b.ns.length).take i).foldl qQ x=y at *
   by_cases s2:e.st=2
   .have stD:=fG gt9 (yk _) (yk e.d) (uk e.d);obtain⟨f,N⟩:∃X,X=A.set t (OR (cu e.d) ja):=⟨_,rfl⟩
    rw[<-N]at stD;have f10:Fr (On t) A f:=by rw[N];exact(Fr.refl A).set (W:=On t) (.inl rfl) _
    have n10:f.au=A.au:=by rw[N];rfl
    have g10:f.get t=B1 (OR (cu e.d) ja):=by rw[N,xf]
    have gL10:f.get C=B1 lb:=by rw[f10.ah _ (by omega) hLt];exact gL9
    have F10:Fr (λ z=>W z\/z=C) g f:=F9.trans f10 λ z(q:z=t)=>.inl (.inl (by rw[q];exact j.vt));have hV10:∀z,W z->z<f.au/\(W z\/g.au<=z):=λ z hz=>⟨by have:=(hW z hz).1;omega,.inl hz⟩
    have h6t:g.au≠t:=by omega
    have g610:f.get g.au=B1 (OR (aw e) xk):=by rw[f10.ah _ (by omega) h6t];exact g9
    have Y:Op.ae [.ptr g.au 3] f=B1 (.bool e.w):=zd (xe g610) 3;obtain⟨-,lO'⟩:=QF g610;cases hw:e.w with
    |false =>
     rw[hw]at Y;simp only[aa,bc,wb,l1,xb s2,wb7,lD,stD,Y,e8];exact⟨rfl,gL10,W,hV10,F10,.inl ⟨rfl,j.vt,by rw[fo];unfold qQ;rw[xg s2,hw];exact g10,by omega⟩⟩
    |true =>
     rw[hw]at Y;have stO:=fG g10 (yk _) (yk e.o) (uk e.o);simp only[aa,bc,wb,l1,xb s2,wb7,lD,stD,Y,lO',stO,e8];exact⟨rfl,by rw[kz (nE hLt)];exact gL10,W,hV10,F10.set (.inl (.inl j.vt)) _,.inl ⟨rfl,j.vt,by rw[fo];unfold qQ;rw[xg s2,hw];exact xf ..,by show t<f.au;omega⟩⟩
   .simp only[aa,bc,wb,l1,s2];exact⟨rfl,gL9,W,hV9,F9,.inl ⟨rfl,j.vt,by rw[fo];unfold qQ;rw[qy s2];exact gt9,by omega⟩⟩
  .intro d W Hd hd1 hd2 hgd hfd hWd j;have gy:=j.ex;have hln:(Ar b ((a / 8:Nat):Int)).length=(ri b ((a / 8:Nat):Int) b.ns.length).length:=xr _;rw[zi (by rw[hln];exact qm _)]at gy;have ey:(ri b ((a / 8:Nat):Int) b.ns.length).foldl qQ x=b.Ni (a / 8):=by unfold Bu.Ni;rw[hwd,hx];rfl
   rw[ey]at gy;generalize b.Ni (a / 8)=y at *;have hdt:d≠t:=λ q=>by have:=(hWd _ j.vt).2.2;omega
   have h8:a % 8<8:=Nat.mod_lt _ (by decide);have ixd:Op.aV 8 1 [.ptr t 0,.int .i64 ((a % 8:Nat):Int)]=B1 (.ptr t (a % 8)):=by rw[RV rfl h8,yf,LI]
   have ldd:Op.ae [.ptr t (a % 8)] Hd=B1 (.int .u64 (y.get (a % 8))):=by
    rw[zd (xe gy)];show(cu y)[a % 8]? = _;unfold cu L8.get;rw[xm];obtain⟨u,hu⟩:∃u,y.l[a % 8]? = B1 u:=⟨_,xc (by rw[y.h];exact h8)⟩
    rw[hu];rfl
   simp only[aa,bc,e7,e8,w54,ixd,ldd,hZ,Jh];refine⟨hgd,?_⟩;exact((R.trans r λ _ q=>q.elim).trans (W':=λ x=>x=t\/False) hfd λ z q=>q.elim (λ q=>.inr (by omega)) Nn).set (.inr (by omega)) _
  .exact λ e d W Hd _ _ _ _ _ _ hS=>hS.elim
 have h3:=h.em f03;have hfl:b.fl.length<=900000:=hb.fl;have hln:=h3.fl.len zj;simp only[aa,bc,xj,lZ,<-e2,ht,st2,w22,w24,qt,h3.l2,hln];refine cz.intro (λ m E Hx=>∃i:Nat,m=b.fl.length-i/\i<=b.fl.length/\E=[(46,.int .i64 (i:Int)),(45,.int .i64 ((b.fl.length:Nat):Int)),(44,s.fv),(8,.ptr t 0),(7,.int .i64 ((a % 8:Nat):Int)),(6,.int .i64 ((a / 8:Nat):Int)),(0,.ptr B 0),(1,.int .i64 (a:Int))]/\Fr Em H3 Hx /\ ∀m∈b.fl.take i,Km ((a / 8:Nat):Int) m=B2) ?_ ?_
 .exact ⟨_,_,⟨0,rfl,xx _,rfl,Fr.refl _,λ m hm=>by simp at hm⟩,by simp only[aa,bc]⟩
 rintro m E Hx ⟨i,rfl,hi,rfl,R,T⟩;have gx:Hx.get t=B1 (OR (cu wd) ja):=by rw[R.ah _ (by omega) id];exact g3
 have nx:=R.au
 by_cases q:(i:Int)<((b.fl.length:Nat):Int)
 .obtain ⟨c,S⟩:∃m,b.fl[i]? = B1 m:=⟨_,xc (by omega)⟩
  have hf:=(h3.em R).fl.sl zj;have ix:=hf.idx S (z:=(i:Int)) rfl .i64;have ld:=hf.aq zj (by decide) S;have wi:aj .i64 ((i:Int)+1)=((i+1:Nat):Int):=by rw[jj (by omega) (by omega)];omega
  obtain⟨L,I⟩:∃X,X=Hx.alloc (OR (ao ⟨0,0,0,.zero⟩) xp):=⟨_,rfl⟩
  have f4:Fr Em Hx L:=by rw[I];exact(Fr.refl Hx).alloc _
  have g4:L.get Hx.au=B1 (OR (ao ⟨0,0,0,.zero⟩) xp):=by rw[I,xq]
  have J:=fG g4 (zj _) (zj c) (ry c);obtain⟨n,e5⟩:∃X,X=L.set Hx.au (OR (ao c) xp):=⟨_,rfl⟩
  rw[<-e5]at J;have f5:Fr Em Hx n:=by rw[e5];exact f4.set (.inr (qm _)) _
  have g5:n.get Hx.au=B1 (OR (ao c) xp):=by rw[e5,xf]
  have n5:=f5.au;have l0:Op.ae [.ptr Hx.au 0] n=B1 (.int .i64 c.k):=zd (xe g5) 0;have l2:Op.ae [.ptr Hx.au 2] n=B1 (.int .i64 c.line):=zd (xe g5) 2;have l8:Op.aq 8 [.ptr Hx.au 3] n=B1 (.agg (cu c.d)):=by
   rw[se (xe g5) (by rw[zj];decide),show ao c=[.int .i64 c.k,.int .i64 c.core,.int .i64 c.line]++(cu c.d ++ [])by rw[zn];rfl,Cq (by rfl),NR (yk _)]
  have gt5:n.get t=B1 (OR (cu wd) ja):=by rw[f5.ah _ (by omega) id];exact gx
  have st8:=fG gt5 (yk _) (yk c.d) (uk c.d);have r:=R.trans f5 λ _ q=>q.elim;have tk:b.fl.take (i+1)=b.fl.take i ++ [c]:=by rw[kw,S];rfl
  have on:Km ((a / 8:Nat):Int) c=B2 -> ∀m∈b.fl.take (i+1),Km ((a / 8:Nat):Int) m=false:=λ hq m hm=>by
   rw[tk]at hm;rcases jo.1 hm with w|w
   .exact T m w
   .rw [jz.1 w];exact hq
  have found:(c.line=((a / 8:Nat):Int)/\(c.k=3\/c.k=5))->c.d=wJ b.fl ((a / 8:Nat):Int) wd:=λ q=>(GI S (yj q) T).symm;have F8:Fr Em H (n.set t (OR (cu c.d) ja)):=(f03.trans r λ _ q=>q.elim).set (.inr (by omega)) _
  by_cases ql:c.line=((a / 8:Nat):Int)
  .by_cases k3:c.k=3
   .simp only[aa,bc,K,q,w35,ix,ld,mZ,<-I,J,l2,xb ql,l0,xb k3,l8,st8,w47];refine rest _ c.d _ _ (λ _ _ _=>rfl) F8 (xf ..) (by show t<n.au;omega) (found ⟨ql,.inl k3⟩) ?_ ?_ ?_ ?_<;>rfl
   .by_cases k5:c.k=5
    .simp only[aa,bc,K,q,w35,ix,ld,mZ,<-I,J,l2,xb ql,l0,k3,xb k5,l8,st8,w47];refine rest _ c.d _ _ (λ _ _ _=>rfl) F8 (xf ..) (by show t<n.au;omega) (found ⟨ql,.inr k5⟩) ?_ ?_ ?_ ?_<;>rfl
    .simp only[aa,bc,K,q,w35,ix,ld,mZ,<-I,J,l2,xb ql,l0,k3,k5];simp only[aa,bc,w46,wi];exact⟨_,_,⟨i+1,rfl,by omega,rfl,r,on (ku λ w=>w.2.elim k3 k5)⟩,by simp only[aa,bc],by omega⟩
  .simp only[aa,bc,K,q,w35,ix,ld,mZ,<-I,J,l2,ql];simp only[aa,bc,w46,wi];exact⟨_,_,⟨i+1,rfl,by omega,rfl,r,on (ku λ w=>ql w.1)⟩,by simp only[aa,bc],by omega⟩
 .have e:i=b.fl.length:=by omega
  rw[e,zi (qm _)]at T;simp only[aa,bc,K,q,w47];refine rest Hx wd _ _ (λ _ _ _=>rfl) (f03.trans R λ _ q=>q.elim) gx (by omega) (G1 T).symm ?_ ?_ ?_ ?_<;>rfl
end
end Go.Am
namespace Go.Am
open Lang Go.Proofs
variable{M:ak}[MK M]
structure vV where
 kd:Int
 co:Int
 ad:Int
 v:Int
 n:Int
def ir(x:vV):List AV:=[.int .i64 x.kd,.int .i64 x.co,.int .i64 x.ad,.int .u64 x.v,.int .i64 x.n]
namespace Wo
def MC(x:Wo)(a:Act):ug (x.act a).1.b=ug x.b:=by
 show ug (x.kE a).1.b=ug x.b;unfold kE rS rQ fault
 repeat' split
 all_goals first|rfl|exact Ru _ _|exact(CS.Cv _).ns
def xH(x:Wo)(i:Int):Bool×Bool:=if 0<=i then match x.cs[i.toNat]? with
 |some c=>(c.halted,c.yR)
 |none=>(B2,B2)
 else(B2,B2)
def cnt(x:Wo)(w:vV):Nat:=x.h.countP λ e=>decide (e.kind=w.ad/\e.core=w.co)
def YH(x:Wo)(w:vV):Bool:=if w.kd=1 then decide ((x.b.vD w.ad).2=0/\(x.b.vD w.ad).1=w.v)else if w.kd=2 then decide (w.n<=(x.cnt w:Int))else if w.kd=3 then(x.xH w.co).1 else(x.xH w.co).2
end Wo
section
variable{H H':ar}{nb w k:Nat}{x:Wo}{F:Nat->Prop}
def Dc{o:Nat->Nat}{p f l sp:Nat}{cv rv d pv:AV}{c:Co}{os:List fh}(h:dX H o p f l sp cv rv d pv c os k):∀K,C3 M B4 (.func X7) [.ptr p 0] H K=K B4 (.tuple [.bool c.halted,.bool c.yR]) H:=by
 refine dA (B_ ?_);simp only[aa,bc,qmk,av,DC h,h.bm]
def xjx:ze M X7 [.nilp] H λ v H'=>v=.tuple [.bool B2,.bool B2]/\H'=H:=by
 have c:∀H,Op.eq .ptr B2 [.nilp,.nilp] H=B1 (.bool B4):=λ _=>rfl;have nn:∀K,C3 M B4 (.func Xk) [.nilp] H K=K B4 (.bool B4) H:=by
  refine dA (_c ?_);simp only[aa,bc,qpz,c]
 refine B_ ?_;simp only[aa,bc,qmk,nn]
def xn9(h:W1 nb H w k x F)(i:Int):∀K,C3 M B4 (.func Z5) [.ptr w 0,.int .i64 i] H K=K B4 (.tuple [.bool (x.xH i).1,.bool (x.xH i).2]) H:=by
 have no:¬(0<=i/\i<x.cs.length)->x.xH i=(B2,B2) -> ∀K,C3 M B4 (.func Z5) [.ptr w 0,.int .i64 i] H K=K B4 (.tuple [.bool (x.xH i).1,.bool (x.xH i).2]) H:=λ q e=>by
  have⟨Hb,B,n,j,bs,own,ks,V,e',r,f⟩:=h;refine dA (sB ?_);simp only[aa,bc,yb,xoa r q];refine C3.q xjx λ v X⟨j,t⟩=>?_;subst j;subst t;simp only[aa,bc,av,e]
 by_cases g:0<=i
 .cases d:x.cs[i.toNat]? with
  |some c =>
   obtain⟨p,o,f,l,sp,cv,rv,ha,hr⟩:=h.core (M:=M) d;rw[Ko g]at ha;have e:x.xH i=(c.halted,c.yR):=by unfold Wo.xH;rw[xg g,d]
   rw[e];refine dA (sB ?_);simp only[aa,bc,yb,ha,Dc hr,av]
  |none =>
   have:=List.getElem?_eq_none_iff.1 d;exact no (by omega) (by unfold Wo.xH;rw[xg g,d])
 .exact no (by omega) (by unfold Wo.xH;rw[qy g])
def Lj(h:W1 nb H w k x F)(hl:x.b.l.length<=64)(hk:k<=90000)(a:Int):ze M qia [.ptr w 0,.int .i64 a] H λ v H'=>v=.tuple [.int .u64 (x.b.vD a).1,.int .i64 (x.b.vD a).2]/\Fr Em H H':=by
 have⟨Hb,B,d,c,bs,own,ks,V,e,r,f⟩:=h;have g:Op.eq .ptr B2 [.ptr w 0,.nilp] H=B1 (.bool B2):=rfl;have bs':∀K,C3 M B4 (.func oy) [.ptr w 0] H K=K B4 (.ptr B 0) H:=by
  refine dA (qzj ?_);simp only[aa,bc,qzk,av,g,r.bm]
 refine qqh ?_;simp only[aa,bc,qqi,bs'];refine C3.q (show ze M yw [.ptr B 0,.int .i64 a] H λ v H'=>v=.tuple [.int .u64 (x.b.vD a).1,.int .i64 (x.b.vD a).2]/\Fr Em H H' from by
  unfold Bu.vD
  by_cases q:0<=a/\a<8*x.b.l.length
  .rw [xg q];obtain⟨n,rfl⟩:=jk q.1;exact q9m r.b (r.C.bb r.I (by omega)) r.I (by have:=r.b.lo B (.inl rfl);have:=r.b.lt;omega) (by omega) hl
  .rw [qy q];exact(xes r.b hl q).mono λ v H'⟨a,b⟩=>⟨a,by rw[b];exact Fr.refl _⟩) λ v H'⟨c,f⟩=>?_
 subst c;simp only[aa,bc,av];exact f
end
end Go.Am
namespace Go.Am
open Lang Go.Proofs
variable{M:ak}[MK M]
def q4i{H:ar}{a:AV}{l:List Act}(ha:bR Act.enc 3 H a l)(hl:l.length<=100000):ze M _B [a] H λ v H'=>aT Act.enc uc 3 H' v l/\(∀z,aM v z->H.au<=z)/\Fr Em H H':=by
 refine qqc ?_
 by_cases hn:a=.nils
 .subst hn;simp only[aa,bc,X_,Wn];obtain rfl:l=[]:=jc.1 ha.2;exact⟨Own.nil ..,λ z q=>(q.1 rfl).elim,Fr.refl _⟩
 .have c:Fr Em H (H.alloc (.row [] uc (0,0) B4)):=(Fr.refl H).alloc _;simp only[aa,bc,X_,Vi ha hn,RZ];refine Tl (e:=uc) (n:=0) (cells:=[]) ⟨rfl,.inl ⟨rfl,.inr ⟨H.au,rfl,by rw[xz];omega⟩⟩⟩ (Sl.em ha c) (tT Act.one _) (by omega) (by omega) (by omega) λ j h hv' f d=>?_;simp only[aa,bc];rw[yf,jp]at hv';exact⟨hv',λ z q=>(d z q).elim (λ q=>by rw[q.2];exact qm _) λ q=>by rw[xz]at q;omega,c.trans f λ x g=>.inr (by rw[g.2];exact qm _)⟩
def Sm{l:List Act}:(l.flatMap Act.enc).length=l.length*3:=by
 induction l with
 |nil=>rfl
 |cons a l ih=>rw[j6,qv,ih,zz,Act.len];omega
def xT(H:ar)(v:AV)(l:List Act):Prop:=bR Act.enc 3 H v l/\(l=[] \/ ∃b m rest,v=.gslice b 0 m 3 0 l.length/\b<H.au/\l.length<=m/\H.get b=B1 (.grown m 3 (l.flatMap Act.enc++rest) uc (0,0)))
def xT.of{H:ar}{v:AV}{l:List Act}(h:aT Act.enc uc 3 H v l):xT H v l:=by
 refine⟨aT.sl h,?_⟩;obtain⟨_,⟨c,_⟩|⟨b,rfl,d,e⟩⟩:=h
 .exact .inl (jc.1 c)
 .exact .inr ⟨b,_,[],rfl,d,qm _,by rw[zn];exact e⟩
def xT.em{H H':ar}{v:AV}{l:List Act}(h:xT H v l)(f:Fr Em H H'):xT H' v l :=
 ⟨Sl.em h.1 f,h.2.imp id λ⟨b,m,rest,a1,a2,a3,a4⟩=>⟨b,m,rest,a1,qn a2 f.au,a3,by rw[f.ah b a2 id];exact a4⟩⟩
def xly{H:ar}{v:AV}{l:List Act}(h:aT Act.enc uc 3 H v l){i:Nat}(Q:i<l.length)(hl:l.length<=100000):ze M _J [v,.int .i64 (i:Int),.int .i64 ((i+1:Nat):Int)] H λ r H'=>xT H' r (l.eraseIdx i)/\Fr (aM v) H H' /\ ∀z,aM r z->aM v z:=by
 obtain⟨_,⟨O,_⟩|⟨b,rfl,C,f⟩⟩:=h
 .omega
 obtain⟨l1,x,l2,rfl,rfl⟩:∃l1 x l2,l=l1++x::l2/\l1.length=i:=⟨l.take i,l[i],l.drop (i+1),by rw[SC,yt],by rw[jr];omega⟩
 have er:(l1++x::l2).eraseIdx l1.length=l1++l2:=by rw[List.eraseIdx_append_of_length_le (qm _),GU];rfl
 rw[er];obtain⟨n,hn⟩:∃n,n=(l1++x::l2).length:=⟨_,rfl⟩
 have nn:n=l1.length+l2.length+1:=by rw[hn,qv,zz];omega
 rw[<-hn]at f hl⊢;have cs:(l1++x::l2).flatMap Act.enc=l1.flatMap Act.enc++(x.enc++l2.flatMap Act.enc):=by rw[js,j6]
 rw[cs]at f;have R:=Sm (l:=l1);have S:=Sm (l:=l2);have U:=Act.len x;have e1:∀n,JW n n=true:=λ n=>by simp
 have g:∀d m,bound B5 d m=B1 d:=λ _ _=>rfl;have e:∀{k mx d:Nat},k<=mx->bound (B1 (.int .i64 (k:Int))) d mx=B1 k:=λ q=>tH rfl q .i64;have j:∃y,Op.aA 3 [B1 0,B1 1,B1 2] [.gslice b 0 n 3 0 n,.int .i64 (l1.length:Int),.int .i64 ((l1.length+1:Nat):Int),.int .i64 (n:Int)]=B1 y:=⟨_,by
  simp only[Op.aA,arg,jP,zo,jb,qr,df,e (show n<=n-0 by omega),e (show l1.length+1<=n by omega),e (show l1.length<=l1.length+1 by omega),e1,ye (xx n),FM (show¬n=l1.length by omega),z7,xu,zp];rfl⟩
 obtain⟨X,j⟩:=j;have D:Op.aA 3 [B5,B1 0,B5] [.gslice b 0 n 3 0 n,.int .i64 (l1.length:Int)]=B1 (.gslice b 0 n 3 0 l1.length):=by
  simp only[Op.aA,arg,jP,zo,qr,df,g,e (show l1.length<=n-0 by omega),e1,ye (show l1.length<=n-0 by omega),ye (xx _),z7,xu];rfl
 have E:Op.aA 3 [B1 0,B5,B5] [.gslice b 0 n 3 0 n,.int .i64 ((l1.length+1:Nat):Int)]=B1 (.gslice b (l1.length+1) n 3 0 (n-(l1.length+1))):=by
  simp only[yf,Op.aA,arg,jP,zo,qr,df,g,e (show l1.length+1<=n by omega),e1,ye (show l1.length+1<=n by omega),ye (show n<=n-0 by omega),z7,xu];rfl
 -- what was behind it comes up
 have N:∃H1 T,T.length=3/\Op.append uc 3 24 [.gslice b 0 n 3 0 l1.length,.gslice b (l1.length+1) n 3 0 (n-(l1.length+1))] H=B1 (.gslice b 0 n 3 0 (l1.length+l2.length),H1)/\H1.get b=B1 (.grown n 3 (l1.flatMap Act.enc++l2.flatMap Act.enc++T) uc (0,0))/\Fr (aM (.gslice b 0 n 3 0 n)) H H1/\b<H1.au:=by
  have lv:eJ (.gslice b (l1.length+1) n 3 0 (n-(l1.length+1)))=B1 l2.length:=by show B1 _=_;congr 1;omega
  have one:=tT Act.one l2;have A:=ye (show 0+l1.length<=n by omega)
  by_cases c:l2.length=0
  .obtain rfl:l2=[]:=jc.1 c;refine⟨H,x.enc,rfl,?_,by rw[f,jf];rfl,Fr.refl _,C⟩;simp only[Op.append,lv,qr,firstCells,j7,JW,xu,aN,cO,A,vx]
  .have K:firstCells H 3 l2.length (.gslice b (l1.length+1) n 3 0 (n-(l1.length+1)))=B1 (l2.flatMap Act.enc):=by
    simp only[firstCells,FM c,zp,e1,AN (show l1.length+1<n by omega),z7,xu,ar.aq,O5 f,qr,tR];rw[xg (by simp only[qv];omega),<-jf,Cq (by rw[qv];omega),zi (by omega)]
   have st:H.store b ((0+l1.length)*3) (l2.flatMap Act.enc)=B1 (H.set b (.grown n 3 (l1.flatMap Act.enc++l2.flatMap Act.enc++(x.enc++l2.flatMap Act.enc).drop (l2.length*3)) uc (0,0))):=by
    simp only[ar.store,one,xu,f,show dE (0,0) ((0+l1.length)*3) (cQ (l2.flatMap Act.enc))=B4 by simp[dE],AZ];rw[xg (by simp only[qv];omega),NR (by omega),show(0+l1.length)*3+(l2.flatMap Act.enc).length=(l1.flatMap Act.enc).length+l2.length*3 by omega,wh];rfl
   refine⟨_,(x.enc++l2.flatMap Act.enc).drop (l2.length*3),by rw[jq,qv];omega,?_,xf ..,(Fr.refl H).set (.inl ⟨by simp,rfl⟩) _,C⟩;simp only[Op.append,lv,qr,K,one,xu,cO,FM c,zp,e1,A,show Pk 0 3=B4 from rfl,z7,ye (show 0+l1.length+l2.length<=n by omega),st]
 obtain⟨H1,T,W,ap,L,J,u⟩:=N;have o:∃alt,Op.aA 3 [B1 0,B1 1,B5] [.gslice b 0 n 3 0 (l1.length+l2.length),.int .i64 ((l1.length+l2.length:Nat):Int),.int .i64 (n:Int)]=B1 (.gslice b (l1.length+l2.length) n 3 alt 1):=⟨_,by
  simp only[yf,Op.aA,arg,jP,zo,jb,qr,df,e (show n<=n-0 by omega),e (show l1.length+l2.length<=n by omega),e1,ye (show n<=n-0 by omega),ye (xx _),z7,xu,show n-(l1.length+l2.length)=1 by omega];rfl⟩
 obtain⟨alt,o⟩:=o;have I:Op.bP [.int .i64 0,.int .i64 0,.int .i64 0] [.gslice b (l1.length+l2.length) n 3 alt 1] H1=B1 (.tuple [],H1.set b (.grown n 3 (l1.flatMap Act.enc++l2.flatMap Act.enc ++ [.int .i64 0,.int .i64 0,.int .i64 0]) uc (0,0))):=by
  have st:H1.store b ((l1.length+l2.length)*3+0*3) [.int .i64 0,.int .i64 0,.int .i64 0]=B1 (H1.set b (.grown n 3 (l1.flatMap Act.enc++l2.flatMap Act.enc ++ [.int .i64 0,.int .i64 0,.int .i64 0]) uc (0,0))):=by
   simp only[ar.store,show aN [AV.int .i64 0,.int .i64 0,.int .i64 0]=B4 from rfl,xu,L,show dE (0,0) ((l1.length+l2.length)*3+0*3) (cQ [AV.int .i64 0,.int .i64 0,.int .i64 0])=B4 by simp[dE],AZ];rw[xg (by simp only[qv,zz,j7];omega),NR (by rw[qv];omega),ju (by simp only[qv,zz,j7];omega),zn];rfl
  have lv:eJ (.gslice b (l1.length+l2.length) n 3 alt 1)=B1 1:=rfl;have he:elemAt 3 (.gslice b (l1.length+l2.length) n 3 alt 1) 0=B1 (b,(l1.length+l2.length)*3+0*3):=by
   simp only[elemAt,show Pk 0 1=B4 from rfl,e1,AN (show l1.length+l2.length+0<n by omega),z7,xu]
  simp only[Op.bP,lv,qr,show JW 1 0=B2 from rfl,zp,show[AV.int .i64 0,.int .i64 0,.int .i64 0].length=3 from rfl,he,show fM 1 [AV.int .i64 0,.int .i64 0,.int .i64 0]=[AV.int .i64 0,.int .i64 0,.int .i64 0]from rfl,st]
 have t:Op.cD [.gslice b 0 n 3 0 n]=B1 (.int .i64 (n:Int)):=rfl;have ug:Op.cD [.gslice b 0 n 3 0 (l1.length+l2.length)]=B1 (.int .i64 ((l1.length+l2.length:Nat):Int)):=rfl;have ne:¬((l1.length:Nat):Int)=((l1.length+1:Nat):Int):=by omega
 refine qo2 ?_;simp only[aa,bc,qo3,t,j,ne,D,E,ap,ug,o,I];refine⟨⟨⟨by rw[js,qv,qv];omega,by rw[qv],rfl,by rw[qv];omega,.inr ⟨u,_,O5 (xf ..),?_⟩⟩,.inr ⟨b,n,_,by rw[qv],u,by rw[qv];omega,by rw[xf,js]⟩⟩,J.set (.inl ⟨by simp,rfl⟩) _,λ z q=>⟨by simp,q.2⟩⟩;rw[tR,xg (by simp only[qv,zz,j7];omega),Ax,yx,js,NR (by simp only[qv];omega)]
def qz2{H:ar}{a:AV}{l:List Act}(ha:bR Act.enc 3 H a l){i:Nat}(d:i<l.length)(hl:l.length<=100000):ze M _C [a,.int .i64 (i:Int)] H λ r H'=>xT H' r (l.eraseIdx i)/\Fr Em H H' /\ ∀z,aM r z->H.au<=z/\z<H'.au:=by
 refine q1o ?_;simp only[aa,bc,q1p];refine C3.q (q4i ha hl) λ v H1⟨o,nw,f⟩=>?_;have e:aj .i64 ((i:Int)+1)=((i+1:Nat):Int):=by rw[jj (by omega) (by omega)];omega
 simp only[aa,bc,e];refine C3.q (xly o d hl) λ r g⟨s,c,n2⟩=>?_;simp only[aa,bc];exact⟨s,f.trans c λ z q=>.inr (nw z q),λ z q=>⟨nw z (n2 z q),qn (Own.lt o z (n2 z q)) c.au⟩⟩
end Go.Am
namespace Go.Am
open Lang Go.Proofs
variable{M:ak}[MK M]
def xF(H:ar)(sv:List AV)(x0:Wo)(ok:Prop):Prop:=∃l c s wy f so sf pv fv ps fs,sv=Ze l c s wy pv f so sf fv/\bR lX 1 H pv ps/\(∀p∈ps,bR gQ 1 H p.1 p.2/\vR H p.1/\p.2.length<=100000)/\bR cu 8 H fv fs/\(∀x∈fs,x.u)/\vR H fv/\x0=wo0 l c s wy fs (ps.map CH) f so sf/\ok=Xz l c s wy fs (ps.map CH).length f so sf
section
variable{H H':ar}{sv:List AV}{x0:Wo}{ok:Prop}
def xF.em(h:xF H sv x0 ok)(f:Fr Em H H'):xF H' sv x0 ok:=by
 have⟨l,c,s,v,f',so,u,pv,fv,t,fs,e,g,d,j,n,o,r⟩:=h;exact⟨l,c,s,v,f',so,u,pv,fv,t,fs,e,Sl.em g f,λ p q=>⟨Sl.em (d p q).1 f,(d p q).2.1.em f.au,(d p q).2.2⟩,Sl.em j f,n,o.em f.au,r⟩
def xF.len(h:xF H sv x0 ok):sv.length=9:=by
 have⟨l,c,s,g,f',so,f,pv,fv,e,fs,d,_⟩:=h;rw[d];rfl
def xF.zero(h:xF H sv x0 ok)(d:ok):x0.h=[]/\x0.n=0/\x0.b.l.length<=64:=by
 have⟨l,c,s,C,f',so,A,pv,fv,z,fs,j,o,r,t,u,v,f,g⟩:=h;subst f;rw[g]at d;refine⟨rfl,rfl,?_⟩;have e:=d.1.1.1.1.2;show(Jr l.toNat iL).length<=64;rw[zy];omega
def xF.new{b T:Nat}(h:xF H sv x0 ok)(g:H.get b=B1 (OR sv T)):∃a p u q,Op.aq 4 [.ptr b 0] H=B1 a/\Op.ae [.ptr b 4] H=B1 p/\Op.aq 3 [.ptr b 5] H=B1 u/\Op.ae [.ptr b 8] H=B1 q /\
 ze M hK [a,p,u,q] H λ v H'=>Fr Em H H'/\(¬ok/\v=.tuple [.nilp,.int .i64 2]\/ok /\ ∃w nb,v=.tuple [.ptr w 0,.int .i64 0]/\H.au<=nb/\W1 nb H' w 0 x0 Em):=by
 have⟨l,c,s,L,f',so,K,pv,fv,N,fs,t,A,d,o,C,D,E,I⟩:=h;subst t;refine⟨.agg (eE l c s L),pv,.agg [.int .i64 f',.int .i64 so,.int .i64 K],fv,by rw[se (xe g) (by show 0+4<=9;decide)];rfl,vc g 4,by rw[se (xe g) (by show 5+3<=9;decide)];rfl,vc g 8,?_⟩;refine(xk4 A (λ p q=>⟨(d p q).1,(d p q).2.1.lt (d p q).1,(d p q).2.2⟩) o (λ q=>D.lt o q) C).mono λ v H'⟨f,r⟩=>⟨f,?_⟩
 rw[E,I];rcases r with r|⟨r,Hb,w,B,j,bs,own,ks,V,e,n,J⟩
 .exact .inl r
 .exact .inr ⟨r,w,_,e,n,Hb,B,j,.nils,bs,own,ks,V,rfl,J,λ z q=>q.elim⟩
def EL(ok:Prop)(y:vV)(n:Nat):Prop:=ok/\1<=y.kd/\y.kd<=4/\n<=40
def Gq{b T:Nat}{y:vV}(g:H.get b=B1 (OR (ir y) T)):Op.ae [.ptr b 0] H=B1 (.int .i64 y.kd)/\Op.ae [.ptr b 1] H=B1 (.int .i64 y.co)/\Op.ae [.ptr b 2] H=B1 (.int .i64 y.ad)/\Op.ae [.ptr b 3] H=B1 (.int .u64 y.v)/\Op.ae [.ptr b 4] H=B1 (.int .i64 y.n)/\Op.aq 5 [.ptr b 0] H=B1 (.agg (ir y)):=⟨vc g 0,vc g 1,vc g 2,vc g 3,vc g 4,eH g rfl⟩
def MdQ(H:ar)(x0:Wo)(o:Prop)(v:AV)(H':ar):Prop:=Fr Em H H'/\(¬o/\v=.tuple [.nilp,.int .i64 2]\/o /\ ∃w nb,v=.tuple [.ptr w 0,.int .i64 0]/\H.au<=nb/\W1 nb H' w 0 x0 Em)
def xm1(h:xF H sv x0 ok){lv:AV}{n:Nat}(hl:Op.cD [lv]=B1 (.int .i64 (n:Int)))(y:vV):ze M S2 [.agg sv,lv,.agg (ir y)] H (MdQ H x0 (EL ok y n)):=by
 refine xbv ?_;have⟨H1,e1,D,n1,E⟩:=cq H (OR sv wl);have⟨A,e2,c,n2,I⟩:=cq H1 (OR (ir y) EV);have j:=D.em c;have o:A.get H.au=B1 (OR sv wl):=(c.ah _ (by omega) id).trans E;obtain⟨a,p,u,q,N,K,L,O,hn⟩:=(h.em j).new (M:=M) o;simp only[aa,bc,NC,<-e1,<-e2,N,K,L,O];refine C3.q hn λ v C⟨z,r⟩=>?_;have F:=j.em z;have Q:¬(2:Int)=0:=by decide
 have f:¬ ¬(0:Int)=0:=λ q=>q rfl;rcases r with⟨no,rfl⟩|⟨yes,w,nb,rfl,nn,hw⟩
 .simp only[aa,bc,NC,av,Q];exact⟨F,.inl ⟨λ q=>no q.1,rfl⟩⟩
 have J:C.get H1.au=B1 (OR (ir y) EV):=(z.ah _ (by omega) id).trans I;obtain⟨e,-⟩:=Gq J
 by_cases d:y.kd<1
 .simp only[aa,bc,NC,av,f,e,xb d];exact⟨F,.inl ⟨λ q=>by have:=q.2.1;omega,rfl⟩⟩
 by_cases g:4<y.kd
 .simp only[aa,bc,NC,av,f,e,d,xb g];exact⟨F,.inl ⟨λ q=>by have:=q.2.2.1;omega,rfl⟩⟩
 by_cases t:(40:Int)<(n:Int)
 .simp only[aa,bc,NC,av,f,e,d,g,hl,xb t];exact⟨F,.inl ⟨λ q=>by have:=q.2.2.2;omega,rfl⟩⟩
 .simp only[aa,bc,NC,av,f,e,d,g,hl,t];exact⟨F,.inr ⟨⟨yes,by omega,by omega,by omega⟩,w,nb,rfl,by have:=j.au;omega,hw⟩⟩
end
section
variable{H H':ar}{nb w k:Nat}{x:Wo}{F:Nat->Prop}
def xfj(h:W1 nb H w k x F)(hl:x.h.length<=100000)(kd co:Int):ze M qqw [.ptr w 0,.int .i64 kd,.int .i64 co] H λ v H'=>v=.int .i64 ((x.h.countP λ e=>decide (e.kind=kd/\e.core=co):Nat):Int)/\Fr Em H H':=by
 refine q6u ?_;simp only[aa,bc,QG];refine C3.q (Iw h hl) λ u H1⟨hs,I⟩=>?_;have ln:=hs.len;simp only[aa,bc,ln];refine cz.intro (λ n E Hx=>∃i:Nat,E=[(13,.int .i64 (i:Int)),(12,.int .i64 ((x.h.length:Nat):Int)),(11,u),(7,.int .i64 (((x.h.take i).countP λ e=>decide (e.kind=kd/\e.core=co):Nat):Int)),(1,.int .i64 kd),(2,.int .i64 co)]/\Fr Em H1 Hx/\n=x.h.length-i/\i<=x.h.length) ?_ ?_
 .exact ⟨_,_,⟨0,rfl,Fr.refl _,rfl,xx _⟩,by simp only[aa,bc,y8,List.countP_nil]⟩
 rintro n E Hx ⟨i,rfl,g,rfl,K⟩
 by_cases d:i<x.h.length
 .have q:(i:Int)<((x.h.length:Nat):Int):=by omega
  obtain⟨e,he⟩:∃e,x.h[i]? = B1 e:=⟨_,xc d⟩
  have D:=Sl.em hs g;have ix:=(show bR fh.enc 9 Hx u x.h from D).idx he (z:=(i:Int)) rfl .i64;have ld:=(show bR fh.enc 9 Hx u x.h from D).aq e_ (by decide) he;have A:aj .i64 ((i:Int)+1)=((i+1:Nat):Int):=by rw[jj (by omega) (by omega)];omega
  have tk:x.h.take (i+1)=x.h.take i ++ [e]:=by rw[kw,he];rfl
  obtain⟨c,f⟩:∃c,c=(x.h.take i).countP λ e=>decide (e.kind=kd/\e.core=co):=⟨_,rfl⟩
  have cl:c<=i:=by rw[f];exact x9 (List.countP_le_length) (by rw[jr];omega)
  have J:aj .i64 ((c:Int)+1)=((c+1:Nat):Int):=by rw[jj (by omega) (by omega)];omega
  have⟨r,e2,t,n2,C⟩:=cq Hx (OR e.enc jv);have s2:Op.store 9 [.ptr Hx.au 0,.agg e.enc] (Hx.alloc (OR [.int .i64 0,.int .i64 0,.int .i64 0,.int .i64 0,.int .i64 0,.int .i64 0,.int .i64 0,.int .u64 0,.int .i64 0] jv))=B1 (.undef,r):=by rw[fG (n:=9) (l:=[.int .i64 0,.int .i64 0,.int .i64 0,.int .i64 0,.int .i64 0,.int .i64 0,.int .i64 0,.int .u64 0,.int .i64 0]) (xq Hx _) rfl (e_ e) rfl,Mf,e2]
  have l0:Op.ae [.ptr Hx.au 0] r=B1 (.int .i64 e.kind):=vc C 0;have l2:Op.ae [.ptr Hx.au 2] r=B1 (.int .i64 e.core):=vc C 2
  by_cases j:e.kind=kd
  .by_cases o:e.core=co
   .simp only[aa,bc,QG,xb q,ix,ld,s2,l0,xb j,l2,xb o,<-f,J,A];refine⟨_,_,⟨i+1,rfl,g.em t,rfl,d⟩,by simp only[aa,bc,tk,List.countP_append,<-f];simp[j,o],by omega⟩
   .simp only[aa,bc,QG,xb q,ix,ld,s2,l0,xb j,l2,o,<-f,A];refine⟨_,_,⟨i+1,rfl,g.em t,rfl,d⟩,by simp only[aa,bc,tk,List.countP_append,<-f];simp[o],by omega⟩
  .simp only[aa,bc,QG,xb q,ix,ld,s2,l0,j,<-f,A];refine⟨_,_,⟨i+1,rfl,g.em t,rfl,d⟩,by simp only[aa,bc,tk,List.countP_append,<-f];simp[j],by omega⟩
 .have q:¬(i:Int)<((x.h.length:Nat):Int):=by omega
  simp only[aa,bc,QG,q];rw[zi (by omega)];exact⟨rfl,I.em g⟩
def Ep(h:W1 nb H w k x F)(C:x.h.length<=100000)(hl:x.b.l.length<=64)(hk:k<=90000)(y:vV):ze M YW [.ptr w 0,.agg (ir y)] H λ v H'=>v=.bool (x.YH y)/\Fr Em H H':=by
 refine xeg ?_;have⟨H1,e1,e,n1,o⟩:=cq H (OR (ir y) EV);have⟨I,z,A,K,J,L⟩:=Gq o;have t:=h.em e;unfold Wo.YH;simp only[aa,bc,Kj,<-e1,z,xn9 t y.co,av,I]
 by_cases d:y.kd=1
 .rw [xg d];simp only[aa,bc,Kj,xb d,A];refine C3.q (Lj t hl hk y.ad) λ v n⟨u,f⟩=>?_;subst u;have r:n.get H.au=B1 (OR (ir y) EV):=(f.ah _ (by omega) id).trans o;obtain⟨-,-,-,D,-⟩:=Gq r
  by_cases c:(x.b.vD y.ad).2=0
  .simp only[aa,bc,Kj,av,xb c,D];exact e.em f
  .simp only[aa,bc,Kj,av,c];exact e.em f
 rw[qy d]
 by_cases g:y.kd=2
 .rw [xg g];simp only[aa,bc,Kj,d,xb g,A,z,J];refine C3.q (xfj t C y.ad y.co) λ v n⟨u,f⟩=>?_;subst u;have r:n.get H.au=B1 (OR (ir y) EV):=(f.ah _ (by omega) id).trans o;obtain⟨-,-,-,-,E,-⟩:=Gq r;simp only[aa,bc,Kj,E];exact⟨rfl,e.em f⟩
 rw[qy g]
 by_cases j:y.kd=3
 .rw [xg j];simp only[aa,bc,Kj,d,g,xb j];exact e
 .rw [qy j];simp only[aa,bc,Kj,d,g,j];exact e
end
end Go.Am
namespace Go.Am
open Lang Go.Proofs
variable{M:ak}[MK M]
def PW(x0:Wo)(y:vV)(l:List Act):Bool:=(x0.run l).1.YH y
def Fq:∀(l:List Act)(x:Wo),ug (x.run l).1.b=ug x.b
 |[],x=>rfl
 |a::l,x=>(Fq l _).trans (x.MC a)
structure CG(H0:ar)(nb w:Nat)(x0:Wo)(ls:List Act)(i:Nat)(Hx:ar):Prop where
 w:∃F,W1 nb Hx w (2*i) (x0.run (ls.take i)).1 F /\ ∀z,z<nb->F z
 fr:Fr Em H0 Hx
section
variable{H0 H H' Hx:ar}{nb w i:Nat}{x0:Wo}{ls:List Act}{sv:List AV}{ok:Prop}{lv:AV}
def CG.em(h:CG H0 nb w x0 ls i H)(f:Fr Em H H'):CG H0 nb w x0 ls i H':=by
 have⟨F,a,b⟩:=h.w;exact⟨⟨_,a.em f,λ z q=>.inl (b z q)⟩,h.fr.em f⟩
def CG.new(h:W1 nb H w 0 x0 Em)(f:Fr Em H0 H):CG H0 nb w x0 ls 0 H:=⟨⟨_,h.below,λ z q=>.inr q⟩,f⟩
def CG.do(h:CG H0 nb w x0 ls i Hx){a:Act}(ha:ls[i]? = B1 a)(f:x0.h=[]/\x0.n=0/\x0.b.l.length<=64)(u:i<=1000)(d:pS H0)(hn:H0.au<=nb):ze M Uj [.ptr w 0,.agg a.enc] Hx λ _ H'=>CG H0 nb w x0 ls (i+1) H':=by
 have⟨F,g,c⟩:=h.w;have A:(ls.take i).length<=i:=by rw[jr];omega
 have o:=Wo.Jy (ls.take i) x0;have j:=Wo.DR (ls.take i) x0;have t:=d.2;rw[f.1,j7]at j;rw[f.2.1]at o;refine(Pq g (by omega) (d.em h.fr) (by omega) (by omega) (by omega) (by omega) a).mono λ v H'⟨_,p⟩=>?_;have e:(x0.run (ls.take (i+1))).1=((x0.run (ls.take i)).1.act a).1:=by
  rw[kw,ha,show(B1 a).toList=[a]from rfl,Wo.yN];rfl
 refine⟨⟨λ z=>F z\/Em z,by rw[e];exact p.w,λ z q=>.inl (c z q)⟩,x9 h.fr.au p.n,λ z r q=>(p.kp z (c z (by omega))).trans (h.fr.ah z r q)⟩
def CG.has(h:CG H0 nb w x0 ls i Hx)(d:x0.h=[]/\x0.n=0/\x0.b.l.length<=64)(g:i<=1000)(y:vV):ze M YW [.ptr w 0,.agg (ir y)] Hx λ v H'=>v=.bool (PW x0 y (ls.take i))/\Fr Em Hx H':=by
 have⟨F,c,f⟩:=h.w;have j:(ls.take i).length<=i:=by rw[jr];omega
 have e:=Wo.DR (ls.take i) x0;rw[d.1,j7]at e;have o:((x0.run (ls.take i)).1.b).l.length=x0.b.l.length:=congrArg CH (Fq (ls.take i) x0);exact Ep c (by omega) (by omega) (by omega) y
def HdQ(H:ar)(o:Prop)(b:Bool)(v:AV)(H':ar):Prop:=Fr Em H H'/\(¬o/\v=.tuple [.bool B2,.int .i64 2]\/o/\v=.tuple [.bool b,.int .i64 0])
def Y8:[AV.int .i64 0,.int .i64 0,.int .i64 0]=Act.enc ⟨0,0,0⟩:=rfl
def UF(h:xF H sv x0 ok)(hs:bR Act.enc 3 H lv ls)(R:pS H)(y:vV):ze M _U [.agg sv,lv,.agg (ir y)] H (HdQ H (EL ok y ls.length) (PW x0 y ls)):=by
 refine q8e ?_;have⟨H1,e1,K,n1,O⟩:=cq H (OR sv wl);have⟨o,e2,d,n2,u⟩:=cq H1 (OR (ir y) EV);have c:=K.em d;have U:Op.aq 9 [.ptr H.au 0] o=B1 (.agg sv):=eH ((d.ah _ (by omega) id).trans O) h.len;obtain⟨-,-,-,-,-,j⟩:=Gq u;have ln:=(Sl.em hs c).len;simp only[aa,bc,Lh,<-e1,<-e2,U,j];refine C3.q (xm1 (h.em c) ln y) λ v H3⟨t,r⟩=>?_;have Z:¬(2:Int)=0:=by decide
 have X:¬ ¬(0:Int)=0:=λ q=>q rfl;rcases r with⟨no,rfl⟩|⟨yes,w,nb,rfl,nn,hw⟩
 .simp only[aa,bc,Lh,av,Z];exact⟨c.em t,.inl ⟨no,rfl⟩⟩
 have A:=h.zero yes.1;have W:=yes.2.2.2;simp only[aa,bc,Lh,av,X,ln];refine cz.intro (λ n E Hx=>∃i:Nat,E=[(24,.int .i64 (i:Int)),(23,.int .i64 ((ls.length:Nat):Int)),(22,lv),(8,.ptr w 0),(5,.ptr H1.au 0)]/\CG o nb w x0 ls i Hx/\n=ls.length-i/\i<=ls.length) ?_ ?_
 .exact ⟨_,_,⟨0,rfl,.new hw t,rfl,xx _⟩,by simp only[aa,bc]⟩
 rintro n E Hx ⟨i,rfl,e,rfl,hi⟩
 by_cases f:i<ls.length
 .have q:(i:Int)<((ls.length:Nat):Int):=by omega
  obtain⟨a,ha⟩:∃a,ls[i]? = B1 a:=⟨_,xc f⟩
  have C:=Sl.em hs (c.em e.fr);have ix:=(show bR Act.enc 3 Hx lv ls from C).idx ha (z:=(i:Int)) rfl .i64;have ld:=(show bR Act.enc 3 Hx lv ls from C).aq Act.len (by decide) ha;have wi:aj .i64 ((i:Int)+1)=((i+1:Nat):Int):=by rw[jj (by omega) (by omega)];omega
  have⟨D,J,L,n4,Q⟩:=cq Hx (OR a.enc uc);have Y:Op.store 3 [.ptr Hx.au 0,.agg a.enc] (Hx.alloc (OR (Act.enc ⟨0,0,0⟩) uc))=B1 (.undef,D):=by rw[fG (xq Hx _) (Act.len _) (Act.len a) (Act.one a),Mf,J]
  have l4:=eH Q (Act.len a);simp only[aa,bc,Lh,xb q,ix,ld,Y8,Y,l4];refine C3.q ((e.em L).do ha A (by omega) (R.em c) nn) λ v I g=>?_;simp only[aa,bc,Lh,wi];exact⟨_,_,⟨i+1,rfl,g,rfl,f⟩,by simp only[aa,bc],by omega⟩
 .have q:¬(i:Int)<((ls.length:Nat):Int):=by omega
  obtain⟨-,-,-,-,-,j⟩:=Gq (H:=Hx) (y:=y) (b:=H1.au) (T:=EV) ((e.fr.ah _ (by omega) id).trans u);simp only[aa,bc,Lh,q,j];refine C3.q (e.has A (by omega) y) λ v I⟨S,N⟩=>?_;subst S;rw[zi (by omega)];simp only[aa,bc,Lh];exact⟨(c.em e.fr).em N,.inr ⟨yes,rfl⟩⟩
end
end Go.Am
namespace Go.Am
open Lang Go.Proofs
variable{M:ak}[MK M]
def j4(o:Prop)(b:Bool)(n:Int):Prop:=(¬o/\n=2)\/(o/\b=B2/\n=280)\/(o/\b=B4/\n=0)
def WtQ(H:ar)(o:Prop)(b:Bool)(v:AV)(H':ar):Prop:=Fr Em H H' /\ ∃n,v=.int .i64 n/\j4 o b n
def ZU(I:Nat->Env->List aK->ar->Prop)(n:Nat)(Q:aE):aE:=λ e E D H=>match e with
 | .normal=>∃m E',I m E' D H/\uE E' E/\m<n
 |e=>Q e E D H
def QW{ctx:Ctx}{p:Kp×ai}{Q:aE}{E:Env}{D:List aK}{H:ar}(I:Nat->Env->List aK->ar->Prop)(j:∃n d,I n d D H/\uE d E)(h:∀n E D H,I n E D H->W M ctx p B4 (ZU I n Q) E D H):cz (W M ctx p) Q E D H:=by
 obtain⟨n,d,o,r⟩:=j;refine⟨I,⟨n,d,o,r.ss⟩,λ n E D H t=>W.mono (h n E D H t) λ e E D' H f=>?_⟩;cases e with
 |normal=>obtain⟨m,g,a,b,c⟩:=f;exact⟨m,g,a,b.ss,c⟩
 |_=>exact f
def xin(I:Nat->Env->List aK->ar->Prop)(D:List aK)(n:Nat)(Q:aE)(E:Env)(H:ar):ZU I n Q .normal E D H = ∃m c,I m c D H/\uE c E/\m<n:=rfl
def ag5(I:Nat->Env->List aK->ar->Prop)(D:List aK)(n:Nat)(Q:aE)(E:Env)(H:ar)(l:Nat):ZU I n Q (.exit l) E D H=Q (.exit l) E D H:=rfl
def Δ{rs:List d9}{Q:bI->ar->Prop}{E:Env}:∀{ds:List Nat}{H:ar},(∀d∈ds,H.get d=B1 (.deferred (B1 [])))->ds.Nodup->(∀H',H'.au=H.au->(∀z,z∉ds->H'.get z=H.get z)->eG M rs Q .ret E [] H')->eG M rs Q .ret E (ds.map aK.iy) H
 |[],H,_,_,h=>h H rfl λ _ _=>rfl
 |d::ds,H,hd,hn,h=>by
  rw[kh,xii];have⟨n1,n2⟩:=List.nodup_cons.1 hn;refine⟨hd d (Hn ..),Δ (λ e q=>?_) n2 λ H' a b=>h H' (a.trans (tO ..)) λ z q=>?_⟩
  .rw [kz λ w:d=e=>n1 (w▸q)];exact hd e (Oo _ q)
  .rw [b z λ w=>q (Oo _ w),kz λ w:d=z=>q (w▸Hn ..)]
section
variable{H0 H H' Hx:ar}{nb w i:Nat}{x0:Wo}{ls:List Act}{sv:List AV}{ok:Prop}{lv:AV}
def q67(h:xF H sv x0 ok)(hs:bR Act.enc 3 H lv ls)(o:pS H)(y:vV):ze M qqy [.agg sv,lv,.agg (ir y)] H (WtQ H (EL ok y ls.length) (PW x0 y ls)):=by
 refine q6v ?_;have⟨H1,e1,g,n1,j⟩:=cq H (OR sv wl);have⟨f,e2,d,n2,n⟩:=cq H1 (OR (ir y) EV);have c:=g.em d;have u:Op.aq 9 [.ptr H.au 0] f=B1 (.agg sv):=eH ((d.ah _ (by omega) id).trans j) h.len;obtain⟨-,-,-,-,-,t⟩:=Gq n;simp only[aa,bc,T3,<-e1,<-e2,u,t];refine C3.q (UF (h.em c) (Sl.em hs c) (o.em c) y) λ v A⟨e,r⟩=>?_;have z:¬(2:Int)=0:=by decide
 rcases r with⟨no,rfl⟩|⟨yes,rfl⟩
 .simp only[aa,bc,T3,av,z];exact⟨c.em e,_,rfl,.inl ⟨no,rfl⟩⟩
 .cases hp:PW x0 y ls with
  |true =>
   simp only[aa,bc,T3,av];exact⟨c.em e,_,rfl,.inr (.inr ⟨yes,rfl,rfl⟩)⟩
  |false =>
   simp only[aa,bc,T3,av];exact⟨c.em e,_,rfl,.inr (.inl ⟨yes,rfl,rfl⟩)⟩
def El(b:Bool):List AV:=[.bool b]
def af0(b:Bool):(El b).length=1:=rfl
def iT(P:List Act->Bool)(ls:List Act):List Bool:=(N5 ls.length).map λ i=>!P (ls.eraseIdx i)
def EL.less{y:vV}{n m:Nat}(h:EL ok y n)(q:m<=n):EL ok y m:=⟨h.1,h.2.1,h.2.2.1,by have:=h.2.2.2;omega⟩
def NdQ(H:ar)(o:Prop)(P:List Act->Bool)(ls:List Act)(v:AV)(H':ar):Prop:=Fr Em H H'/\((∃n,v=.tuple [.nils,.int .i64 n]/\j4 o (P ls) n/\n≠0)\/(o/\P ls=B4 /\ ∃nv,v=.tuple [nv,.int .i64 0]/\bR El 1 H' nv (iT P ls)))
def xex(h:xF H sv x0 ok)(hs:bR Act.enc 3 H lv ls)(J:pS H)(y:vV):ze M V1 [.agg sv,lv,.agg (ir y)] H (NdQ H (EL ok y ls.length) (PW x0 y) ls):=by
 refine q6r ?_;have⟨H1,e1,N,n1,Q⟩:=cq H (OR sv wl);have⟨o,e2,g,n2,R⟩:=cq H1 (OR (ir y) EV);have d:=N.em g;have A:o.get H.au=B1 (OR sv wl):=(g.ah _ (by omega) id).trans Q;have bx:∀{Hx:ar},Fr Em o Hx->Op.aq 9 [.ptr H.au 0] Hx=B1 (.agg sv)/\Op.aq 5 [.ptr H1.au 0] Hx=B1 (.agg (ir y)):=λ{Hx}f=>⟨eH ((f.ah _ (by omega) id).trans A) h.len,(Gq ((f.ah _ (by omega) id).trans R)).2.2.2.2.2⟩
 have ln:=(Sl.em hs d).len;simp only[aa,bc,Kk,<-e1,<-e2,bx (Fr.refl _)];refine C3.q (q67 (h.em d) (Sl.em hs d) (J.em d) y) λ v H3⟨D,n,S,hn⟩=>?_;subst S
 by_cases n0:n=0
 case neg =>
  simp only[aa,bc,Kk,xb n0];exact⟨d.em D,.inl ⟨n,rfl,hn,n0⟩⟩
 subst n0;obtain⟨yes,hp⟩:EL ok y ls.length/\PW x0 y ls=true:=by rcases hn with⟨_,q⟩|⟨_,_,q⟩|⟨a,b,_⟩;cases q;cases q;exact⟨a,b⟩
 have T:=yes.2.2.2;simp only[aa,bc,Kk,ln];refine cz.intro (λ n E Hx=>∃(i:Nat)(j:AV),E=[(22,.int .i64 (i:Int)),(21,.int .i64 ((ls.length:Nat):Int)),(9,j),(5,.ptr H1.au 0),(3,.ptr H.au 0),(1,lv)]/\Fr Em o Hx/\aT El M8 1 Hx j ((iT (PW x0 y) ls).take i)/\(∀z,aM j z->o.au<=z)/\n=ls.length-i/\i<=ls.length) ?_ ?_
 .exact ⟨_,_,⟨0,.nils,rfl,D,by rw[y8];exact Own.nil ..,λ z q=>(q.1 rfl).elim,rfl,xx _⟩,by simp only[aa,bc]⟩
 rintro n E Hx ⟨i,j,rfl,t,ho,K,rfl,hi⟩;have nl:(iT (PW x0 y) ls).length=ls.length:=by unfold iT;rw[xr,zw]
 by_cases e:i<ls.length
 .have q:(i:Int)<((ls.length:Nat):Int):=by omega
  have Y:aj .i64 ((i:Int)+1)=((i+1:Nat):Int):=by rw[jj (by omega) (by omega)];omega
  simp only[aa,bc,Kk,xb q,bx t];refine C3.q (qz2 (Sl.em hs (d.em t)) e (by omega)) λ r H4⟨⟨W,_⟩,I,n4⟩=>?_;have c:=t.em I;simp only[aa,bc,Kk,bx c];have le:(ls.eraseIdx i).length=ls.length-1:=List.length_eraseIdx_of_lt e;refine C3.q (UF (h.em (d.em c)) W (J.em (d.em c)) y) λ v H5⟨u,U⟩=>?_;rcases U with⟨no,_⟩|⟨_,rfl⟩
  .exact (no (yes.less (by omega))).elim
  have C:=Own.em (Own.em ho I) u;have tk:(iT (PW x0 y) ls).take (i+1)=(iT (PW x0 y) ls).take i ++ [!PW x0 y (ls.eraseIdx i)]:=by
   rw[kw];congr 1;unfold iT;rw[xm,jx e];rfl
  have tl:((iT (PW x0 y) ls).take i).length=i:=by rw[jr];omega
  simp only[aa,bc,Kk,av];refine aT.pU (bytes:=1) C (x:=.bool (!PW x0 y (ls.eraseIdx i))) (a:=!PW x0 y (ls.eraseIdx i)) rfl rfl rfl rfl (by decide) (by omega) (by omega) λ X H6 L O Z=>?_;rw[<-tk]at L;have n5:=(c.em u).au;simp only[aa,bc,Kk,Y];exact⟨_,_,⟨i+1,X,rfl,(c.em u).trans O λ z q=>.inr (K z q),L,λ z q=>(Z z q).elim (K z) λ q=>by omega,rfl,e⟩,by simp only[aa,bc],by omega⟩
 .have q:¬(i:Int)<((ls.length:Nat):Int):=by omega
  rw[zi (by omega)]at ho;simp only[aa,bc,Kk,q];exact⟨d.em t,.inr ⟨yes,hp,j,rfl,aT.sl ho⟩⟩
def lQ(n:Nat):List (List AV):=(N5 n).map λ j=>[.int .i64 ((n-1-j:Nat):Int)]
def xiv{H0:ar}{p b n:Nat}(hp:H0.get p=B1 (OR [.ptr b 0] Cg))(Q:p<H0.au)(hn:n<=100000) :
 sJ M NK [] [.ptr p 0] (λ x=>x=p) (λ _=>False) (λ i H=>i=0 -> ∃v,Op.ae [.ptr b 0] H=B1 v/\Op.cD [v]=B1 (.int .i64 (n:Int))) H0 (lQ n):=by
 intro Y R S d H1 O K g u loc I hI step;have⟨p1,U,p3⟩:=K p (.inl rfl)
 suffices h:ze M NK [.fn (.yield Y) [] [],.ptr p 0] H1 (Hq R S d (λ _=>False) H1 (lQ n).length)by
  have⟨v,H',L,W',W,X,Z⟩:=h.elim;exact⟨v,H',W',L,W,X,Z⟩
 refine q6t ?_;have lp:Op.ae [.ptr p 0] H1=B1 (.ptr b 0):=by rw[zd (xe (by rw[U];exact hp))];rfl
 obtain⟨v,lb,ln⟩:=hI 0 d H1 g rfl;have J:(lQ n).length=n:=by unfold lQ;rw[xr,zw]
 have w1:aj .i64 ((n:Int)-1)=(n:Int)-1:=jj (by omega) (by omega);simp only[aa,bc,O2,lp,qt,lb,ln,w1];refine cz.intro (λ m E Hx=>∃(i:Nat)(V:Nat->Prop)(z:Int),E=[(3,.int .i64 z),(0,.fn (.yield Y) [] [])]/\z=(n:Int)-1-i/\m=n-i/\i<=n/\JE R d H1 Hx i V) ?_ ?_
 .exact ⟨_,_,⟨0,d,(n:Int)-1,rfl,by omega,rfl,xx _,⟨g,λ b hb=>⟨u b hb,.inl hb⟩,Fr.refl _⟩⟩,by simp only[aa,bc]⟩
 rintro m E Hx ⟨i,V,z,rfl,hz,rfl,hi,c⟩;rcases za i n with C|N
 .have t:0<=z:=by omega
  have wj:aj .i64 (z-1)=z-1:=jj (by omega) (by omega);have hg:(lQ n)[i]? = B1 [.int .i64 z]:=by
   have e:((n-1-i:Nat):Int)=z:=by omega
   unfold lQ;rw[xm,jx C];show B1 [AV.int .i64 ((n-1-i:Nat):Int)]=_;rw[e]
  have⟨bb,D,r,hr,A,o,T,hs⟩:=step _ _ hg V Hx c.hR c.hV (c.fr.mono λ _ _ q=>.inl q);have f:Fr d H1 D:=c.fr.trans A λ b q=>(c.hV b q).2;have j:∀b,r b->b<D.au/\(d b\/H1.au<=b):=λ b q=>⟨(o b q).1,(o b q).2.elim (λ w=>(c.hV b w).2) λ w=>.inr (x9 c.fr.au w)⟩
  simp only[aa,bc,O2,xb t];refine C3.tu hr ?_;cases bb with
  |true =>
   simp only[aa,bc,O2,wj];exact⟨_,_,⟨i+1,r,z-1,rfl,by omega,rfl,by omega,⟨T rfl,j,f⟩⟩,by simp only[aa,bc],by omega⟩
  |false =>
   simp only[aa,bc,O2];exact⟨r,f.mono λ _ _ w=>.inl w,j,.inr (hs rfl)⟩
 .have t:¬0<=z:=by omega
  simp only[aa,bc,O2,t];exact⟨V,c.fr.mono λ _ _ w=>.inl w,c.hV,.inl (by rw[J,show n=i by omega];exact c.hR)⟩
def xlc{H:ar}(b:Nat):ze M T_ [.ptr b 0] H λ v H'=>v=.fn (.func NK) [] [.ptr H.au 0]/\H'=H.alloc (OR [.ptr b 0] Cg):=by
 refine xbt ?_;have mk:Op.bt NK 0 [.ptr H.au 0]=B1 (.fn (.func NK) [] [.ptr H.au 0]):=rfl;simp only[aa,bc,xbu,mk];rfl
def ShQ(H:ar)(o:Prop)(P:List Act->Bool)(ls:List Act)(v:AV)(H':ar):Prop:=Fr Em H H'/\((∃n,v=.tuple [.nils,.int .i64 n]/\j4 o (P ls) n/\n≠0)\/(o/\P ls=B4 /\ ∃rv,v=.tuple [rv,.int .i64 0]/\xT H' rv (shr P ls) /\ ∀z,aM rv z->H.au<=z))
structure T5(P:List Act->Bool)(l0:List Act)(n2 b j:Nat)(V:Nat->Prop)(Hx:ar):Prop where
 vt:V b
 bx:∃v l,Hx.get b=B1 (OR [v] nM)/\xT Hx v l/\(∀z,aM v z->n2<=z/\V z/\z≠b)/\CB P (l0.length-j) l=nA P l0/\l0.length-j<=l.length/\l.length<=l0.length/\(j=0->l=l0)/\P l=B4
 lt:b<Hx.au
def xT.fr{W:Nat->Prop}{v:AV}{l:List Act}(h:xT H v l)(f:Fr W H H')(hw:∀z,aM v z -> ¬W z):xT H' v l:=by
 refine⟨?_,h.2.imp id λ⟨b,m,rest,a1,a2,a3,a4⟩=>⟨b,m,rest,a1,qn a2 f.au,a3,by rw[f.ah b a2 (hw b (by rw[a1];exact⟨by simp,rfl⟩))];exact a4⟩⟩;rcases h.2 with rfl|⟨b,m,rest,rfl,_⟩
 .exact Sl.fr h.1 f (.inl rfl)
 .exact Sl.fr h.1 f (.inr (hw b ⟨by simp,rfl⟩))
def T5.loc{P:List Act->Bool}{l0:List Act}{n2 b j:Nat}{V:Nat->Prop}(h:T5 P l0 n2 b j V H)(hs:∀x,V x->H'.get x=H.get x)(hn:H.au<=H'.au):T5 P l0 n2 b j V H':=by
 obtain⟨v,l,d,e,c,f⟩:=h.bx;exact⟨h.vt,⟨v,l,by rw[hs _ h.vt];exact d,e.fr (W:=λ b=>¬V b) ⟨hn,λ b _ hw=>hs b (wn.1 hw)⟩ λ z q w=>w (c z q).2.1,c,f⟩,qn h.lt hn⟩
def q3l(h:xF H sv x0 ok)(hs:bR Act.enc 3 H lv ls)(hS:pS H)(y:vV):ze M Re [.agg sv,lv,.agg (ir y)] H (ShQ H (EL ok y ls.length) (PW x0 y) ls):=by
 refine q6s ?_;have⟨H1,e1,f1,n1,g1⟩:=cq H (OR sv wl);have⟨O,e2,f12,n2,g2⟩:=cq H1 (OR (ir y) EV);have C:=f1.em f12;have g1':O.get H.au=B1 (OR sv wl):=(f12.ah _ (by omega) id).trans g1;have bx:∀{Hx:ar},Fr Em O Hx->Op.aq 9 [.ptr H.au 0] Hx=B1 (.agg sv)/\Op.aq 5 [.ptr H1.au 0] Hx=B1 (.agg (ir y)):=λ{Hx}f=>⟨eH ((f.ah _ (by omega) id).trans g1') h.len,(Gq ((f.ah _ (by omega) id).trans g2)).2.2.2.2.2⟩
 simp only[aa,bc,I6,<-e1,<-e2,bx (Fr.refl _)];refine C3.q (q67 (h.em C) (Sl.em hs C) (hS.em C) y) λ v H3⟨f3,n,A,hn⟩=>?_;subst A
 by_cases n0:n=0
 case neg =>
  simp only[aa,bc,I6,xb n0];exact⟨C.em f3,.inl ⟨n,rfl,hn,n0⟩⟩
 subst n0;obtain⟨yes,hp⟩:EL ok y ls.length/\PW x0 y ls=true:=by rcases hn with⟨_,q⟩|⟨_,_,q⟩|⟨a,b,_⟩;cases q;cases q;exact⟨a,b⟩
 have l40:=yes.2.2.2;simp only[aa,bc,I6];refine C3.q (q4i (Sl.em hs (C.em f3)) (by omega)) λ cv c⟨oc,nc,f4⟩=>?_;have⟨H5,e5,f5,n5,g5⟩:=cq c (OR [cv] nM);have one:aB cv=true:=Sl.one (aT.sl oc);have s5:Op.store 1 [.ptr c.au 0,cv] (c.alloc (OR [.nils] nM))=B1 (.undef,H5):=by
  have st:=(At.new c [.nils] nM).st 0 one (by simp);rw[st,Mf,e5];rfl
 simp only[aa,bc,I6,s5];obtain⟨P,eP⟩:∃P,P=PW x0 y:=⟨_,rfl⟩
 rw[<-eP]at hp⊢;have fx5:Fr Em O H5:=(f3.em f4).em f5;have m5:=(f3.em f4).au;refine QW (λ m E D Hx=>∃(K:Int)(v:AV)(l:List Act)(ds:List Nat),E=[(10,.int .i64 K),(9,.ptr c.au 0),(5,.ptr H1.au 0),(3,.ptr H.au 0)]/\D=ds.map aK.iy/\ds.Nodup/\(∀d∈ds,c.au<d/\d<Hx.au/\Hx.get d=B1 (.deferred (B1 [])))/\Fr Em O Hx/\Hx.get c.au=B1 (OR [v] nM)/\c.au<Hx.au/\xT Hx v l/\(∀z,aM v z->O.au<=z/\z≠c.au/\z∉ds/\z<Hx.au)/\l.length<=ls.length/\P l=B4/\shr P l=shr P ls/\(K=(l.length:Int)->nA P l=l)/\m=(if K=(l.length:Int)then 0 else l.length+1)) ?_ ?_
 .exact ⟨_,_,⟨-1,cv,ls,[],rfl,rfl,List.nodup_nil,λ d q=>(by cases q),fx5,g5,by omega,(xT.of oc).em f5,λ z q=>⟨by have:=nc z q;have:=f3.au;omega,by have:=Own.lt oc z q;omega,λ w=>(by cases w),by have:=Own.lt oc z q;omega⟩,qm _,hp,rfl,λ q=>by omega,rfl⟩,by simp only[aa,bc]⟩
 rintro m E D Hx ⟨K,v,l,ds,rfl,rfl,hnd,J,fx,gb,lb,wt,A,ll,hpl,hsh,hfx,rfl⟩;have l9:Op.ae [.ptr c.au 0] Hx=B1 v:=vc gb 0;have ln:Op.cD [v]=B1 (.int .i64 (l.length:Int)):=wt.1.len
 by_cases hw:K=(l.length:Int)
 .simp only[aa,bc,I6,l9,ln,xb hw,ag5];refine Δ (λ d q=>(J d q).2.2) hnd λ H' nx kp=>?_;have es:shr P ls=l:=by rw[<-hsh];exact Q4 P (hfx hw) _
  simp only[aa,bc];refine⟨⟨by have:=(C.em fx).au;omega,λ z zl _=>?_⟩,.inr ⟨yes,hp,v,rfl,?_,λ z q=>by have:=(A z q).1;have:=C.au;omega⟩⟩
  .rw [kp z λ w=>by have:=(J z w).1;have:=C.au;omega];exact(C.em fx).ah z zl id
  .rw [es];exact wt.fr (W:=λ z=>z∈ds) ⟨by omega,λ z _ q=>kp z q⟩ λ z q=>(A z q).2.2.1
 .simp only[aa,bc,I6,l9,ln,hw];refine C3.q (xlc c.au) λ bv H6⟨hbv,h6⟩=>?_;subst hbv;obtain⟨f6,n6,g6⟩:Fr Em Hx H6/\H6.au=Hx.au+1/\H6.get Hx.au=B1 (OR [.ptr c.au 0] Cg):=by rw[h6];exact⟨(Fr.refl Hx).alloc _,xz ..,xq ..⟩
  have gb6:H6.get c.au=B1 (OR [v] nM):=(f6.ah _ lb id).trans gb;have wt6:=wt.em f6;simp only[aa,bc,I6];refine iH.sQ (fn:=Uv) (lp:=Qw) (pa:=YP 0) (pb:=Zd 0) q1n qn8.1 qn8.2 (by decide) qyt qyu
   (xiv (n:=l.length) g6 (by omega) (by omega)) (λ j V Hy=>T5 P l O.au c.au j V Hy) (λ _ _ _=>False) (λ z=>z=c.au\/aM v z) (qm _) ?_ ?_ ?_ ?_ ?_ ?_ ?_ ?_ ?_
  .rintro x (q|q)
   .exact ⟨by omega,rfl,λ w=>w.elim (by omega) λ w=>by have:=(A x w).2.2.2;omega⟩
   .exact q.elim
  .exact λ x q=>q.elim (by omega) λ q=>by have:=(A x q).2.2.2;omega
  .exact ⟨.inl rfl,⟨v,l,gb6,wt6,λ z q=>⟨(A z q).1,.inr q,(A z q).2.1⟩,rfl,qm _,qm _,λ _=>rfl,hpl⟩,by omega⟩
  .exact λ j V Ha Hb h hs hn=>h.loc hs hn
  .exact λ e V Ha Hb h _ _=>h
  .intro j V Hy o e0;obtain⟨R,u,a1,a2,_,_,_,_,a7,_⟩:=o.bx;have a7:=a7 e0;subst a7;exact⟨R,vc a1 0,a2.1.len⟩
  .intro L j lr lbo x hx hL V N o hV hf7 hnL hL7 hgL;have bl:(lQ l.length).length=l.length:=by unfold lQ;rw[xr,zw]
   have hj:j<l.length:=by have:=(qo.1 hx).1;omega
   obtain⟨k,hk⟩:∃k,k=l.length-1-j:=⟨_,rfl⟩
   unfold lQ at hx;rw[xm,jx hj]at hx;injection hx with hx
   have hx:[AV.int .i64 ((l.length-1-j:Nat):Int)]=x:=hx;subst hx;rw[<-hk];refine⟨_,rfl,?_⟩;obtain⟨-,wa,wb,-,wb3,-,wb11,-⟩:=I6 M ⟨B1 L,Re⟩;simp only[aa,bc,wa,A6];refine⟨hgL,?_⟩;obtain⟨R,u,a1,a2,U,Y,a5,a6,a7,a8⟩:=o.bx;have hLb:L≠c.au:=λ q=>hnL (by rw[q];exact o.vt);have F7:Fr Em O N:=(fx.em f6).trans hf7 λ z q=>.inr (q.elim (λ q=>q.elim (λ q=>by omega) λ q=>(A z q).1) Nn);obtain⟨T,e8⟩:∃X,X=N.set L lbo:=⟨_,rfl⟩
   rw[<-e8];have I:Fr (On L) N T:=by rw[e8];exact b9 ..
   have n8:T.au=N.au:=by rw[e8];rfl
   have F8:Fr Em O T:=F7.trans I λ z(q:z=L)=>.inr (by have:=fx.au;omega);have gL8:T.get L=B1 lbo:=by rw[e8];exact xf ..
   have hB8:=o.loc (H':=T) (λ z q=>I.ah z (hV z q).1 λ(w:z=L)=>hnL (w▸q)) (by omega);have gb8:T.get c.au=B1 (OR [R] nM):=(I.ah _ o.lt λ(w:c.au=L)=>hLb w.symm).trans a1;have wt8:xT T R u:=a2.fr I λ z q(w:z=L)=>hnL (w▸(U z q).2.1);have ki:k<u.length:=by omega
   have er:CB P k (if P (u.eraseIdx k)=B4 then u.eraseIdx k else u)=nA P l:=by rw[<-Y,show l.length-j=k+1 by omega];rfl
   have ej:l.length-(j+1)=k:=by omega
   have VL:∀z,V z->z<T.au/\(V z\/N.au<=z):=λ z q=>⟨by have:=(hV z q).1;omega,.inl q⟩
   simp only[aa,bc,wb,vc gb8 0];refine C3.q (qz2 wt8.1 ki (by omega)) λ r H9⟨w9,f9,nw9⟩=>?_;have F9:=F8.em f9;simp only[aa,bc,wb3,bx F9];have le:(u.eraseIdx k).length=u.length-1:=List.length_eraseIdx_of_lt ki;refine C3.q (UF (h.em (C.em F9)) w9.1 (hS.em (C.em F9)) y) λ vv t⟨f10,r10⟩=>?_;rcases r10 with⟨no,_⟩|⟨_,rfl⟩
   .exact (no (yes.less (by omega))).elim
   have g:=f9.em f10;have n10:=g.au;have Z:t.get L=B1 lbo:=(g.ah L (by omega) id).trans gL8;rw[<-eP];have S:Fr (λ z=>V z\/z=L) N t:=(I.mono λ z _(q:z=L)=>.inr q).trans g λ z q=>q.elim;cases hpp:P (u.eraseIdx k)with
   |false =>
    rw[hpp,qy (by decide)]at er;simp only[aa,bc,av,wb11];refine⟨rfl,Z,V,λ z q=>⟨by have:=(VL z q).1;omega,.inl q⟩,S,.inl ⟨rfl,⟨o.vt,⟨R,u,(g.ah _ (by have:=o.lt;omega) id).trans gb8,wt8.em g,U,by rw[ej];exact er,by omega,a6,λ q=>by omega,a8⟩,by have:=o.lt;omega⟩⟩⟩
   |true =>
    rw[hpp,xg rfl]at er;have one:aB r=true:=Sl.one w9.1;have st:=(show At t c.au nM [R]from⟨(g.ah _ (by have:=o.lt;omega) id).trans gb8,by have:=o.lt;omega⟩).st 0 one (by simp);obtain⟨H11,Q⟩:∃X,X=t.set c.au (OR ([R].set 0 r) nM):=⟨_,rfl⟩
    rw[<-Q]at st;have f11:Fr (On c.au) t H11:=by rw[Q];exact b9 ..
    have n11:H11.au=t.au:=by rw[Q];rfl
    have nr:∀z,aM r z->N.au<=z:=λ z q=>by have:=(nw9 z q).1;omega
    have hb7:=o.lt;have rl:∀z,aM r z->z<t.au:=λ z q=>by have:=(nw9 z q).2;have:=f10.au;omega
    simp only[aa,bc,av,wb11,st];refine⟨rfl,(f11.ah L (by omega) hLb).trans Z,λ z=>V z\/aM r z,λ z q=>?_,(S.trans f11 λ z(q:z=c.au)=>.inl (.inl (by rw[q];exact o.vt))),.inl ⟨rfl,⟨.inl o.vt,⟨r,u.eraseIdx k,by rw[Q];exact xf ..,(w9.em f10).fr f11 λ z q(w:z=c.au)=>by have:=nr z q;omega,λ z q=>⟨by have:=nr z q;have:=F7.au;omega,.inr q,by have:=nr z q;omega⟩,by rw[ej];exact er,by omega,by omega,λ q=>by omega,hpp⟩,by omega⟩⟩⟩;rcases q with q|q
    .exact ⟨by have:=(VL z q).1;omega,.inl q⟩
    .exact ⟨by have:=rl z q;omega,.inr (nr z q)⟩
  .intro d V N hd1 hd2 hgd hfd hVd o;have bl:(lQ l.length).length=l.length:=by unfold lQ;rw[xr,zw]
   rw[bl]at o;obtain⟨R,u,a1,a2,U,Y,a5,a6,a7,a8⟩:=o.bx;have Y:u=nA P l:=by rw[<-Y,GU];rfl
   have F7:Fr Em O N:=(fx.em f6).trans hfd λ z q=>.inr (q.elim (λ q=>q.elim (λ q=>by omega) λ q=>(A z q).1) Nn);have nfd:=hfd.au;simp only[aa,bc,I6,Cw,xin];refine⟨_,_,⟨(l.length:Int),R,u,d::ds,rfl,rfl,List.nodup_cons.2 ⟨λ q=>by have:=(J d q).2.1;omega,hnd⟩,λ e q=>?_,F7,a1,o.lt,a2,λ z q=>⟨(U z q).1,(U z q).2.2,λ w=>?_,(hVd z (U z q).2.1).1⟩,by omega,a8,by rw[Y,DH];exact hsh,λ q=>?_,rfl⟩,by simp only[aa,bc],?_⟩
   .rcases kj.1 q with rfl|q
    .exact ⟨by omega,hd2,hgd⟩
    .have ⟨x1,x2,x3⟩:=J e q;exact⟨x1,by omega,(hfd.ah e (by omega) λ w=>w.elim (λ w=>w.elim (by omega) λ w=>(A e w).2.2.1 q) id).trans ((f6.ah e x2 id).trans x3)⟩
   .have ⟨y1,y2,y3⟩:=hVd z (U z q).2.1;rcases kj.1 w with e|w
    .exact y3 e
    .exact y2.elim (λ y=>y.elim (U z q).2.2 λ y=>(A z y).2.2.1 w) λ y=>by have:=(J z w).2.1;omega
   .have e:=(Yz P (l:=l) (by rw[<-Y];omega)).1;rw[Y,e];exact e
   .have:=Xn P l;rw[<-Y]at this;split<;>omega
  .exact λ e d V N _ _ _ _ _ _ o=>o.elim
end
end Go.Am
namespace Go.Am
open Lang Go.Proofs
variable{M:ak}[MK M]
section
open Go.RowKit
def ag8{P:Jv}{tL tA e:Mj}{g:Array Field}(A:P.underlying tL=B1 (.slice tA))(uA:P.underlying tA=B1 (.struct g))(t:g.toList.map (·.type)=[e,e,e])(uN:P.underlying e=B1 (.int .i64))(v:Gp P 0 g.toList=B4)(z:(g.toList.map λ f=>P.cellsOf f.type).sum=P.cellsOf tA)(j:P.cellsOf tA=3) :
 rN P tL λ H l=>∃u,l=[u] /\ ∃ls:List Act,bR Act.enc 3 H u ls:=by
 refine(TT A (fB (n:=3) uA t uN v z) (by rw[j];decide)).imp ?_ λ H l h=>?_
 .rintro H H' l ⟨u,d,xs,o⟩ f;exact⟨u,d,xs,o.em f⟩
 .obtain ⟨u,rfl,d,o⟩:=h;rw[j]at d;have⟨xs,r,_⟩:=SK (enc:=Act.enc) (Q:=λ _=>True) (λ l h=>by
   obtain⟨_,_,rfl,⟨a,rfl,_⟩,_,_,rfl,⟨b,rfl,_⟩,_,_,rfl,⟨c,rfl,_⟩,rfl⟩:=h;exact⟨⟨a,b,c⟩,rfl,trivial⟩) d
  exact⟨u,rfl,xs,r⟩
def BS(_:ar)(u:List AV):Prop:=∃y:vV,u=ir y
def Iz{P:Jv}{tW g tU:Mj}{j:Array Field}(uW:P.underlying tW=B1 (.struct j))(n:j.toList.map (·.type)=[g,g,g,tU,g])(uN:P.underlying g=B1 (.int .i64))(u:P.underlying tU=B1 (.int .u64))(r:Gp P 0 j.toList=B4)(t:(j.toList.map λ f=>P.cellsOf f.type).sum=P.cellsOf tW):rN P tW BS:=by
 have hm:j.toList.length=5:=by have:=congrArg List.length n;simpa using this
 refine(YR (Rs:=[λ _ l=>kH .i64 l,λ _ l=>kH .i64 l,λ _ l=>kH .i64 l,λ _ l=>kH .u64 l,λ _ l=>kH .i64 l]) uW (by rw[hm];rfl)
  (Ta (f:=Field.type) (Q:=rN P) _ _ (by
   rw[n];intro x o;simp only[List.zip_cons_cons,List.zip_nil_right,kj,Lw,or_false]at o;rcases o with rfl|rfl|rfl|rfl|rfl
   .exact (J2 (Je uN)).J0
   .exact (J2 (Je uN)).J0
   .exact (J2 (Je uN)).J0
   .exact (J2 (Je u)).J0
   .exact (J2 (Je uN)).J0)) r t).imp (λ _ _ _ h _=>h) λ H l h=>?_
 obtain⟨_,_,rfl,⟨a,rfl,_⟩,_,_,rfl,⟨b,rfl,_⟩,_,_,rfl,⟨c,rfl,_⟩,_,_,rfl,⟨d,rfl,_⟩,_,_,rfl,⟨e,rfl,_⟩,rfl⟩:=h;exact⟨⟨a,b,c,d,e⟩,rfl⟩
end
def ω{n:Nat}:∀{l:List Nat},n∈l->n<=l.sum
 |a::l,h=>by
  rw[List.sum_cons];rcases kj.1 h with rfl|h
  .omega
  .have:=ω h;omega
def GrQ(H:ar)(sv:List AV)(v:AV)(H':ar):Prop:=Fr Em H H'/\(v=.int .i64 1\/v=.int .i64 0 /\ ∃x0 ok,xF H sv x0 ok)
def xik{H:ar}{sv:List AV}(h:kM H sv):ze M H_ [.agg sv] H (GrQ H sv):=by
 have⟨l,c,s,U,f,so,T,pv,fv,d,fs,W,S,o,Q,J,I,Y⟩:=h;subst W;refine xat ?_;have⟨H1,e1,r,n1,O⟩:=cq H (OR (Ze l c s U pv f so T fv) wl);have l4:Op.ae [.ptr H.au 4] H1=B1 pv:=vc O 4;have K:Op.ae [.ptr H.au 8] H1=B1 fv:=vc O 8;have L:=Sl.em S r;have pl:=(show bR lX 1 H1 pv d from L).len;have fl:=(Sl.em Q r).len;have R:reachBytes=140737488351232:=by decide
 -- so many bytes in the first ones
 obtain⟨g,j⟩:∃g:Nat->Nat,g=λ i=>((d.take i).map λ p=>p.2.length).sum:=⟨_,rfl⟩
 have s0:g 0=0:=by rw[j];rfl
 have ss:∀{i p},d[i]? = B1 p->g (i+1)=g i+p.2.length:=λ{i p}hp=>by
  rw[j];show(((d.take (i+1)).map λ p=>p.2.length).sum)=_;rw[kw,hp,Jt,List.sum_append];simp
 have sb:∀i,i<=10->g i<=i*reachBytes:=λ i=>by
  induction i with
  |zero=>intro _;rw[s0];exact xx _
  |succ i ih =>
   intro q;have:=ih (by omega);cases hp:d[i]? with
   |some p=>rw[ss hp];have:=(o p (zh hp)).2.2.2;rw[vy];omega
   |none =>
    have e:d.take (i+1)=d.take i:=by rw[kw,hp];simp
    have:g (i+1)=g i:=by rw[j];show((d.take (i+1)).map _).sum=_;rw[e]
    rw[this,vy];omega
 simp only[aa,bc,Kw,<-e1];refine cz.intro (λ n E Hx=>∃(i:Nat)(z:Int),E=[(4,.int .i64 (i:Int)),(3,.int .i64 z),(1,.ptr H.au 0)]/\Hx=H1/\n=d.length-i/\i<=d.length/\(d.length<=10->z=(g i:Nat))) ?_ ?_
 .exact ⟨_,_,⟨0,0,rfl,rfl,rfl,xx _,λ _=>by rw[s0];rfl⟩,by simp only[aa,bc]⟩
 rintro n E Hx ⟨i,z,rfl,rfl,rfl,hi,A⟩
 by_cases t:i<d.length
 .have q:(i:Int)<((d.length:Nat):Int):=by omega
  obtain⟨p,hp⟩:∃p,d[i]? = B1 p:=⟨_,xc t⟩
  have ix:=(show bR lX 1 Hx pv d from L).idx hp (z:=(i:Int)) rfl .i64;have ld:Op.ae [.ptr (aF pv) (cZ 1 pv i)] Hx=B1 p.1:=(show bR lX 1 Hx pv d from L).jQ xcv hp (by decide);have u:=o p (zh hp);have Z:=(Sl.em u.1 r).len;have wi:aj .i64 ((i:Int)+1)=((i+1:Nat):Int):=by rw[jj (by omega) (by omega)];omega
  simp only[aa,bc,Kw,l4,pl,xb q,ix,ld,Z,wi];refine⟨_,_,⟨i+1,aj .i64 (z+(p.2.length:Int)),rfl,rfl,t,λ D=>?_⟩,by simp only[aa,bc],by omega⟩;have:=sb i (by omega);have:=yd reachBytes (show i<=10 by omega);have:=u.2.2.2;rw[A D,ss hp,jj (by omega) (by omega)];omega
 .have q:¬(i:Int)<((d.length:Nat):Int):=by omega
  have X:i=d.length:=by omega
  simp only[aa,bc,Kw,l4,pl,q]
  by_cases v:(10:Int)<((d.length:Nat):Int)
  .simp only[aa,bc,Kw,xb v];exact⟨r,.inl rfl⟩
  by_cases C:(100:Int)<((fs.length:Nat):Int)
  .simp only[aa,bc,Kw,v,K,fl,xb C];exact⟨r,.inl rfl⟩
  by_cases N:(2000:Int)<z
  .simp only[aa,bc,Kw,v,K,fl,C,xb N];exact⟨r,.inl rfl⟩
  .simp only[aa,bc,Kw,v,K,fl,C,N];refine⟨r,.inr ⟨rfl,_,_,l,c,s,U,f,so,T,pv,fv,d,fs,rfl,S,λ p w=>⟨(o p w).1,(o p w).2.2.1,?_⟩,Q,J,I,rfl,rfl⟩⟩;have A:=A (by omega);have:p.2.length<=g d.length:=by
    rw[j];show _<=((d.take d.length).map λ p=>p.2.length).sum;rw[LF];exact ω (Gs.2 ⟨p,w,rfl⟩)
   rw[X]at A;omega
end Go.Am
namespace Go.Am
open Lang Go.Proofs
variable{M:ak}[MK M]
abbrev Zf:aR:=.part 0 B5 .int (.part 1 B5 .int (.part 2 B5 .int .nil))
def JZ(a b:Act):aY Zf (.agg a.enc) (.agg b.enc)=B1 (decide (a=b)):=by
 obtain⟨c,d,e⟩:=a;obtain⟨f,g,h⟩:=b;simp only[Act.enc,aY,partAt,jP,zo,jb,qr,sO,kB,T1]
 by_cases j:c=f<;>by_cases n:d=g<;>by_cases o:e=h<;>simp[j,n,o]
section
variable{H:ar}{a b:AV}{l m:List Act}
def xny(f:bR Act.enc 3 H a l)(g:bR Act.enc 3 H b l)(hl:l.length<=100000):ze M _8 [a,b] H λ v H'=>v=.bool B4/\H'=H:=by
 refine xd7 ?_;have n1:=f.len;have n2:=g.len;simp only[aa,bc,Xg,n1,n2];refine cz.intro (λ n E Hx=>∃i:Nat,E=[(5,.int .i64 (i:Int)),(0,a),(1,b)]/\Hx=H/\n=l.length-i/\i<=l.length) ?_ ?_
 .exact ⟨_,_,⟨0,rfl,rfl,rfl,xx _⟩,by simp only[aa,bc]⟩
 rintro n E Hx ⟨i,rfl,rfl,rfl,j⟩
 by_cases c:i<l.length
 .have q:(i:Int)<((l.length:Nat):Int):=by omega
  obtain⟨x,d⟩:∃x,l[i]? = B1 x:=⟨_,xc c⟩
  have h:aj .i64 ((i:Int)+1)=((i+1:Nat):Int):=by rw[jj (by omega) (by omega)];omega
  have e:Op.eq (.agg Zf) B4 [.agg x.enc,.agg x.enc] Hx=B1 (.bool B2):=Zp _ _ _ Hx B4 (by rw[JZ];simp);simp only[aa,bc,Xg,n1,xb q,f.idx d (z:=(i:Int)) rfl .i64,f.aq Act.len (by decide) d,g.idx d (z:=(i:Int)) rfl .i64,g.aq Act.len (by decide) d,e,h];exact⟨_,_,⟨i+1,rfl,rfl,c⟩,by simp only[aa,bc],by omega⟩
 .have q:¬(i:Int)<((l.length:Nat):Int):=by omega
  simp only[aa,bc,Xg,n1,q]
def xne(d:bR Act.enc 3 H a m)(f:bR Act.enc 3 H b l)(hs:m.Sublist l)(hl:l.length<=100000):ze M um [a,b] H λ v H'=>v=.bool B4/\H'=H:=by
 refine xd6 ?_;have n1:=d.len;have n2:=f.len;have ml:=hs.length_le;simp only[aa,bc,PH];refine cz.intro (λ n E Hx=>∃i j:Nat,E=[(6,.int .i64 (i:Int)),(5,.int .i64 (j:Int)),(0,a),(1,b)]/\Hx=H/\n=l.length-i/\i<=l.length/\j<=m.length/\(m.drop j).Sublist (l.drop i)) ?_ ?_
 .exact ⟨_,_,⟨0,0,rfl,rfl,rfl,xx _,xx _,hs⟩,by simp only[aa,bc]⟩
 rintro n E Hx ⟨i,j,rfl,rfl,rfl,L,J,g⟩
 by_cases c:i<l.length
 .have q:(i:Int)<((l.length:Nat):Int):=by omega
  by_cases t:j<m.length
  .have u:(j:Int)<((m.length:Nat):Int):=by omega
   obtain⟨x,o⟩:∃x,l[i]? = B1 x:=⟨_,xc c⟩
   obtain⟨y,r⟩:∃y,m[j]? = B1 y:=⟨_,xc t⟩
   have I:aj .i64 ((i:Int)+1)=((i+1:Nat):Int):=by rw[jj (by omega) (by omega)];omega
   have K:aj .i64 ((j:Int)+1)=((j+1:Nat):Int):=by rw[jj (by omega) (by omega)];omega
   have dx:l.drop i=x::l.drop (i+1):=by rw[<-(qo.1 o).2,SC]
   have D:m.drop j=y::m.drop (j+1):=by rw[<-(qo.1 r).2,SC]
   have e:Op.eq (.agg Zf) B2 [.agg y.enc,.agg x.enc] Hx=B1 (.bool (decide (y=x))):=tg _ _ _ Hx _ (JZ y x);rw[dx,D]at g
   by_cases A:y=x
   .simp only[aa,bc,PH,n1,n2,xb q,xb u,d.idx r (z:=(j:Int)) rfl .i64,d.aq Act.len (by decide) r,f.idx o (z:=(i:Int)) rfl .i64,f.aq Act.len (by decide) o,e,xb A,I,K];refine⟨_,_,⟨i+1,j+1,rfl,rfl,c,t,?_⟩,by simp only[aa,bc],by omega⟩;rw[A]at g;exact List.cons_sublist_cons.1 g
   .simp only[aa,bc,PH,n1,n2,xb q,xb u,d.idx r (z:=(j:Int)) rfl .i64,d.aq Act.len (by decide) r,f.idx o (z:=(i:Int)) rfl .i64,f.aq Act.len (by decide) o,e,A,I];refine⟨_,_,⟨i+1,j,rfl,rfl,c,J,?_⟩,by simp only[aa,bc],by omega⟩;rw[D];cases g with
    |cons _ h=>exact h
    |cons_cons _ h=>exact(A rfl).elim
  .have u:¬(j:Int)<((m.length:Nat):Int):=by omega
   have C:(j:Int)=((m.length:Nat):Int):=by omega
   simp only[aa,bc,PH,n1,n2,xb q,u,xb C]
 .have q:¬(i:Int)<((l.length:Nat):Int):=by omega
  have C:(j:Int)=((m.length:Nat):Int):=by
   have:=g.length_le;rw[jq,jq]at this;omega
  simp only[aa,bc,PH,n1,n2,q,xb C]
end
def q3k{H:ar}{sv:List AV}{lv:AV}{ls:List Act}{y:vV}(hal:∀H1,Fr Em H H1->ze M q9p [] H1 λ v H'=>v=.bool B4/\H'=H1)(W:pS H)(hA:kM H sv)(hs:bR Act.enc 3 H lv ls) :
 ze M _w [.agg sv,lv,.agg (ir y)] H λ v _=>v=.bool true:=by
 have hl9:sv.length=9:=by have⟨_,_,_,_,_,_,_,_,_,_,_,e,_⟩:=hA;rw[e];rfl
 refine quk ?_;have⟨H1,e1,f1,n1,g1⟩:=cq H (OR sv wl);have⟨H2,e2,C,n2,g2⟩:=cq H1 (OR (ir y) EV);have Y:=f1.em C;simp only[aa,bc,kq,<-e1,<-e2];refine C3.q (hal H2 Y) λ v X⟨r,c⟩=>?_;subst r;have c:=c.symm;subst c;have g1':H2.get H.au=B1 (OR sv wl):=(C.ah _ (by omega) id).trans g1;have bx:∀{Hx:ar},Fr Em H2 Hx->Op.aq 9 [.ptr H.au 0] Hx=B1 (.agg sv)/\Op.aq 5 [.ptr H1.au 0] Hx=B1 (.agg (ir y)):=λ{Hx}f=>⟨eH ((f.ah _ (by omega) id).trans g1') hl9,(Gq ((f.ah _ (by omega) id).trans g2)).2.2.2.2.2⟩
 simp only[aa,bc,kq,bx (Fr.refl _)];refine C3.q (xik (hA.em Y)) λ v H3⟨T,r⟩=>?_;have u:¬(0:Int)<0:=by decide
 have c10:(0:Int)<1:=by decide
 rcases r with rfl|⟨rfl,x0,ok,hg⟩
 .simp only[aa,bc,kq,xb c10]
 have Z:=Y.em T;have ln:=hs.len
 by_cases A:(20:Int)<((ls.length:Nat):Int)
 .simp only[aa,bc,kq,u,ln,xb A]
 have d:=hg.em T;simp only[aa,bc,kq,u,ln,A,bx T];refine C3.q (q3l d (Sl.em hs Z) (W.em Z) y) λ v H4⟨J,r4⟩=>?_;have D:=T.em J;rcases r4 with⟨n,rfl,-,n0⟩|⟨yes,hp,rv,rfl,⟨hr,_⟩,_⟩
 .have l0:Op.cD [.nils]=B1 (.int .i64 0):=rfl;simp only[aa,bc,kq,av,xb n0,l0]
 have F4:=Z.em J;have q0:¬ ¬(0:Int)=0:=λ q=>q rfl;obtain⟨P,S⟩:∃P,P=PW x0 y:=⟨_,rfl⟩
 rw[<-S]at hp hr;have O:=HX P ls;have hle:=O.length_le;have j:EL ok y (shr P ls).length:=yes.less hle;have o:P (shr P ls)=true:=LU P hp;have lr:=hr.len;simp only[aa,bc,kq,av,q0,bx D];refine C3.q (UF (d.em J) hr (W.em F4) y) λ v H5⟨t,r5⟩=>?_;have I:=D.em t;obtain rfl:v=.tuple [.bool B4,.int .i64 0]:=by
  rcases r5 with⟨no,_⟩|⟨_,e⟩
  .exact (no j).elim
  .rw [e,<-S,o]
 simp only[aa,bc,kq,av,bx I];have F5:=F4.em t;refine C3.q (xex ((d.em J).em t) (Sl.em hr t) (W.em F5) y) λ v H6⟨U,r6⟩=>?_;have f26:=I.em U;rw[<-S]at r6;obtain⟨nv,rfl,hn⟩:∃nv,v=.tuple [nv,.int .i64 0]/\bR El 1 H6 nv (iT P (shr P ls)):=by
  rcases r6 with⟨n,e,h,n0⟩|⟨_,_,nv,e,h⟩
  .rcases h with⟨q,_⟩|⟨_,q,_⟩|⟨_,_,q⟩
   .exact (q j).elim
   .rw [o]at q;cases q
   .exact (n0 q).elim
  .exact ⟨nv,e,h⟩
 simp only[aa,bc,kq,av,bx f26];have F6:=F5.em U;have L:bR Act.enc 3 H6 rv (shr P ls):=Sl.em hr (t.em U);refine C3.q (q3l (((d.em J).em t).em U) L (W.em F6) y) λ v R⟨f7,r7⟩=>?_;rw[<-S]at r7;obtain⟨Q,rfl,hr2⟩:∃Q,v=.tuple [Q,.int .i64 0]/\bR Act.enc 3 R Q (shr P ls):=by
  rcases r7 with⟨n,e,h,n0⟩|⟨_,_,Q,e,h,_⟩
  .rcases h with⟨q,_⟩|⟨_,q,_⟩|⟨_,_,q⟩
   .exact (q j).elim
   .rw [o]at q;cases q
   .exact (n0 q).elim
  .exact ⟨Q,e,by rw[Fw]at h;exact h.1⟩
 have nl:(iT P (shr P ls)).length=(shr P ls).length:=by unfold iT;rw[xr,zw]
 have ug:=hn.len;rw[nl]at ug;have N:bR Act.enc 3 R rv (shr P ls):=Sl.em L f7;simp only[aa,bc,kq,av,q0,lr,ug];refine C3.q (xne N (Sl.em hs (F6.em f7)) O (by omega)) λ v X⟨r,c⟩=>?_;subst r;have c:=c.symm;subst c;simp only[aa,bc,kq,av];refine C3.q (xny N hr2 (by omega)) λ v X⟨r,c⟩=>?_;subst r;have c:=c.symm;subst c;simp only[aa,bc,kq,ug];have K:bR El 1 R nv (iT P (shr P ls)):=Sl.em hn f7;refine cz.intro (λ n E Hx=>∃i:Nat,E=[(102,.int .i64 (i:Int)),(101,.int .i64 (((shr P ls).length:Nat):Int)),(12,nv),(7,.bool B4)]/\Hx=R/\n=(shr P ls).length-i/\i<=(shr P ls).length) ?_ ?_
 .exact ⟨_,_,⟨0,rfl,rfl,rfl,xx _⟩,by simp only[aa,bc]⟩
 rintro n E Hx ⟨i,rfl,rfl,rfl,hi⟩
 by_cases g:i<(shr P ls).length
 .have q:(i:Int)<(((shr P ls).length:Nat):Int):=by omega
  have hx:(iT P (shr P ls))[i]? = B1 true:=by unfold iT;rw[xm,jx g,Gl,DP P ls g];rfl
  have ix:=K.idx hx (z:=(i:Int)) rfl .i64;have ld:Op.ae [.ptr (aF nv) (cZ 1 nv i)] Hx=B1 (.bool B4):=K.jQ af0 hx (by decide);have wi:aj .i64 ((i:Int)+1)=((i+1:Nat):Int):=by rw[jj (by omega) (by omega)];omega
  simp only[aa,bc,kq,xb q,ix,ld,wi];exact⟨_,_,⟨i+1,rfl,rfl,g⟩,by simp only[aa,bc],by omega⟩
 .have q:¬(i:Int)<(((shr P ls).length:Nat):Int):=by omega
  simp only[aa,bc,kq,q]
end Go.Am
