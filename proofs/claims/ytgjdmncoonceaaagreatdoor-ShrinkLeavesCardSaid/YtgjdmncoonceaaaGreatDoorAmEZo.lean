import Derived.Test.YtgjdmncoonceaaaGreatDoorAmEZe
import Derived.Test.YtgjdmncoonceaaaGreatDoorAmEZn
import Derived.Test.YtgjdmncoonceaaaGreatDoorAmEZa
import Derived.Test.YtgjdmncoonceaaaGreatDoorAmEZf
set_option linter.defProp false
set_option linter.unusedVariables false
set_option linter.unusedSimpArgs false
set_option linter.unusedSectionVars false
set_option maxRecDepth 100000
open Bool renaming false→B2,true→B4
open False renaming elim→NR
open Go renaming DataW→Rd,IntKind→OA,MemPlace→BK,Program→Jg,TypeId→Ku,Value→Kl,World→N7
open Go.DataW renaming trod→Nn,weights→Bq,weightsEach→C7
open List renaming drop_left'→Cl,range→N2,replicate→I5
open Nat renaming beq→I4,blt→Oz
open Option renaming none→B5,some→B1
open Prod renaming snd→C1
open Nat renaming reduceEqDiff→bc
namespace Go.Am
open Go.RowKit
section
variable{P:Jg}
def Wt(P:Jg)(t:Ku){Hh:Type}(d:Rd Hh):Prop:=∀x∈Bq P t d,x<=reachBytes
theorem xh5{c:Type}{e:Ku}{x:Nat}{d:Rd c}:∀{l:List (Rd c)},d∈l->x∈Bq P e d->x∈Rd.weightsAll P e l
 |y::l,h,hx=>by
  rw[Rd.weightsAll,jq];rcases kw.1 h with rfl|h
  .grind
  .exact .inr (xh5 h hx)
def qN(P:Jg)(t:Ku)(R:ar->List AV->Prop):Prop :=
 (∀H H' l,R H l->Fr Em H H'->R H' l) /\ ∀{Hh:Type}(enc:Ku×Kl->Hh)(W:N7)(held:Bool)(fuel:Nat)(cs:List Kl)(d:Rd Hh)(ps:List BK),
  Nn enc P W 0 (λ _=>B4) held fuel t cs=B1 (d,ps)->Wt P t d -> ∀(θ:Th)(n:Nat)(gl:GL),Good W θ n gl -> ∃θ' n' gl' l,Step W θ n gl θ' n' gl'/\bP (Lt n') θ' l cs/\R (sr gl' n') l
def VF.IP{t:Ku}{R:ar->List AV->Prop}(h:VF P t R):qN P t R:=⟨h.1,λ enc W held fuel cs d e c _=>h.2 enc W held fuel cs d e c⟩
def _F{e:Ku}{R:ar->List AV->Prop}(hR:qN P e R){t:Type}(enc:Ku×Kl->t)(W:N7)(held:Bool)(fuel:Nat):∀(c:List (List Kl)),(∀cs∈c,∃x,Nn enc P W 0 (λ _=>B4) held fuel e cs=B1 x/\Wt P e x.1) ->
 ∀(θ:Th)(n:Nat)(d:GL),Good W θ n d -> ∃(θ':Th)(n':Nat)(f:GL)(ls:List (List AV)),Step W θ n d θ' n' f/\bP (Lt n') θ' ls.flatten c.flatten/\ls.length=c.length /\ ∀(i:Nat)l cs,ls[i]? = B1 l->c[i]? = B1 cs->R (sr f n') l/\l.length=cs.length
 |[],_,θ,n,d,hg=>⟨θ,n,d,[],Step.refl hg,.nil,rfl,λ i l cs h=>by grind⟩
 |cs::c,h,θ,n,d,hg=>by
  have⟨x,u,hw⟩:=h cs (by simp);have⟨θ1,n1,g,l,s1,v1,v⟩:=hR.2 enc W held fuel cs x.1 x.2 u hw θ n d hg;have⟨θ2,n2,j,ls,s2,v2,A,C⟩:=_F hR enc W held fuel c (by grind) θ1 n1 g s1.du;refine⟨θ2,n2,j,l::ls,s1.trans s2,?_,by grind,λ i z cs' o r=>?_⟩
  .rw [List.flatten_cons,List.flatten_cons];exact(v1.up s2.ag λ b hb=>qn hb s2.le).app v2
  .cases i with
   |zero =>
    simp at o r;subst o;subst r;exact⟨hR.1 _ _ _ v s2.fr,v1.length.symm⟩
   |succ i=>grind
def SlW(P:Jg)(e:Ku)(R:ar->List AV->Prop)(size:Nat)(H:ar)(u:AV):Prop:=It R size H u /\ ∀k,eJ u=B1 k->k*P.bytesOf e<=reachBytes
def Sw{t e:Ku}{R:ar->List AV->Prop}(ht:P.underlying t=B1 (.slice e))(hR:qN P e R)(hs:0<P.cellsOf e):qN P t λ H l=>∃u,l=[u]/\SlW P e R (P.cellsOf e) H u:=by
 refine⟨λ H H' l⟨u,z,h2,h3⟩f=>⟨u,z,h2.em hR.1 f,h3⟩,?_⟩;intro Hh enc W held fuel kU d ps h S θ n gl hg;cases fuel with
 |zero=>cases h
 |succ f =>
  have key:kU=[.slice B5 0 0] \/ ∃a len cap,kU=[.slice (B1 a) len cap]/\len<=cap/\(∀i,i<len -> ∃cs x,W.cells? 0 (a.add (i*P.cellsOf e)) (P.cellsOf e)=B1 cs/\Nn enc P W 0 (λ _=>B4) held f e cs=B1 x/\Wt P e x.1)/\len*P.bytesOf e<=reachBytes/\(len<cap -> ∃cs,W.cells? 0 (a.add (len*P.cellsOf e)) (P.cellsOf e)=B1 cs):=by
   simp only[Nn,ht]at h;split at h<;>first|(cases h;done)|skip
   all_goals first|(rename_i z;cases z;done)|skip
   .left;rfl
   .right;rename_i e' a len cap z;injection z with z;cases z
    split at h
    .rename_i hb;simp only[qj,uE,xr]at h;have⟨elems,he,rest,j,L⟩:=h;injection L with L _
     have hw1:=S ((elems.length+rest.length)*P.bytesOf e) (by grind [Bq]);have hel0:elems.length=len:=by have:=mapM_some_length he;simpa using this
     refine⟨a,len,cap,rfl,hb.2.1,λ i U=>?_,(by grind),λ hlt=>?_⟩
     .have hl:=mapM_some_length he;have:=mapM_some_get he i i (by grind);have C:i<elems.length:=by omega
      rw[xf C]at this;have⟨cs,v,I⟩:=qj.1 this;refine⟨cs,_,v,I,λ x hx=>S x ?_⟩
      grind [Bq,xh5,List.mem_map_of_mem,List.getElem_mem]
     .have hl:=mapM_some_length j;have:=mapM_some_get j 0 0 (by grind);have C:0<rest.length:=by grind
      rw[xf C,Ae]at this
      grind [qj]
    .cases h
  rcases key with rfl|⟨a,len,cap,rfl,hlc,Y,J,j⟩
  .exact ⟨θ,n,gl,[.nils],Step.refl hg,λ _ _=>rfl,.nils,rfl,⟨[],by simp,⟨by simp,rfl⟩,.inl rfl⟩,(λ k hk=>by cases hk;simp)⟩
  .have ⟨k,o,s⟩:=a
   by_cases h0:cap=0
   .subst h0;have:len=0:=by omega
    subst this;have hst:=Step.OT hg k o (tw s);refine⟨_,_,_,[.eslice n],hst,.one ?_,.eslice n,rfl,⟨[],by simp,⟨by simp,rfl,zu n⟩,.inr (zu n)⟩,(λ k hk=>by cases hk;simp)⟩;intro θ' hθ;have⟨v,I,q3⟩:=θ.eT n k o (tw s);have⟨r1,r2,r3⟩:=hθ n (zu n)
    grind [aC,af7]
   .have hsp:s=none:=by
     by_cases E:len=0
     .subst E;have⟨cs,A⟩:=j (by omega);rw[AG]at A;exact qw1 hs (by simpa[Addr.add]using A)
     .have ⟨cs,x,A,_,_⟩:=Y 0 (by omega);rw[AG]at A;exact qw1 hs (by simpa[Addr.add]using A)
    subst hsp
    by_cases E:len=0
    .subst E;refine⟨_,_,_,[.slice n 0 0 cap],Step.bare hg k o,.one ?_,.slice n 0 0 cap,rfl,⟨[],by simp,⟨by simp,rfl,xw _,.inl rfl⟩,.inr (zu n)⟩,(λ k hk=>by cases hk;simp)⟩;have:=VR.slice (D:=Lt (n+1)) (θ:=θ.add n k o 0) (b:=n) (o:=0) (n:=0) (c:=cap) (zu n:Lt (n+1) n);have⟨v,I,_⟩:=θ.eT n k o 0
     grind [aC]
    .have hex:∀i:Nat,∃cs,i<len->W.cells? 0 ⟨k,o+i*P.cellsOf e,B5⟩ (P.cellsOf e)=B1 cs /\ ∃x,Nn enc P W 0 (λ _=>B4) held f e cs=B1 x/\Wt P e x.1:=λ i=>by
      by_cases U:i<len
      .grind [zD]
      .exact ⟨[],λ h=>(U h).elim⟩
     have⟨F,hF⟩:=Classical.axiomOfChoice hex
     let css:=(N2 len).map F
     have hcl:css.length=len:=by grind
     have hcg:∀(i:Nat)c,css[i]? = B1 c->i<len/\c=F i:=λ i c A=>by
      grind
     have⟨arr,e',fz,hh,_,_⟩:=Vl hs (hF 0 (by omega)).1;have⟨arr',e2,fz2,g,_,hle⟩:=Vl hs (hF (len-1) (by omega)).1;rw[hh]at g;injection g with g;injection g with v I q3;subst v
     have hmul:(len-1)*P.cellsOf e+P.cellsOf e=len*P.cellsOf e:=by rw[<-vm];grind
     have Q:∀(i:Nat)c,css[i]? = B1 c->c=(arr.toList.drop (o+i*P.cellsOf e)).take (P.cellsOf e)/\c.length=P.cellsOf e:=λ i c A=>by
      grind [Vl]
     have K:css.flatten=(arr.toList.drop o).take (len*P.cellsOf e):=by grind [hY]
     have⟨θ1,n1,X,ls,s1,v1,l1,r1⟩:=_F hR enc W held f css (by grind) θ n gl hg;rw[K]at v1;have hsz:o+len*P.cellsOf e<=arr.size:=by omega
     have O:ls.length=len:=by omega
     have Z:ls.flatten.length=len*P.cellsOf e:=by rw[<-v1.length,jx,yg,Array.length_toList];omega
     have r:=Step.row (l:=ls.flatten) (k:=k) (off:=o) (pre:=arr.toList.take o) (cs:=(arr.toList.drop o).take (len*P.cellsOf e)) (post:=arr.toList.drop (o+len*P.cellsOf e)) (e:=e') (fz:=fz) s1.du (by
      rw[hh];congr 2;have hq:arr.toList.take o++(arr.toList.drop o).take (len*P.cellsOf e)++arr.toList.drop (o+len*P.cellsOf e)=arr.toList:=by
       grind [Fy,yu]
      rw[hq]) (by grind) v1
     refine⟨_,_,_,[.slice n1 0 len cap],s1.trans r,.one ?_,.slice n1 0 len cap,rfl,⟨ls,λ l hl=>?_,⟨by grind,O.symm,by omega,.inr ⟨zu n1,ls.flatten,xc (fz:=(0,0)) (e:=0) (ow:=B2) ?_,?_⟩⟩,.inr (zu n1)⟩,λ k hk=>by cases hk;exact J⟩
     .have:=VR.slice (D:=Lt (n1+1)) (θ:=θ1.add n1 k o 0) (b:=n1) (o:=0) (n:=len) (c:=cap) (zu n1:Lt (n1+1) n1);have⟨v,I,_⟩:=θ1.eT n1 k o 0
      grind [aC]
     .have ⟨i,U⟩:=List.mem_iff_getElem?.1 hl;have N:i<css.length:=by grind
      have⟨v,I⟩:=r1 i l css[i] U (by simp[N]);exact⟨hR.1 _ _ _ v r.fr,by rw[I];exact(Q i _ (by simp[N])).2⟩
     .show (FM ((n1,ls.flatten)::X) .nil).get n1=_;rw[FM,T.aK,xg rfl]
     .rw [O,tV,xg (by omega),yx,zd (by omega)]
def Df:List (ar->List AV->Prop)->ar->List AV->Prop
 |[],_,l=>l=[]
 |R::Rs,H,l=>∃a b,l=a++b/\R H a/\Df Rs H b
def Df.em:∀{Rs:List (ar->List AV->Prop)},(∀R∈Rs,∀H H' l,R H l->Fr Em H H'->R H' l) -> ∀H H' l,Df Rs H l->Fr Em H H'->Df Rs H' l
 |[],_,_,_,_,h,_=>h
 |R::Rs,hm,H,H',l,⟨a,b,h1,h2,h3⟩,f=>⟨a,b,h1,hm R (by simp) _ _ _ h2 f,Df.em (λ S c=>hm S (by grind)) _ _ _ h3 f⟩
def a_{t:Type}(enc:Ku×Kl->t)(W:N7)(held:Bool)(fuel:Nat){cs:List Kl}:∀{fs:List (Ku×Nat×(ar->List AV->Prop))}{k:Nat}{xs:List (Rd t×List BK)},
 (∀f∈fs,qN P f.1 f.2.2)->(∀(j:Nat)f,fs[j]? = B1 f->f.2.1=k+((fs.take j).map λ f=>P.cellsOf f.1).sum) ->
 fs.mapM (λ f=>Nn enc P W 0 (λ _=>B4) held fuel f.1 ((cs.drop f.2.1).take (P.cellsOf f.1)))=B1 xs->(∀x∈C7 P (fs.map (·.1)) (xs.map (·.1)),x<=reachBytes) ->
 k+(fs.map λ f=>P.cellsOf f.1).sum<=cs.length -> ∀(θ:Th)(n:Nat)(c:GL),Good W θ n c ->
 ∃θ' n' d l,Step W θ n c θ' n' d/\bP (Lt n') θ' l ((cs.drop k).take ((fs.map λ f=>P.cellsOf f.1).sum))/\Df (fs.map (·.2.2)) (sr d n') l
 |[],k,xs,_,_,_,_,_,θ,n,c,hg=>⟨θ,n,c,[],Step.refl hg,by simpa using bP.nil,rfl⟩
 |f::fs,k,xs,hf,ho,hm,hw,hl,θ,n,c,hg=>by
  simp only[List.mapM_cons,Option.bind_eq_bind,qj,Option.pure_def,qk]at hm;obtain⟨y,v,ys,r,rfl⟩:=hm;simp only[j6,C7,jq]at hw;have u:f.2.1=k:=by have:=ho 0 f rfl;simpa using this
  have⟨θ1,n1,e,a,s1,v1,z⟩:=(hf f (by simp)).2 enc W held fuel _ y.1 y.2 v (λ x o=>hw x (.inl o)) θ n c hg;simp only[j6,List.sum_cons]at hl;have⟨θ2,n2,h,b,s2,v2,A⟩:=a_ enc W held fuel (cs:=cs) (fs:=fs) (k:=k+P.cellsOf f.1) (by grind) (λ j g hg=>by
   have:=ho (j+1) g (by simpa using hg)
   grind) r (λ x o=>hw x (.inr o)) (by omega) θ1 n1 e s1.du
  refine⟨θ2,n2,h,a++b,s1.trans s2,?_,a,b,rfl,(hf f (by simp)).1 _ _ _ z s2.fr,A⟩;rw[u]at v1;rw[j6,List.sum_cons,List.take_add,Fy];exact(v1.up s2.ag λ b hb=>qn hb s2.le).app v2
def xhi{H:Type}{g:Ku->List Kl->Option (Rd H×List BK)}{cs:List Kl}:∀{fs:List Field}{Rs:List (ar->List AV->Prop)},fs.length=Rs.length ->
 fs.mapM (λ f=>g f.type ((cs.drop f.offset).take (P.cellsOf f.type)))=((fs.zip Rs).map λ x=>(x.1.type,x.1.offset,x.2)).mapM (λ f=>g f.1 ((cs.drop f.2.1).take (P.cellsOf f.1)))
 |[],[],_=>rfl
 |f::fs,R::Rs,h=>by simp only[List.zip_cons_cons,j6,List.mapM_cons,xhi (fs:=fs) (Rs:=Rs) (by simpa using h)]
def Y5{t:Ku}{fs:Array Field}{Rs:List (ar->List AV->Prop)}(h:P.underlying t=B1 (.struct fs))(hn:fs.toList.length=Rs.length)(hR:∀x∈fs.toList.zip Rs,qN P x.1.type x.2)
 (ho:FP P 0 fs.toList=B4) (L:(fs.toList.map λ f=>P.cellsOf f.type).sum=P.cellsOf t):qN P t λ H l=>Df Rs H l:=by
 refine⟨Df.em λ R o=>?_,?_⟩
 .have ⟨i,N⟩:=List.mem_iff_getElem?.1 o;have D:i<fs.toList.length:=by grind
  have I:(fs.toList.zip Rs)[i]? = B1 (fs.toList[i],R):=by grind
  exact(hR _ (ze I)).1
 intro J enc W held fuel cs d Q e u θ n A hg;cases fuel with
 |zero=>cases e
 |succ f =>
  have hlen:cs.length=P.cellsOf t /\ ∃xs,fs.toList.mapM (λ g=>Nn enc P W 0 (λ _=>B4) held f g.type ((cs.drop g.offset).take (P.cellsOf g.type)))=B1 xs /\ ∀x∈C7 P (fs.toList.map (·.type)) (xs.map (·.1)),x<=reachBytes:=by
   simp only[Nn,h]at e;split at e
   .rename_i hl;have⟨xs,hm,c⟩:=xr.1 e;injection c with c _
    exact⟨hl,xs,hm,λ x O=>u x (by grind [Bq])⟩
   grind
  have⟨hl,xs,hm,hw⟩:=hlen;rw[xhi (Rs:=Rs) hn]at hm;have e1:((fs.toList.zip Rs).map λ x=>(x.1.type,x.1.offset,x.2)).map (λ f=>P.cellsOf f.1)=fs.toList.map λ f=>P.cellsOf f.type:=by
   rw[A5];have:((fs.toList.zip Rs).map λ x=>P.cellsOf x.1.type)=(fs.toList.zip Rs |>.map Prod.fst).map λ f=>P.cellsOf f.type:=by simp_all
   rw[List.map_fst_zip (by omega)]at this;exact this
  have K:((fs.toList.zip Rs).map λ x=>(x.1.type,x.1.offset,x.2)).map (·.1)=fs.toList.map (·.type):=by
   rw[A5];have:((fs.toList.zip Rs).map λ x=>x.1.type)=(fs.toList.zip Rs |>.map Prod.fst).map (·.type):=by simp_all
   rw[List.map_fst_zip (by omega)]at this;exact this
  have e2:((fs.toList.zip Rs).map λ x=>(x.1.type,x.1.offset,x.2)).map (·.2.2)=Rs:=by
   rw[A5];have:((fs.toList.zip Rs).map λ x=>x.2)=Rs:=by grind [List.map_snd_zip]
   exact this
  have⟨θ',n',C,l,s,v,r⟩:=a_ enc W held f (cs:=cs) (k:=0) (fs:=(fs.toList.zip Rs).map λ x=>(x.1.type,x.1.offset,x.2)) (by grind) (λ j g hg=>by
   simp only[xq,xr,List.getElem?_zip_eq_some]at hg;obtain⟨x,⟨z,E⟩,rfl⟩:=hg;have:=DE ho j x.1 z;simp_all) hm (by grind) (by grind) θ n A hg
  grind
end
end Go.Am
namespace Go.Am
open Go.RowKit
section
variable{P:Jg}
def qN.imp{t:Ku}{R c:ar->List AV->Prop}(h:qN P t R)(hm:∀H H' l,c H l->Fr Em H H'->c H' l)(g:∀H l,R H l->c H l):qN P t c :=
 ⟨hm,λ enc W held fuel cs d o j hw θ n f hg=>by
  obtain⟨θ',n',e,l,s,v,r⟩:=h.2 enc W held fuel cs d o j hw θ n f hg;exact⟨θ',n',e,l,s,v,g _ _ r⟩⟩
def Sm{α β:Type}{f:α->Ku}{Q:Ku -> β->Prop}:∀(l:List α)(R:List β),(∀x∈(l.map f).zip R,Q x.1 x.2) -> ∀x∈l.zip R,Q (f x.1) x.2
 |[],_,_,x,h=>by simp at h
 |_::_,[],_,x,h=>by simp at h
 |a::l,b::R,hq,x,h=>by
  rcases kw.1 h with rfl|h
  .exact hq (f a,b) (by simp)
  .exact Sm l R (λ y c=>hq y (by simp[c])) x h
def X1{tS e:Ku}{fs:Array Field}{n:Nat}(uS:P.underlying tS=B1 (.struct fs))(c:fs.toList.map (·.type)=I5 n e)(uN:P.underlying e=B1 (.int .i64))(j:FP P 0 fs.toList=B4)(o:(fs.toList.map λ f=>P.cellsOf f.type).sum=P.cellsOf tS) :
 qN P tS λ H l=>Df (I5 n λ _ l=>kB .i64 l) H l:=by
 have hn:fs.toList.length=n:=by have:=congrArg List.length c;simpa using this
 refine Y5 uS (by rw[hn];simp) (Sm (f:=Field.type) (Q:=qN P) _ _ ?_) j o;rw[c];intro x d;have g:=(List.of_mem_zip d).1;have h:=(List.of_mem_zip d).2;rw[vy g,vy h];exact(Jy (J7 uN)).IP
end
end Go.Am
namespace Go.Am
open Go.RowKit Lang
section
variable{P:Jg}
def Y1(l c s w:Int)(pv:AV)(f so sf:Int)(fv:AV):List AV:=[.int .i64 l,.int .i64 c,.int .i64 s,.int .i64 w,pv,.int .i64 f,.int .i64 so,.int .i64 sf,fv]
def vK(H:ar)(u:AV):Prop:=u=.nils\/aG u<H.au
def vK.em{H H':ar}{u:AV}(h:vK H u)(f:H.au<=H'.au):vK H' u:=h.imp id λ q=>qn q f
def vK.lt{α:Type}{enc:α->List AV}{size:Nat}{H:ar}{u:AV}{xs:List α}(h:vK H u)(hs:bN enc size H u xs)(c:xs≠[]):aG u<H.au:=by
 rcases h with rfl|h
 .exact (c (js.1 hs.2)).elim
 .exact h
def It.φ{R:ar->List AV->Prop}{size:Nat}{H:ar}{u:AV}(h:It R size H u):vK H u:=by
 have⟨_,_,_,q⟩:=h;exact q
def kM(H:ar)(u:List AV):Prop:=∃l c s w f so sf pv fv ps fs,u=Y1 l c s w pv f so sf fv/\bN mq 1 H pv ps/\(∀p∈ps,bN gW 1 H p.1 p.2/\Bytes p.2/\vK H p.1/\p.2.length<=reachBytes)/\bN cG 8 H fv fs/\(∀x∈fs,x.u)/\vK H fv/\ps.length<=reachBytes
def kM.em{H H':ar}{u:List AV}(h:kM H u)(fr:Fr Em H H'):kM H' u:=by
 have⟨l,c,s,w,f,so,v,pv,fv,t,fs,e,g,d,j,n,o,r⟩:=h;exact⟨l,c,s,w,f,so,v,pv,fv,t,fs,e,g.em fr,λ p q=>⟨(d p q).1.em fr,(d p q).2.1,(d p q).2.2.1.em fr.au,(d p q).2.2.2⟩,j.em fr,n,o.em fr.au,r⟩
def wf_u8{a:Int}(h:(Lit.int .u8 a).wf=B4):0<=a/\a<256:=by
 simp[Lit.wf,OA.min,OA.max,IntKind.bits,IntKind.signed]at h;omega
def wf_u64{a:Int}(h:(Lit.int .u64 a).wf=B4):fI a:=by
 simp[Lit.wf,OA.min,OA.max,IntKind.bits,IntKind.signed]at h;unfold fI;omega
def xnf{tC tB:Ku}(j:P.underlying tC=B1 (.slice tB))(uY:P.underlying tB=B1 (.int .u8))(n:P.cellsOf tB=1)(r:0<P.bytesOf tB):qN P tC λ H l=>∃u,l=[u] /\ ∃bs:List Int,bN gW 1 H u bs/\Bytes bs/\vK H u/\bs.length<=reachBytes:=by
 refine(Sw j (Jy (J7 uY)).IP (by rw[n];decide)).imp ?_ λ H l h=>?_
 .rintro H H' l ⟨u,c,xs,e,d,g,t⟩ f;exact⟨u,c,xs,e.em f,d,g.em f.au,t⟩
 .obtain ⟨u,rfl,c,e⟩:=h;have lt:=It.φ c;rw[n]at c;have⟨xs,d,g⟩:=Uh (enc:=gW) (Q:=λ x=>0<=x/\x<256) (λ l h=>by
   obtain⟨a,rfl,o⟩:=h;exact⟨a,rfl,by have:=wf_u8 o;omega⟩) c
  exact⟨u,rfl,xs,d,g,lt,xx (Nat.le_mul_of_pos_right _ r) (e _ (Sl.eJ d))⟩
def xnh{tM tS tK tC tY tB tF tL v tU:Ku}{ms ss bs:Array Field}(uM:P.underlying tM=B1 (.struct ms))(K:ms.toList.map (·.type)=[tS,tK,tB,tF])(uS:P.underlying tS=B1 (.struct ss))(T:ss.toList.map (·.type)=[v,v,v,v])
 (uK:P.underlying tK=B1 (.slice tC)) (E:P.underlying tC=B1 (.slice tY)) (uY:P.underlying tY=B1 (.int .u8)) (uB:P.underlying tB=B1 (.struct bs)) (R:bs.toList.map (·.type)=[v,v,v]) (uF:P.underlying tF=B1 (.slice tL)) (uL:P.underlying tL=B1 (.array 8 tU)) (uU:P.underlying tU=B1 (.int .u64)) (uN:P.underlying v=B1 (.int .i64))
 (I:P.cellsOf tC=1) (N:P.cellsOf tY=1) (bY:0<P.bytesOf tY) (bC:0<P.bytesOf tC) (J:P.cellsOf tL=8) (L:8*P.cellsOf tU=P.cellsOf tL) (U:FP P 0 ms.toList=B4) (Y:(ms.toList.map λ f=>P.cellsOf f.type).sum=P.cellsOf tM) (W:FP P 0 ss.toList=B4) (Z:(ss.toList.map λ f=>P.cellsOf f.type).sum=P.cellsOf tS)
 (oB:FP P 0 bs.toList=B4) (X:(bs.toList.map λ f=>P.cellsOf f.type).sum=P.cellsOf tB):qN P tM kM:=by
 have hm:ms.toList.length=4:=by have:=congrArg List.length K;simpa using this
 have D:qN P tK λ H l=>∃u,l=[u] /\ ∃r:List (AV×List Int),bN mq 1 H u r/\(∀p∈r,bN gW 1 H p.1 p.2/\Bytes p.2/\vK H p.1/\p.2.length<=reachBytes)/\r.length<=reachBytes:=by
  refine(Sw uK (xnf E uY N bY) (by rw[I];decide)).imp ?_ λ H l h=>?_
  .rintro H H' l ⟨u,o,xs,t,j⟩ f;exact⟨u,o,xs,t.em f,λ p q=>⟨(j.1 p q).1.em f,(j.1 p q).2.1,(j.1 p q).2.2.1.em f.au,(j.1 p q).2.2.2⟩,j.2⟩
  .obtain ⟨u,rfl,o,t⟩:=h;rw[I]at o;have⟨xs,j,z⟩:=Uh (enc:=mq) (Q:=λ p=>bN gW 1 H p.1 p.2/\Bytes p.2/\vK H p.1/\p.2.length<=reachBytes) (λ l h=>by
    obtain⟨u,rfl,b,h⟩:=h;exact⟨(u,b),rfl,h⟩) o
   exact⟨u,rfl,xs,j,z,xx (Nat.le_mul_of_pos_right _ bC) (t _ (Sl.eJ j))⟩
 have S:qN P tF λ H l=>∃u,l=[u] /\ ∃fs:List L8,bN cG 8 H u fs/\(∀x∈fs,x.u)/\vK H u:=by
  refine(Sw uF (Jy (xi3 uL (J7 uU) L)).IP (by rw[J];decide)).imp ?_ λ H l h=>?_
  .rintro H H' l ⟨u,o,xs,t,j,z⟩ f;exact⟨u,o,xs,t.em f,j,z.em f.au⟩
  .obtain ⟨u,rfl,o,t⟩:=h;have lt:=It.φ o;rw[J]at o;have⟨xs,j,z⟩:=Uh (enc:=cG) (Q:=λ x=>x.u) (λ l h=>by
    obtain⟨_,_,rfl,⟨a,rfl,qa⟩,_,_,rfl,⟨b,rfl,qb⟩,_,_,rfl,⟨c,rfl,qc⟩,_,_,rfl,⟨d,rfl,qd⟩,_,_,rfl,⟨e,rfl,qe⟩,_,_,rfl,⟨f,rfl,qf⟩,_,_,rfl,⟨g,rfl,qg⟩,_,_,rfl,⟨i,rfl,qi⟩,rfl⟩:=h;refine⟨⟨[a,b,c,d,e,f,g,i],rfl⟩,rfl,?_⟩;intro x A;have A:x∈[a,b,c,d,e,f,g,i]:=A;simp only[kw,Lx,or_false]at A;rcases A with rfl|rfl|rfl|rfl|rfl|rfl|rfl|rfl<;>(refine wf_u64 ?_;assumption)) o
   exact⟨u,rfl,xs,j,z,lt⟩
 refine(Y5 (Rs:=[λ H l=>Df (I5 4 λ _ l=>kB .i64 l) H l,λ H l=>∃u,l=[u] /\ ∃r:List (AV×List Int),bN mq 1 H u r/\(∀p∈r,bN gW 1 H p.1 p.2/\Bytes p.2/\vK H p.1/\p.2.length<=reachBytes)/\r.length<=reachBytes,λ H l=>Df (I5 3 λ _ l=>kB .i64 l) H l,λ H l=>∃u,l=[u] /\ ∃fs:List L8,bN cG 8 H u fs/\(∀x∈fs,x.u)/\vK H u]) uM (by rw[hm];rfl)
  (Sm (f:=Field.type) (Q:=qN P) _ _ (by
   rw[K];intro x A;simp only[List.zip_cons_cons,List.zip_nil_right,kw,Lx,or_false]at A;rcases A with rfl|rfl|rfl|rfl
   .exact X1 (n:=4) uS T uN W Z
   .exact D
   .exact X1 (n:=3) uB R uN oB X
   .exact S)) U Y).imp ?_ λ H l h=>?_
 .exact λ H H' u h fr=>h.em fr
 .obtain ⟨_,_,rfl,⟨_,_,rfl,⟨a,rfl,_⟩,_,_,rfl,⟨b,rfl,_⟩,_,_,rfl,⟨c,rfl,_⟩,_,_,rfl,⟨d,rfl,_⟩,rfl⟩,_,_,rfl,⟨pv,rfl,r,o,t,C⟩,_,_,rfl,⟨_,_,rfl,⟨e,rfl,_⟩,_,_,rfl,⟨f,rfl,_⟩,_,_,rfl,⟨g,rfl,_⟩,rfl⟩,_,_,rfl,⟨fv,rfl,fs,j,z,O⟩,rfl⟩:=h;exact⟨a,b,c,d,e,f,g,pv,fv,r,fs,rfl,o,t,j,z,O,C⟩
end
end Go.Am
namespace Go.Am
open Lang Go.Proofs
variable{M:ak}[MK M]
def pL.at{H H':ar}(h:pL H)(n:H.au<=H'.au)(e:H'.get yv=H.get yv):pL H':=⟨by unfold ar.bX;rw[e];exact h.1,qn h.2 n⟩
def bN.low{α:Type}{enc:α->List AV}{size:Nat}{H H':ar}{u:AV}{xs:List α}(h:bN enc size H u xs)(n:H.au<=H'.au)(hl:xs≠[]->aG u<H.au)(e:xs≠[]->H'.get (aG u)=H.get (aG u)):bN enc size H' u xs:=by
 by_cases q:xs=[]
 .exact Sl.fr h (W:=λ _=>True) ⟨n,λ z _ t=>(t trivial).elim⟩ (.inl (by rw[q];rfl))
 .exact Sl.fr h (W:=λ z=>z≠aG u) ⟨n,λ z _ t=>by have t:=wh.1 t;rw[t];exact e q⟩ (.inr λ t=>t rfl)
def W1(nb:Nat)(H:ar)(w k:Nat)(x:Wo)(F:Nat->Prop):Prop:=∃Hb B cvs hv bs own ks V,Hb.au=nb/\fG Hb H w B cvs hv bs own ks V k x /\ ∀z,F z->kR H w B cvs hv bs ks z
section
variable{H H':ar}{nb w k:Nat}{x y:Wo}{F G:Nat->Prop}
def W1.lt(h:W1 nb H w k x F){z:Nat}(q:F z):z<H.au:=by
 have⟨Hb,B,c,d,bs,own,ks,V,e,r,f⟩:=h;exact(f z q).lt
def W1.sub(h:W1 nb H w k x F)(g:∀z,G z->F z):W1 nb H w k x G:=by
 have⟨Hb,B,c,d,bs,own,ks,V,e,r,f⟩:=h;exact⟨Hb,B,c,d,bs,own,ks,V,e,r,λ z q=>f z (g z q)⟩
def W1.low(h:W1 nb H w k x F):nb<=H.au:=by
 have⟨Hb,B,c,d,bs,own,ks,V,e,r,f⟩:=h;have:=r.b.lo B (.inl rfl);have:=r.b.lt;omega
def W1.below(h:W1 nb H w k x F):W1 nb H w k x (λ z=>F z\/z<nb):=by
 have nl:=h.low;have⟨Hb,B,c,d,bs,own,ks,V,e,r,f⟩:=h;refine⟨Hb,B,c,d,bs,own,ks,V,e,r,λ z q=>q.elim (f z) λ q=>⟨by omega,λ t=>by have:=r.b.lo z t;omega,λ t=>by have:=(r.wb z t).2;omega,λ i A t=>zz λ g=>by have:=r.lo i A t z (by omega) g;omega⟩⟩
def W1.AU(h:W1 nb H w k x F)(n:H.au<=H'.au)(f:∀z,z<H.au -> ¬F z->H'.get z=H.get z):W1 nb H' w k x (λ z=>F z\/(H.au<=z/\z<H'.au)):=by
 have⟨Hb,B,c,d,bs,own,ks,V,e,r,g⟩:=h;refine⟨H'.low Hb.au,B,c,d,bs,own,_,V,e,r.AU n λ z u q=>f z u λ t=>q (g z t),λ z q=>?_⟩;rcases q with q|⟨j,o⟩
 .exact (g z q).wide n (λ q=>.inl q) λ q=>.inl q
 .exact r.new j o
def W1.em(h:W1 nb H w k x F)(f:Fr Em H H'):W1 nb H' w k x (λ z=>F z\/(H.au<=z/\z<H'.au)):=h.AU f.au λ z c _=>f.ah z c id
structure TA(nb:Nat)(H:ar)(w k:Nat)(y:Wo)(F:Nat->Prop)(H':ar)(N:Nat->Prop):Prop where
 w:W1 nb H' w k y (λ z=>F z\/N z)
 n:H.au<=H'.au
 kp:∀z,F z->H'.get z=H.get z
 nw:∀z,N z->H.au<=z
def RD(h:W1 nb H w k x F)(hk:k+1<=90000)(o:pL H)(A:yv<nb)(t:x.h.length<=100000)(n0:0<=x.n)(n1:x.n<=1000000)(a:Act) :
 zb M TX [.ptr w 0,.agg a.enc] H λ v H'=>v=.agg (gT (x.act a).2)/\TA nb H w (k+2) (x.act a).1 F H' Em:=by
 have⟨Hb,B,c,C,bs,own,ks,V,e,r,f⟩:=h;refine(Eu r hk o (by omega) t n0 n1 a).mono λ v H' q=>?_;have⟨d,hv',bs',aP,g,j,u,n',kp⟩:=q;exact⟨d,⟨⟨Hb,B,c,hv',bs',aP,g,j,e,u,λ z q=>q.elim (λ q=>(kp z (f z q)).1) NR⟩,n',λ z q=>(kp z (f z q)).2,λ z q=>q.elim⟩⟩
def TA.other{c w' k':Nat}{f:Wo}{d N:Nat->Prop}(p:TA nb H w k y F H' N)(h:W1 c H w' k' f d)(a:∀z,z<H.au->F z\/d z):W1 c H' w' k' f (λ z=>d z\/(H.au<=z/\z<H'.au)) :=
 h.AU p.n λ z g q=>p.kp z ((a z g).elim id λ e=>(q e).elim)
def Jm(H:ar)(nw nv w w' k k':Nat)(x x':Wo)(L:Nat->Prop):Prop:=∃F F',W1 nw H w k x F/\W1 nv H w' k' x' F'/\(∀z,z<H.au->F z\/F' z) /\ ∀z,L z->F z/\F' z
def Jm.em{nw nv w' k':Nat}{c:Wo}{L:Nat->Prop}(h:Jm H nw nv w w' k k' x c L)(f:Fr Em H H'):Jm H' nw nv w w' k k' x c (λ z=>L z\/(H.au<=z/\z<H'.au)):=by
 have⟨F,d,a,b,ap,hl⟩:=h;refine⟨_,_,a.em f,b.em f,λ z q=>?_,λ z q=>?_⟩
 .rcases xz z H.au with e|e
  .exact (ap z e).imp .inl .inl
  .exact .inl (.inr ⟨e,q⟩)
 .rcases q with q|q
  .exact ⟨.inl (hl z q).1,.inl (hl z q).2⟩
  .exact ⟨.inr q,.inr q⟩
def Jm.loc{nw nv w' k':Nat}{d:Wo}{L U:Nat->Prop}(h:Jm H nw nv w w' k k' x d L)(f:Fr U H H')(hu:∀z,U z->L z):Jm H' nw nv w w' k k' x d (λ z=>L z\/(H.au<=z/\z<H'.au)):=by
 have⟨F,g,a,b,ap,hl⟩:=h;refine⟨_,_,a.AU f.au λ z c q=>f.ah z c λ e=>q (hl z (hu z e)).1,b.AU f.au λ z c q=>f.ah z c λ e=>q (hl z (hu z e)).2,λ z q=>?_,λ z q=>?_⟩
 .rcases xz z H.au with e|e
  .exact (ap z e).imp .inl .inl
  .exact .inl (.inr ⟨e,q⟩)
 .rcases q with q|q
  .exact ⟨.inl (hl z q).1,.inl (hl z q).2⟩
  .exact ⟨.inr q,.inr q⟩
def Jm.fst{nw nv w' k' d:Nat}{f:Wo}{c L N:Nat->Prop}(a:W1 nw H w k x F)(b:W1 nv H w' k' f c)(ap:∀z,z<H.au->F z\/c z)(hl:∀z,L z->F z/\c z)(p:TA nw H w d y F H' N) :
 Jm H' nw nv w w' d k' y f (λ z=>L z\/N z) /\ ∀z,L z->H'.get z=H.get z:=by
 refine⟨⟨_,_,p.w,p.other b ap,λ z q=>?_,λ z q=>?_⟩,λ z q=>p.kp z (hl z q).1⟩
 .rcases xz z H.au with e|e
  .exact (ap z e).imp .inl .inl
  .exact .inr (.inr ⟨e,q⟩)
 .rcases q with q|q
  .exact ⟨.inl (hl z q).1,.inl (hl z q).2⟩
  .exact ⟨.inr q,.inr ⟨p.nw z q,p.w.lt (.inr q)⟩⟩
def W1.core(h:W1 nb H w k x F){i:Nat}{c:Co}(g:x.cs[i]? = B1 c):∃p o f l sp cv rv,(∀K,C3 M B4 (.func Uf) [.ptr w 0,.int .i64 (i:Int)] H K=K B4 (.ptr p 0) H)/\dP H o p f l sp cv rv .nils .nili c [] k:=by
 have⟨Hb,B,j,t,bs,own,ks,V,e,r,f⟩:=h;have n:=(qt.1 g).1;have hk:=r.kl;obtain⟨A,d⟩:∃A,ks[i]? = B1 A:=⟨_,xf (by omega)⟩
 exact⟨A.p,A.o,A.f,A.l,A.sp,A.cv,A.rv,PU r (by omega) (by rw[show((i:Int)).toNat=i by omega];exact d),(r.co i c A g d).1⟩
end
end Go.Am
namespace Go.Am
open Lang Go.Proofs
variable{M:ak}[MK M]
def jY{α:Type}{enc:α->List AV}(h:∀x,aN (enc x)=B4)(l:List α):aN (l.flatMap enc)=true:=by
 rw[vh,List.all_flatMap,Ic];intro x _;have:=h x;rw[vh]at this;exact this
def xe3{H:ar}{a:AV}{l:List fh}(ha:bN fh.enc 9 H a l)(hl:l.length<=100000):zb M mu [a] H λ v H'=>bN fh.enc 9 H' v l/\Fr Em H H':=by
 refine qn3 ?_
 by_cases hn:a=.nils
 .subst hn;simp only[aa,bc,z_,Xr];exact⟨ha,Fr.refl _⟩
 .have c:Fr Em H (H.alloc (.row [] jr (0,0) B4)):=(Fr.refl H).alloc _;simp only[aa,bc,z_,Wd ha hn,Rw];refine Jo (e:=jr) (n:=0) (cells:=[]) ⟨rfl,.inl ⟨rfl,.inr ⟨H.au,rfl,by rw[xy];omega⟩⟩⟩ (Sl.em ha c) (jY (λ x=>rfl) _) (by omega) (by omega) (by omega) λ j h hv' d f=>?_;simp only[aa,bc];rw[ya,ji]at hv';exact⟨hv'.sl,c.trans d λ x g=>.inr (by rw[g.2];exact qm _)⟩
def xn2{H:ar}{nb w k:Nat}{x:Wo}{F:Nat->Prop}(h:W1 nb H w k x F)(hl:x.h.length<=100000):zb M qi9 [.ptr w 0] H λ v H'=>bN fh.enc 9 H' v x.h/\Fr Em H H':=by
 have⟨Hb,B,c,n,bs,own,ks,V,e,r,f⟩:=h;refine qr3 ?_;have g:Op.eq .ptr B2 [.ptr w 0,.nilp] H=B1 (.bool B2):=rfl;simp only[aa,bc,qr4,aw,g,r.bm];refine C3.q (xe3 (aO.sl r.hl) hl) λ v j⟨a,d⟩=>?_;simp only[aa,bc];exact⟨a,d⟩
end Go.Am
namespace Go.Am
section
variable{α:Type}(P:List α->Bool)
def Et:Nat->List α->List α
 |0,l=>l
 |n+1,l=>Et n (if P (l.eraseIdx n)=B4 then l.eraseIdx n else l)
def lQ(l:List α):List α:=Et P l.length l
def lG:Nat->List α->List α
 |0,l=>l
 |n+1,l=>lG n (lQ P l)
def Ph:∀(n:Nat)(l:List α),(Et P n l).Sublist l
 |0,l=>.refl l
 |n+1,l=>by
  rw[Et];refine(Ph n _).trans ?_;split
  .exact List.eraseIdx_sublist ..
  .exact .refl l
def na:∀(n:Nat)(l:List α),n<=l.length->(Et P n l).length=l.length->Et P n l=l /\ ∀i,i<n->P (l.eraseIdx i)=B2
 |0,l,_,_=>⟨rfl,λ i q=>by omega⟩
 |n+1,l,hn,h=>by
  rw[Et]at h⊢;cases q:P (l.eraseIdx n)with
  |true =>
   rw[q,xg rfl]at h;have a:=(Ph P n (l.eraseIdx n)).length_le;have b:=List.length_eraseIdx_of_lt (l:=l) (i:=n) (by omega);omega
  |false =>
   rw[q,qy (by decide)]at h;rw[qy (by decide)];have⟨a,b⟩:=na n l (by omega) h;refine⟨a,λ i c=>?_⟩
   by_cases e:i=n
   .rw [e];exact q
   .exact b i (by omega)
def ZK(l:List α):(lQ P l).length<=l.length:=(Ph P _ l).length_le
def U'{l:List α}(h:(lQ P l).length=l.length):lQ P l=l /\ ∀i,i<l.length->P (l.eraseIdx i)=false:=na P l.length l (qm _) h
def Tb{l:List α}(h:lQ P l=l):∀n,lG P n l=l
 |0=>rfl
 |n+1=>by rw[lG,h];exact Tb h n
def xh1:∀(n:Nat)(l:List α),l.length<=n->lQ P (lG P n l)=lG P n l
 |0,l,h=>by
  have:l=[]:=js.1 (by omega);subst this;rfl
 |n+1,l,h=>by
  rw[lG]
  by_cases q:(lQ P l).length=l.length
  .have e:=(U' P q).1;rw[e,Tb P e,e]
  .have:=ZK P l;exact xh1 n _ (by omega)
def shr(l:List α):List α:=lG P (l.length+1) l
def Yh:∀(n m:Nat)(l:List α),lG P (n+m) l=lG P m (lG P n l)
 |0,m,l=>by rw[ya];rfl
 |n+1,m,l=>by rw[Nat.succ_add];exact Yh n m _
def xnl{n:Nat}{l:List α}(h:l.length<=n):lG P n l=shr P l:=by
 have e:∀{m},l.length<=m->lG P m l=lG P l.length l:=λ{m}h=>by
  rw[show m=l.length+(m-l.length)by omega,Yh];exact Tb P (xh1 P _ l (qm _)) _
 rw[e h];exact(e (j7 _)).symm
def DY(l:List α):shr P (lQ P l)=shr P l:=by
 have:=ZK P l;rw[<-xnl P (n:=l.length) (l:=lQ P l) this];rfl
def YL{Q:List α->Prop}(h:∀l,Q l->Q (lQ P l)):∀(n:Nat)(l:List α),Q l->Q (lG P n l)
 |0,l,q=>q
 |n+1,l,q=>YL h n _ (h l q)
def HX(l:List α):(shr P l).Sublist l:=YL P (Q:=λ m=>m.Sublist l) (λ m q=>(Ph P _ m).trans q) _ l (.refl l)
end
end Go.Am
namespace Go.Am
open Go.Proofs Ca
open Lang (ints)
variable{M:ak}[MK M]
section
variable{H0 H:ar}{B:Nat}{s:Bs}{b:Bu}{own:Nat->Nat}
def xlw(h:eL H0 H B s b own){i:Nat}{w:L8}(hw:b.m[i]? = B1 w):zb M XQ [.ptr s.D 0,.int .i64 (i:Int)] H λ v H'=>v=.tuple [.agg (cG w),.int .i64 0]/\Fr Em H H':=by
 refine q0h ?_;obtain⟨w0,w2,e⟩:=q0i M ⟨B5,XQ⟩;obtain⟨c,e2⟩:∃X,X=H.alloc (OR (cG .zero) z7):=⟨_,rfl⟩
 have g:Fr Em H c:=by rw[e2];exact(Fr.refl H).alloc _
 have o:c.get H.au=B1 (OR (cG .zero) z7):=by rw[e2,xp]
 have d2:=h.d.em g;have n2:c.au=H.au+1:=by rw[e2,xy]
 have lm:Op.ae [.ptr s.D 0] c=B1 (.ptr s.mp 0):=x9 (xc d2.row) 0;simp only[aa,bc,w0,lZ,<-e2,w2,yr,e,qo,lm];refine C3.q (_6 (M:=M) (w:=w) d2.me (n:=(i:Int)) (by omega) (by rw[G7];exact hw)) λ v f⟨t,j⟩=>?_;rw[t];have r:f.get H.au=B1 (OR (cG .zero) z7):=by rw[j.ah _ (by omega) id];exact o
 have st:=fH r (yi _) (yi w) (ue w);have ln:=eI (xb f H.au (OR (cG w) z7)) (yi w);simp only[aa,bc,xj,st,ln];exact(g.trans j λ _ q=>q.elim).set (.inr (qm _)) _
def xjr{r nb:Nat}{sv bv:AV}{n:No}{ks:List Nat}(h:dg H0 H r nb sv bv n ks)(z:CI n.lines n.c)(line:Int):zb M UP [.ptr r 0,.int .i64 line] H λ v H'=>v=nP n.c line/\Fr Em H H':=by
 refine q0y ?_;obtain⟨w0,w2,j⟩:=q0z M ⟨B5,UP⟩;obtain⟨H1,e1⟩:∃X,X=H.alloc (OR (az .zero) xk):=⟨_,rfl⟩
 have f:Fr Em H H1:=by rw[e1];exact(Fr.refl H).alloc _
 have u:H1.get H.au=B1 (OR (az .zero) xk):=by rw[e1,xp]
 have n1:H1.au=H.au+1:=by rw[e1,xy]
 have t:=h.em f;simp only[aa,bc,w0,eZ,<-e1,w2,yr,j,qo,t.l2];refine C3.q (Rf (M:=M) t.ca z line) λ v d⟨A,g⟩=>?_;rw[A];have o:d.get H.au=B1 (OR (az .zero) xk):=by rw[g.ah _ (by omega) id];exact u
 unfold nP;cases n.c.find line with
 |none =>
  have st:=fH o (zx _) (zx .zero) (uf _);have ln:=eI (xb d H.au (OR (az .zero) xk)) (zx .zero);simp only[aa,bc,xj,st,ln];exact(f.trans g λ _ q=>q.elim).set (.inr (qm _)) _
 |some e =>
  have st:=fH o (zx _) (zx e) (uf e);have ln:=eI (xb d H.au (OR (az e) xk)) (zx e);simp only[aa,bc,xj,st,ln];exact(f.trans g λ _ q=>q.elim).set (.inr (qm _)) _
end
def rP(b:Bu)(line:Int)(i:Nat):List En:=(b.ns.take i).filterMap λ n=>n.c.find line
def Az(b:Bu)(line:Int):List (List AV):=(rP b line b.ns.length).map λ e=>[.agg (az e)]
def BV{b:Bu}{line:Int}{i:Nat}{n:No}(hn:b.ns[i]? = B1 n):rP b line (i+1)=rP b line i++(match n.c.find line with|none=>[]|some e=>[e]):=by
 unfold rP;rw[kq,hn,List.filterMap_append];congr 1;show List.filterMap _ [n]=_;rw[List.filterMap_cons,List.filterMap_nil];cases n.c.find line<;>rfl
def GO(b:Bu)(line:Int){i:Nat}(d:i<=b.ns.length):∃r,rP b line b.ns.length=rP b line i++r:=by
 refine⟨(b.ns.drop i).filterMap λ n=>n.c.find line,?_⟩;unfold rP;rw[zd (qm _),<-List.filterMap_append,yu]
def Qx{b:Bu}{line:Int}{i:Nat}{n:No}{e:En}(hn:b.ns[i]? = B1 n)(he:n.c.find line=B1 e):(Az b line)[(rP b line i).length]? = B1 [.agg (az e)]:=by
 have hl:=(qt.1 hn).1;obtain⟨r,hr⟩:=GO b line (i:=i+1) (by omega);unfold Az;rw[hr,BV hn,he,xq];show Option.map _ ((rP b line i ++ [e]++r)[(rP b line i).length]?)=_;rw[yd,z6 (qm _),FY];rfl
section
variable{Hb H0:ar}{B p q:Nat}{s:Bs}{b:Bu}{own:Nat->Nat}{line:Int}
def _W(Hb:ar)(B:Nat)(s:Bs)(p q:Nat)(z:Nat):Prop:=z<Hb.au\/z=p\/z=q\/gE B s z
def Ej(h:eL Hb H0 B s b own)(hb:BB b)(hp:H0.get p=B1 (OR [.ptr B 0] xM))(hq:H0.get q=B1 (OR [.int .i64 line] cF))(hpl:p<H0.au)(hql:q<H0.au)(hbl:Hb.au<=H0.au) :
 qU M LH [] [.ptr p 0,.ptr q 0] (_W Hb B s p q) (λ _=>False) H0 (Az b line):=by
 intro Y R S j H1 hnx hN hR0 hW0 loc locS step;obtain⟨p1,p2,p3⟩:=hN p (.inl (.inr (.inl rfl)));obtain⟨q1,q2,q3⟩:=hN q (.inl (.inr (.inr (.inl rfl))));have hN4:=hb.N4;have kp:∀{Hx:ar},Fr j H1 Hx->eL Hb Hx B s b own:=λ{Hx}f=>by
  have f0:Fr (λ z=>Hb.au<=z /\ ¬gE B s z) H0 Hx:=by
   refine⟨xx hnx f.au,λ z o hw=>?_⟩;have hk:_W Hb B s p q z:=by
    by_cases w1:z<Hb.au
    .exact .inl w1
    .by_cases w2:gE B s z
     .exact .inr (.inr (.inr w2))
     .exact absurd ⟨by omega,w2⟩ hw
   obtain⟨-,k2,k3⟩:=hN z (.inl hk);rw[f.ah z (by omega) k3,k2]
  exact h.fr f0 λ z w=>w
 suffices hs:zb M LH [.fn (.yield Y) [] [],.ptr p 0,.ptr q 0] H1 (Iv R S j (λ _=>False) H1 (Az b line).length)by
  obtain⟨v,H',hc,W',q1,q2,q3⟩:=hs.elim;exact⟨v,H',W',hc,q1,q2,q3⟩
 refine qz3 ?_;obtain⟨w0,w4,w10,N,L⟩:=qz4 M ⟨B5,LH⟩;have lp:∀{Hx:ar},Fr j H1 Hx->Op.ae [.ptr p 0] Hx=B1 (.ptr B 0):=λ f=>by rw[x9 (xc (by rw[f.ah _ (by omega) p3,p2];exact hp))];rfl
 have lq:∀{Hx:ar},Fr j H1 Hx->Op.ae [.ptr q 0] Hx=B1 (.int .i64 line):=λ f=>by rw[x9 (xc (by rw[f.ah _ (by omega) q3,q2];exact hq))];rfl
 have r0:=Fr.refl (W:=j) H1;have h1:=kp r0;have J:=h1.nv.sl.len;rw[xu,h1.al]at J;have hll:(Az b line).length=(rP b line b.ns.length).length:=xu _;simp only[aa,bc,w0,lp r0,qo,h1.l1,J];refine b9.intro (λ n E Hx=>∃(i:Nat)(V:Nat->Prop),E=[(13,.int .i64 (i:Int)),(12,.int .i64 ((b.ns.length:Nat):Int)),(11,s.nv),(0,.fn (.yield Y) [] []),(1,.ptr p 0),(2,.ptr q 0)]/\n=b.ns.length-i/\i<=b.ns.length/\Jw R j H1 Hx (rP b line i).length V) ?_ ?_
 .exact ⟨_,_,⟨0,j,rfl,rfl,xw _,⟨hR0,λ b hb=>⟨hW0 b hb,.inl hb⟩,Fr.refl _⟩⟩,by simp only[aa,bc]⟩
 rintro n E Hx ⟨i,V,rfl,rfl,hi,hI⟩
 by_cases c1:(i:Int)<((b.ns.length:Nat):Int)
 .obtain ⟨nd,hn⟩:∃n,b.ns[i]? = B1 n:=⟨_,xf (by omega)⟩
  have hx:=kp hI.fr;obtain⟨A,hA,nr⟩:=hx.yF hn;have K:(s.ad.map Na.r)[i]? = B1 A.r:=by rw[xq,hA];rfl
  have ix:=hx.nv.sl.idx K (z:=(i:Int)) rfl .i64;have ld:=hx.nv.sl.iR UK K (by decide);have ld:Op.ae [.ptr (aG s.nv) (cJ 1 s.nv i)] Hx=B1 (.ptr A.r 0):=ld;obtain⟨ni,-,-⟩:=hb.no _ nd hn;have wj:aj .i64 ((i:Int)+1)=((i+1:Nat):Int):=by rw[jb (by omega) (by omega)];omega
  simp only[aa,bc,w4,c1,w10,ix,ld,lq hI.fr];refine C3.q (xjr (M:=M) nr ni.ci line) λ v g⟨hv,U⟩=>?_;rw[hv];have f03:Fr j H1 g:=hI.fr.trans U λ _ w=>w.elim;obtain⟨O,Q⟩:∃X,X=g.alloc (OR (az .zero) xk):=⟨_,rfl⟩
  have f4:Fr Em g O:=by rw[Q];exact(Fr.refl g).alloc _
  have g4:O.get g.au=B1 (OR (az .zero) xk):=by rw[Q,xp]
  unfold nP;cases hf:nd.c.find line with
  |none =>
   have st:=fH g4 (zx _) (zx .zero) (uf .zero);have hs:=BV (line:=line) hn;rw[hf]at hs;simp only[zq]at hs;obtain⟨t,u⟩:∃X,X=O.set g.au (OR (az .zero) xk):=⟨_,rfl⟩
   rw[<-u]at st;have Z:Fr Em g t:=by rw[u];exact f4.set (.inr (qm _)) _
   have d:Fr Em Hx t:=U.trans Z λ _ w=>w.elim;simp only[aa,bc,xj,eZ,<-Q,st,L];simp only[aa,bc,N,wj];refine⟨_,_,⟨i+1,V,rfl,rfl,by omega,⟨?_,λ z o=>⟨qn (hI.hV z o).1 d.au,(hI.hV z o).2⟩,hI.fr.trans d λ _ w=>w.elim⟩⟩,by simp only[aa,bc],by omega⟩;rw[hs];exact loc _ V Hx t hI.hR (λ z o=>d.ah z (hI.hV z o).1 id) d.au
  |some e =>
   have st:=fH g4 (zx _) (zx e) (uf e);have hs:=BV (line:=line) hn;rw[hf]at hs;obtain⟨t,u⟩:∃X,X=O.set g.au (OR (az e) xk):=⟨_,rfl⟩
   rw[<-u]at st;have g5:t.get g.au=B1 (OR (az e) xk):=by rw[u,xb]
   have Z:Fr Em g t:=by rw[u];exact f4.set (.inr (qm _)) _
   have d:Fr Em Hx t:=U.trans Z λ _ w=>w.elim;have ld5:=eI g5 (zx e);obtain⟨bb,H6,T,hr,hf6,I,ht,hs6⟩:=step _ [.agg (az e)] (Qx hn hf) V t (loc _ V Hx t hI.hR (λ z o=>d.ah z (hI.hV z o).1 id) d.au) (λ z o=>⟨qn (hI.hV z o).1 d.au,(hI.hV z o).2⟩) ((hI.fr.trans d λ _ w=>w.elim).mono λ _ _ w=>.inl w);have C:Fr j H1 H6:=(hI.fr.trans d λ _ w=>w.elim).trans hf6 λ z w=>(hI.hV z w).2;have D:∀z,T z->z<H6.au/\(j z\/H1.au<=z):=λ z w=>⟨(I z w).1,(I z w).2.elim (λ w=>(hI.hV z w).2) λ w=>.inr (xx (xx hI.fr.au d.au) w)⟩
   simp only[aa,bc,xj,eZ,<-Q,st,L,ld5];refine C3.tR hr ?_;cases bb with
   |true =>
    simp only[aa,bc];simp only[aa,bc,N,wj];exact⟨_,_,⟨i+1,T,rfl,rfl,by omega,⟨by rw[hs,xe];exact ht rfl,D,C⟩⟩,by simp only[aa,bc],by omega⟩
   |false =>
    simp only[aa,bc];exact⟨T,C.mono λ _ _ w=>.inl w,D,.inr (hs6 rfl)⟩
 .have hiw:i=b.ns.length:=by omega
  simp only[aa,bc,w4,c1];exact⟨V,hI.fr.mono λ _ _ w=>.inl w,hI.hV,.inl (by rw[hll,<-hiw];exact hI.hR)⟩
end
def Jj(j:Int)(m:Mg):Bool:=decide (m.line=j/\(m.k=3\/m.k=5))
def xG(fl:List Mg)(j:Int)(w:L8):L8:=match fl.find? (Jj j)with
 |some m=>m.d
 |none=>w
def rJ(x:L8)(e:En):L8:=if e.st=2 then cond e.w e.o e.d else x
def Bu.NJ(b:Bu)(j:Nat):L8:=(rP b j b.ns.length).foldl rJ (xG b.fl j (b.m[j]?.getD .zero))
def Bu.tu(b:Bu)(a:Int):Int×Int:=if 0<=a/\a<8*b.l.length then((b.NJ (a.toNat / 8)).get (a.toNat % 8),0)else(0,2)
def GN{fl:List Mg}{i:Nat}{m:Mg}{j:Int}{w:L8}(h:fl[i]? = B1 m)(hm:Jj j m=B4)(c:∀x∈fl.take i,Jj j x=B2):xG fl j w=m.d:=by
 have⟨hl,he⟩:=qt.1 h;have e:fl=fl.take i++(m::fl.drop (i+1)):=by rw[<-he,List.getElem_cons_drop hl,yu]
 have f:fl.find? (Jj j)=B1 m:=by
  rw[e,List.find?_append,List.find?_eq_none.2 λ x g=>by rw[c x g];decide,List.find?_cons,hm];rfl
 unfold xG;rw[f]
def G6{fl:List Mg}{j:Int}{w:L8}(c:∀x∈fl,Jj j x=B2):xG fl j w=w:=by
 unfold xG;rw[List.find?_eq_none.2 λ x d=>by rw[c x d];decide]
section
variable{Hb H:ar}{B:Nat}{s:Bs}{b:Bu}{own:Nat->Nat}{V:Int->L8}
def xir{H:ar}(B:Nat)(line:Int):zb M qs3 [.ptr B 0,.int .i64 line] H λ v H'=>v=.fn (.func LH) [] [.ptr H.au 0,.ptr (H.au+1) 0]/\H'=(H.alloc (OR [.ptr B 0] xM)).alloc (OR [.int .i64 line] cF):=by
 refine q7a ?_;obtain⟨H1,e1⟩:∃X,X=H.alloc (OR [.ptr B 0] xM):=⟨_,rfl⟩
 have n1:H1.au=H.au+1:=by rw[e1,xy]
 have ca:AV.cells (.ptr B 0)=[.ptr B 0]:=rfl;have c:AV.cells (.int .i64 line)=[.int .i64 line]:=rfl;have mk:Op.bH LH 0 [.ptr H.au 0,.ptr (H.au+1) 0]=B1 (.fn (.func LH) [] [.ptr H.au 0,.ptr (H.au+1) 0]):=rfl;simp only[aa,bc,q7b,ca,c,<-e1,n1,mk];rfl
structure hH(x0:L8)(es:List En)(t i:Nat)(W:Nat->Prop)(Hx:ar):Prop where
 vt:W t
 ex:Hx.get t=B1 (OR (cG ((es.take i).foldl rJ x0)) z7)
 lt:t<Hx.au
def Pp{H:ar}{t T:Nat}{e:En}(h:H.get t=B1 (OR (az e) T)):Op.aq 8 [.ptr t 4] H=B1 (.agg (cG e.d))/\Op.aq 8 [.ptr t 12] H=B1 (.agg (cG e.o)):=by
 have hl:=zx e;have e1:az e=[.int .i64 e.line,.int .i64 e.st,.bool e.r,.bool e.w]++(cG e.d++(cG e.o ++ [.int .i64 e.u])):=rfl;constructor
 .rw [rT (xc h) (by omega),e1,Cl (by rfl),KG (yi _)]
 .rw [rT (xc h) (by omega),e1,<-yd,Cl (by rw[xe,yi];rfl),KG (yi _)]
def xem(h:eL Hb H B s b own)(hl:b.l.length<=64){a:Int}(ha:¬(0<=a/\a<8*b.l.length)):zb M yw [.ptr B 0,.int .i64 a] H λ v H'=>v=.tuple [.int .u64 0,.int .i64 2]/\H'=H:=by
 refine _z ?_;obtain⟨w0,E,wb,w2,C,e,g,j,n,u,o,z,r,A,t⟩:=ZO M ⟨B5,yw⟩;have D:aj .i64 (((b.l.length:Nat):Int)*8)=((b.l.length*8:Nat):Int):=by rw[jb (by omega) (by omega)];omega
 have c:Op.eq .ptr B2 [.ptr B 0,.nilp] H=B1 (.bool B2):=rfl
 by_cases d:a<0
 .simp only[aa,bc,w0,w2,e,c,qv d,uG]
 .have f:((b.l.length*8:Nat):Int)<=a:=by omega
  simp only[aa,bc,w0,w2,e,c,d,qo,h.l3,D,qv f,uG]
def q9c(h:eL Hb H B s b own)(hb:BB b)(hI:BuI b V)(hbl:Hb.au<=H.au){a:Nat}(ha:a<8*b.l.length)(hl:b.l.length<=64):zb M yw [.ptr B 0,.int .i64 (a:Int)] H λ v H'=>v=.tuple [.int .u64 ((b.NJ (a / 8)).get (a % 8)),.int .i64 0]/\Fr Em H H':=by
 refine _z ?_;obtain⟨w0,wa,wb,w2,wb7,w3,w18,w22,w24,w47,K,w49,w35,w54,w46⟩:=ZO M ⟨B5,yw⟩;have hj:a / 8<b.l.length:=by omega
 obtain⟨wd,hwd⟩:∃x,b.m[a / 8]? = B1 x:=⟨_,xf (by rw[hI.ml];exact hj)⟩
 have q0:¬(a:Int)<0:=by omega
 have wm:aj .i64 (((b.l.length:Nat):Int)*8)=((b.l.length*8:Nat):Int):=by rw[jb (by omega) (by omega)];omega
 have q1:¬((b.l.length*8:Nat):Int)<=(a:Int):=by omega
 have qu:=zW (a:=a) (by omega);have re:=Lm (a:=a) (by omega);have pn:Op.eq .ptr B2 [.ptr B 0,.nilp] H=B1 (.bool B2):=rfl;simp only[aa,bc,w0,w2,w3,pn,q0,qo,h.l3,wm,q1,Ce,w18,qu,re,h.l0];refine C3.q (xlw (M:=M) h hwd) λ v H1⟨hv,f1⟩=>?_;rw[hv];obtain⟨H2,e2⟩:∃X,X=H1.alloc (OR (cG .zero) z7):=⟨_,rfl⟩
 have f2:Fr Em H1 H2:=by rw[e2];exact(Fr.refl H1).alloc _
 have g2:H2.get H1.au=B1 (OR (cG .zero) z7):=by rw[e2,xp]
 have st2:=fH g2 (yi _) (yi wd) (ue wd);obtain⟨H3,e3⟩:∃X,X=H2.set H1.au (OR (cG wd) z7):=⟨_,rfl⟩
 rw[<-e3]at st2;have g3:H3.get H1.au=B1 (OR (cG wd) z7):=by rw[e3,xb]
 have n3:H3.au=H1.au+1:=by rw[e3,e2];rfl
 have f3:Fr Em H1 H3:=by rw[e3];exact f2.set (.inr (qm _)) _
 have f03:=f1.trans f3 λ _ q=>q.elim;have n1:=f1.au;generalize ht:H1.au=t at *
 -- behind the messages
 have rest:∀(Hx:ar)(x:L8)(E:Env)(Z:aF),(∀E D H',Z .ret E D H'=eH M [.tmp 4,.tmp 5] (uj λ v H'=>v=.tuple [.int .u64 ((b.NJ (a / 8)).get (a % 8)),.int .i64 0]/\Fr Em H H') .ret E D H')->Fr Em H Hx->Hx.get t=B1 (OR (cG x) z7)->t<Hx.au->x=xG b.fl ((a / 8:Nat):Int) wd ->
  lk E 0=B1 (.ptr B 0)->lk E 6=B1 (.int .i64 ((a / 8:Nat):Int))->lk E 7=B1 (.int .i64 ((a % 8:Nat):Int))->lk E 8=B1 (.ptr t 0) ->
  W M ⟨B5,yw⟩ (IV yw 49) B4 Z E [] Hx:=by
  intro Hx x E Z hZ R gx hlt hx e0 e6 e7 e8;have hbx:=h.em R;simp only[aa,bc,w49,e0,e6];refine C3.q (xir (M:=M) B ((a / 8:Nat):Int)) λ v n⟨hv,hh⟩=>?_;rw[hv];obtain⟨L,I⟩:∃X,X=Hx.alloc (OR [.ptr B 0] xM):=⟨_,rfl⟩
  rw[<-I]at hh;have f4:Fr Em Hx L:=by rw[I];exact(Fr.refl Hx).alloc _
  have n4:L.au=Hx.au+1:=by rw[I,xy]
  have f5:Fr Em L n:=by rw[hh];exact(Fr.refl L).alloc _
  have n5:n.au=L.au+1:=by rw[hh,xy]
  have gp:n.get Hx.au=B1 (OR [.ptr B 0] xM):=by rw[f5.ah _ (by omega) id,I,xp]
  have gq:n.get (Hx.au+1)=B1 (OR [.int .i64 ((a / 8:Nat):Int)] cF):=by rw[<-n4,hh,xp]
  have r:Fr Em Hx n:=f4.trans f5 λ _ q=>q.elim;have h5:=hbx.em r;have nx:=R.au;have gt5:n.get t=B1 (OR (cG x) z7):=by rw[r.ah _ hlt id];exact gx
  have hbw:∀z,gE B s z->z<H.au:=λ z q=>h.low q;refine iE.iter (fn:=SJ) (lp:=QN) (pa:=WV 0) (pb:=WN 0) qt1 qj9.1 qj9.2 (by decide) qsl qsm
   (Ej (M:=M) (line:=((a / 8:Nat):Int)) h5 hb gp gq (by omega) (by omega) (by omega)) (λ i W Hy=>hH x (rP b ((a / 8:Nat):Int) b.ns.length) t i W Hy) (λ _ _ _=>False) (λ z=>z=t) (qm _) ?_ ?_ ?_ ?_ ?_ ?_ ?_ ?_
  .rintro z ((q|q|q|q)|q)
   .exact ⟨by omega,rfl,by omega⟩
   .exact ⟨by omega,rfl,by omega⟩
   .exact ⟨by omega,rfl,by omega⟩
   .exact ⟨by have:=hbw z q;omega,rfl,by have:=hbw z q;omega⟩
   .exact q.elim
  .exact λ z hz=>by omega
  .exact ⟨rfl,gt5,by omega⟩
  .exact λ i W Ha Hb' j hs hn=>⟨j.vt,by rw[hs _ j.vt];exact j.ex,qn j.lt hn⟩
  .exact λ e W Ha Hb' j _ _=>j
  .intro C i lr lb xv U hL2 W g j hW hf6 hnL hL6 hgL;have U:((rP b ((a / 8:Nat):Int) b.ns.length).map λ e=>[AV.agg (az e)])[i]? = B1 xv:=U;rw[xq,xr]at U;obtain⟨e,he,rfl⟩:=U;refine⟨_,rfl,?_⟩;obtain⟨-,wa,wb,-,wb7,-⟩:=ZO M ⟨B1 C,yw⟩;obtain⟨H7,O⟩:∃X,X=g.alloc (OR (az .zero) xk):=⟨_,rfl⟩
   have f7:Fr Em g H7:=by rw[O];exact(Fr.refl g).alloc _
   have g7:H7.get g.au=B1 (OR (az .zero) xk):=by rw[O,xp]
   have st7:=fH g7 (zx _) (zx e) (uf e);obtain⟨H8,Q⟩:∃X,X=H7.set g.au (OR (az e) xk):=⟨_,rfl⟩
   rw[<-Q]at st7;have f8:Fr Em g H8:=by rw[Q];exact f7.set (.inr (qm _)) _
   have g8:H8.get g.au=B1 (OR (az e) xk):=by rw[Q,xb]
   have n8:H8.au=g.au+1:=by rw[Q,O];rfl
   simp only[aa,bc,wa,eZ,<-O,st7,A9];refine⟨by rw[f8.ah _ hL6 id];exact hgL,?_⟩;have gy:=j.ex;have hLt:C≠t:=λ q=>hnL (by rw[q];exact j.vt);have htl:=j.lt;obtain⟨A,e9⟩:∃X,X=H8.set C lb:=⟨_,rfl⟩
   rw[<-e9];have f9:Fr (On C) H8 A:=by rw[e9];exact(Fr.refl H8).set (W:=On C) (.inl rfl) _
   have n9:A.au=H8.au:=by rw[e9];rfl
   have gL9:A.get C=B1 lb:=by rw[e9];exact xb ..
   have g9:A.get g.au=B1 (OR (az e) xk):=by rw[f9.ah _ (by omega) (λ(q:g.au=C)=>by omega)];exact g8
   have gt9:A.get t=B1 (OR (cG (((rP b ((a / 8:Nat):Int) b.ns.length).take i).foldl rJ x)) z7):=by rw[f9.ah _ (by omega) (λ(q:t=C)=>hLt q.symm),f8.ah _ htl id];exact gy
   have F9:Fr (λ z=>W z\/z=C) g A:=(f8.mono λ z _ q=>q.elim).trans f9 λ z q=>.inl (.inr q);have l1:Op.ae [.ptr g.au 1] A=B1 (.int .i64 e.st):=x9 (xc g9) 1;have l3:Op.ae [.ptr g.au 3] A=B1 (.bool e.w):=x9 (xc g9) 3;obtain⟨lD,lO⟩:=Pp g9;have tk:(rP b ((a / 8:Nat):Int) b.ns.length).take (i+1)=(rP b ((a / 8:Nat):Int) b.ns.length).take i ++ [e]:=by rw[kq,he];rfl
   have hV9:∀z,W z->z<A.au/\(W z\/g.au<=z):=λ z hz=>⟨by have:=(hW z hz).1;omega,.inl hz⟩
   have fo:((rP b ((a / 8:Nat):Int) b.ns.length).take (i+1)).foldl rJ x=rJ (((rP b ((a / 8:Nat):Int) b.ns.length).take i).foldl rJ x) e:=by rw[tk,List.foldl_append];rfl
   generalize hy:((rP b ((a / 8:Nat):Int) b.ns.length).take i).foldl rJ x=y at *
   by_cases s2:e.st=2
   .have stD:=fH gt9 (yi _) (yi e.d) (ue e.d);obtain⟨f,N⟩:∃X,X=A.set t (OR (cG e.d) z7):=⟨_,rfl⟩
    rw[<-N]at stD;have f10:Fr (On t) A f:=by rw[N];exact(Fr.refl A).set (W:=On t) (.inl rfl) _
    have n10:f.au=A.au:=by rw[N];rfl
    have g10:f.get t=B1 (OR (cG e.d) z7):=by rw[N,xb]
    have gL10:f.get C=B1 lb:=by rw[f10.ah _ (by omega) hLt];exact gL9
    have F10:Fr (λ z=>W z\/z=C) g f:=F9.trans f10 λ z(q:z=t)=>.inl (.inl (by rw[q];exact j.vt));have hV10:∀z,W z->z<f.au/\(W z\/g.au<=z):=λ z hz=>⟨by have:=(hW z hz).1;omega,.inl hz⟩
    have h6t:g.au≠t:=by omega
    have g610:f.get g.au=B1 (OR (az e) xk):=by rw[f10.ah _ (by omega) h6t];exact g9
    have Y:Op.ae [.ptr g.au 3] f=B1 (.bool e.w):=x9 (xc g610) 3;obtain⟨-,lO'⟩:=Pp g610;cases hw:e.w with
    |false =>
     rw[hw]at Y;simp only[aa,bc,wb,l1,qv s2,wb7,lD,stD,Y,e8];exact⟨rfl,gL10,W,hV10,F10,.inl ⟨rfl,j.vt,by rw[fo];unfold rJ;rw[xg s2,hw];exact g10,by omega⟩⟩
    |true =>
     rw[hw]at Y;have stO:=fH g10 (yi _) (yi e.o) (ue e.o);simp only[aa,bc,wb,l1,qv s2,wb7,lD,stD,Y,lO',stO,e8];exact⟨rfl,by rw[kr (rS hLt)];exact gL10,W,hV10,F10.set (.inl (.inl j.vt)) _,.inl ⟨rfl,j.vt,by rw[fo];unfold rJ;rw[xg s2,hw];exact xb ..,by show t<f.au;omega⟩⟩
   .simp only[aa,bc,wb,l1,s2];exact⟨rfl,gL9,W,hV9,F9,.inl ⟨rfl,j.vt,by rw[fo];unfold rJ;rw[qy s2];exact gt9,by omega⟩⟩
  .intro d W Hd hd1 hd2 hgd hfd hWd j;have gy:=j.ex;have hln:(Az b ((a / 8:Nat):Int)).length=(rP b ((a / 8:Nat):Int) b.ns.length).length:=xu _;rw[zd (by rw[hln];exact qm _)]at gy;have ey:(rP b ((a / 8:Nat):Int) b.ns.length).foldl rJ x=b.NJ (a / 8):=by unfold Bu.NJ;rw[hwd,hx];rfl
   rw[ey]at gy;generalize b.NJ (a / 8)=y at *;have hdt:d≠t:=λ q=>by have:=(hWd _ j.vt).2.2;omega
   have h8:a % 8<8:=Nat.mod_lt _ (by decide);have ixd:Op.aV 8 1 [.ptr t 0,.int .i64 ((a % 8:Nat):Int)]=B1 (.ptr t (a % 8)):=by rw[QU rfl h8,ya,Nat.mul_one]
   have ldd:Op.ae [.ptr t (a % 8)] Hd=B1 (.int .u64 (y.get (a % 8))):=by
    rw[x9 (xc gy)];show(cG y)[a % 8]? = _;unfold cG L8.get;rw[xq];obtain⟨u,hu⟩:∃u,y.l[a % 8]? = B1 u:=⟨_,xf (by rw[y.h];exact h8)⟩
    rw[hu];rfl
   simp only[aa,bc,e7,e8,w54,ixd,ldd,hZ,JH];refine⟨hgd,?_⟩;exact((R.trans r λ _ q=>q.elim).trans (W':=λ x=>x=t\/False) hfd λ z q=>q.elim (λ q=>.inr (by omega)) NR).set (.inr (by omega)) _
  .exact λ e d W Hd _ _ _ _ _ _ hS=>hS.elim
 have h3:=h.em f03;have hfl:b.fl.length<=900000:=hb.fl;have hln:=h3.fl.len zh;simp only[aa,bc,xj,lZ,<-e2,ht,st2,w22,w24,qo,h3.l2,hln];refine b9.intro (λ m E Hx=>∃i:Nat,m=b.fl.length-i/\i<=b.fl.length/\E=[(46,.int .i64 (i:Int)),(45,.int .i64 ((b.fl.length:Nat):Int)),(44,s.fv),(8,.ptr t 0),(7,.int .i64 ((a % 8:Nat):Int)),(6,.int .i64 ((a / 8:Nat):Int)),(0,.ptr B 0),(1,.int .i64 (a:Int))]/\Fr Em H3 Hx /\ ∀m∈b.fl.take i,Jj ((a / 8:Nat):Int) m=B2) ?_ ?_
 .exact ⟨_,_,⟨0,rfl,xw _,rfl,Fr.refl _,λ m hm=>by simp at hm⟩,by simp only[aa,bc]⟩
 rintro m E Hx ⟨i,rfl,hi,rfl,R,T⟩;have gx:Hx.get t=B1 (OR (cG wd) z7):=by rw[R.ah _ (by omega) id];exact g3
 have nx:=R.au
 by_cases q:(i:Int)<((b.fl.length:Nat):Int)
 .obtain ⟨c,S⟩:∃m,b.fl[i]? = B1 m:=⟨_,xf (by omega)⟩
  have hf:=(h3.em R).fl.sl zh;have ix:=hf.idx S (z:=(i:Int)) rfl .i64;have ld:=hf.aq zh (by decide) S;have wi:aj .i64 ((i:Int)+1)=((i+1:Nat):Int):=by rw[jb (by omega) (by omega)];omega
  obtain⟨L,I⟩:∃X,X=Hx.alloc (OR (ao ⟨0,0,0,.zero⟩) xm):=⟨_,rfl⟩
  have f4:Fr Em Hx L:=by rw[I];exact(Fr.refl Hx).alloc _
  have g4:L.get Hx.au=B1 (OR (ao ⟨0,0,0,.zero⟩) xm):=by rw[I,xp]
  have J:=fH g4 (zh _) (zh c) (qS c);obtain⟨n,e5⟩:∃X,X=L.set Hx.au (OR (ao c) xm):=⟨_,rfl⟩
  rw[<-e5]at J;have f5:Fr Em Hx n:=by rw[e5];exact f4.set (.inr (qm _)) _
  have g5:n.get Hx.au=B1 (OR (ao c) xm):=by rw[e5,xb]
  have n5:=f5.au;have l0:Op.ae [.ptr Hx.au 0] n=B1 (.int .i64 c.k):=x9 (xc g5) 0;have l2:Op.ae [.ptr Hx.au 2] n=B1 (.int .i64 c.line):=x9 (xc g5) 2;have l8:Op.aq 8 [.ptr Hx.au 3] n=B1 (.agg (cG c.d)):=by
   rw[rT (xc g5) (by rw[zh];decide),show ao c=[.int .i64 c.k,.int .i64 c.core,.int .i64 c.line]++(cG c.d ++ [])by rw[zq];rfl,Cl (by rfl),KG (yi _)]
  have gt5:n.get t=B1 (OR (cG wd) z7):=by rw[f5.ah _ (by omega) id];exact gx
  have st8:=fH gt5 (yi _) (yi c.d) (ue c.d);have r:=R.trans f5 λ _ q=>q.elim;have tk:b.fl.take (i+1)=b.fl.take i ++ [c]:=by rw[kq,S];rfl
  have on:Jj ((a / 8:Nat):Int) c=B2 -> ∀m∈b.fl.take (i+1),Jj ((a / 8:Nat):Int) m=false:=λ hq m hm=>by
   rw[tk]at hm;rcases jq.1 hm with w|w
   .exact T m w
   .rw [vi.1 w];exact hq
  have found:(c.line=((a / 8:Nat):Int)/\(c.k=3\/c.k=5))->c.d=xG b.fl ((a / 8:Nat):Int) wd:=λ q=>(GN S (ke q) T).symm;have F8:Fr Em H (n.set t (OR (cG c.d) z7)):=(f03.trans r λ _ q=>q.elim).set (.inr (by omega)) _
  by_cases ql:c.line=((a / 8:Nat):Int)
  .by_cases k3:c.k=3
   .simp only[aa,bc,K,q,w35,ix,ld,mZ,<-I,J,l2,qv ql,l0,qv k3,l8,st8,w47];refine rest _ c.d _ _ (λ _ _ _=>rfl) F8 (xb ..) (by show t<n.au;omega) (found ⟨ql,.inl k3⟩) ?_ ?_ ?_ ?_<;>rfl
   .by_cases k5:c.k=5
    .simp only[aa,bc,K,q,w35,ix,ld,mZ,<-I,J,l2,qv ql,l0,k3,qv k5,l8,st8,w47];refine rest _ c.d _ _ (λ _ _ _=>rfl) F8 (xb ..) (by show t<n.au;omega) (found ⟨ql,.inr k5⟩) ?_ ?_ ?_ ?_<;>rfl
    .simp only[aa,bc,K,q,w35,ix,ld,mZ,<-I,J,l2,qv ql,l0,k3,k5];simp only[aa,bc,w46,wi];exact⟨_,_,⟨i+1,rfl,by omega,rfl,r,on (ju λ w=>w.2.elim k3 k5)⟩,by simp only[aa,bc],by omega⟩
  .simp only[aa,bc,K,q,w35,ix,ld,mZ,<-I,J,l2,ql];simp only[aa,bc,w46,wi];exact⟨_,_,⟨i+1,rfl,by omega,rfl,r,on (ju λ w=>ql w.1)⟩,by simp only[aa,bc],by omega⟩
 .have e:i=b.fl.length:=by omega
  rw[e,zd (qm _)]at T;simp only[aa,bc,K,q,w47];refine rest Hx wd _ _ (λ _ _ _=>rfl) (f03.trans R λ _ q=>q.elim) gx (by omega) (G6 T).symm ?_ ?_ ?_ ?_<;>rfl
end
end Go.Am
namespace Go.Am
open Lang Go.Proofs
variable{M:ak}[MK M]
structure uv where
 kd:Int
 co:Int
 ad:Int
 v:Int
 n:Int
def gf(x:uv):List AV:=[.int .i64 x.kd,.int .i64 x.co,.int .i64 x.ad,.int .u64 x.v,.int .i64 x.n]
namespace Wo
def LI(x:Wo)(a:Act):yD (x.act a).1.b=yD x.b:=by
 show yD (x.kA a).1.b=yD x.b;unfold kA qT rQ fault
 repeat' split
 all_goals first|rfl|exact QS _ _|exact(CS.C4 _).ns
def wM(x:Wo)(i:Int):Bool×Bool:=if 0<=i then match x.cs[i.toNat]? with
 |some c=>(c.halted,c.zA)
 |none=>(B2,B2)
 else(B2,B2)
def cnt(x:Wo)(w:uv):Nat:=x.h.countP λ e=>decide (e.kind=w.ad/\e.core=w.co)
def Pd(x:Wo)(w:uv):Bool:=if w.kd=1 then decide ((x.b.tu w.ad).2=0/\(x.b.tu w.ad).1=w.v)else if w.kd=2 then decide (w.n<=(x.cnt w:Int))else if w.kd=3 then(x.wM w.co).1 else(x.wM w.co).2
end Wo
section
variable{H H':ar}{nb w k:Nat}{x:Wo}{F:Nat->Prop}
def Dk{o:Nat->Nat}{p f l sp:Nat}{cv rv d pv:AV}{c:Co}{os:List fh}(h:dP H o p f l sp cv rv d pv c os k):∀K,C3 M B4 (.func Xk) [.ptr p 0] H K=K B4 (.tuple [.bool c.halted,.bool c.zA]) H:=by
 refine dA (xo ?_);simp only[aa,bc,wz,aw,C0 h,h.bm]
def xjs:zb M Xk [.nilp] H λ v H'=>v=.tuple [.bool B2,.bool B2]/\H'=H:=by
 have c:∀H,Op.eq .ptr B2 [.nilp,.nilp] H=B1 (.bool B4):=λ _=>rfl;have nn:∀K,C3 M B4 (.func Xm) [.nilp] H K=K B4 (.bool B4) H:=by
  refine dA (oS ?_);simp only[aa,bc,tN,c]
 refine xo ?_;simp only[aa,bc,wz,nn]
def xef(h:W1 nb H w k x F)(i:Int):∀K,C3 M B4 (.func WO) [.ptr w 0,.int .i64 i] H K=K B4 (.tuple [.bool (x.wM i).1,.bool (x.wM i).2]) H:=by
 have no:¬(0<=i/\i<x.cs.length)->x.wM i=(B2,B2) -> ∀K,C3 M B4 (.func WO) [.ptr w 0,.int .i64 i] H K=K B4 (.tuple [.bool (x.wM i).1,.bool (x.wM i).2]) H:=λ q e=>by
  have⟨Hb,B,n,j,bs,own,ks,V,e',r,f⟩:=h;refine dA (_u ?_);simp only[aa,bc,I',xn3 r q];refine C3.q xjs λ v X⟨j,t⟩=>?_;subst j;subst t;simp only[aa,bc,aw,e]
 by_cases g:0<=i
 .cases d:x.cs[i.toNat]? with
  |some c =>
   obtain⟨p,o,f,l,sp,cv,rv,ha,hr⟩:=h.core (M:=M) d;rw[MP g]at ha;have e:x.wM i=(c.halted,c.zA):=by unfold Wo.wM;rw[xg g,d]
   rw[e];refine dA (_u ?_);simp only[aa,bc,I',ha,Dk hr,aw]
  |none =>
   have:=List.getElem?_eq_none_iff.1 d;exact no (by omega) (by unfold Wo.wM;rw[xg g,d])
 .exact no (by omega) (by unfold Wo.wM;rw[qy g])
def Ci(h:W1 nb H w k x F)(hl:x.b.l.length<=64)(hk:k<=90000)(a:Int):zb M P_ [.ptr w 0,.int .i64 a] H λ v H'=>v=.tuple [.int .u64 (x.b.tu a).1,.int .i64 (x.b.tu a).2]/\Fr Em H H':=by
 have⟨Hb,B,d,c,bs,own,ks,V,e,r,f⟩:=h;have g:Op.eq .ptr B2 [.ptr w 0,.nilp] H=B1 (.bool B2):=rfl;have bs':∀K,C3 M B4 (.func D_) [.ptr w 0] H K=K B4 (.ptr B 0) H:=by
  refine dA (qzg ?_);simp only[aa,bc,qzh,aw,g,r.bm]
 refine qqe ?_;simp only[aa,bc,qqf,bs'];refine C3.q (show zb M yw [.ptr B 0,.int .i64 a] H λ v H'=>v=.tuple [.int .u64 (x.b.tu a).1,.int .i64 (x.b.tu a).2]/\Fr Em H H' from by
  unfold Bu.tu
  by_cases q:0<=a/\a<8*x.b.l.length
  .rw [xg q];obtain⟨n,rfl⟩:=jk q.1;exact q9c r.b (r.C.bb r.I (by omega)) r.I (by have:=r.b.lo B (.inl rfl);have:=r.b.lt;omega) (by omega) hl
  .rw [qy q];exact(xem r.b hl q).mono λ v H'⟨a,b⟩=>⟨a,by rw[b];exact Fr.refl _⟩) λ v H'⟨c,f⟩=>?_
 subst c;simp only[aa,bc,aw];exact f
end
end Go.Am
namespace Go.Am
open Lang Go.Proofs
variable{M:ak}[MK M]
def Z_{H:ar}{a:AV}{l:List Act}(ha:bN Act.enc 3 H a l)(hl:l.length<=100000):zb M qh3 [a] H λ v H'=>aO Act.enc y8 3 H' v l/\(∀z,aM v z->H.au<=z)/\Fr Em H H':=by
 refine qp9 ?_
 by_cases hn:a=.nils
 .subst hn;simp only[aa,bc,tl,Xr];obtain rfl:l=[]:=js.1 ha.2;exact⟨Own.nil ..,λ z q=>(q.1 rfl).elim,Fr.refl _⟩
 .have c:Fr Em H (H.alloc (.row [] y8 (0,0) B4)):=(Fr.refl H).alloc _;simp only[aa,bc,tl,Wd ha hn,Rw];refine Jo (e:=y8) (n:=0) (cells:=[]) ⟨rfl,.inl ⟨rfl,.inr ⟨H.au,rfl,by rw[xy];omega⟩⟩⟩ (Sl.em ha c) (jY Act.one _) (by omega) (by omega) (by omega) λ j h hv' f d=>?_;simp only[aa,bc];rw[ya,ji]at hv';exact⟨hv',λ z q=>(d z q).elim (λ q=>by rw[q.2];exact qm _) λ q=>by rw[xy]at q;omega,c.trans f λ x g=>.inr (by rw[g.2];exact qm _)⟩
def L9{l:List Act}:(l.flatMap Act.enc).length=l.length*3:=by
 induction l with
 |nil=>rfl
 |cons a l ih=>rw[j8,xe,ih,zt,Act.len];omega
def xK(H:ar)(v:AV)(l:List Act):Prop:=bN Act.enc 3 H v l/\(l=[] \/ ∃b m rest,v=.gslice b 0 m 3 0 l.length/\b<H.au/\l.length<=m/\H.get b=B1 (.grown m 3 (l.flatMap Act.enc++rest) y8 (0,0)))
def xK.of{H:ar}{v:AV}{l:List Act}(h:aO Act.enc y8 3 H v l):xK H v l:=by
 refine⟨aO.sl h,?_⟩;obtain⟨_,⟨c,_⟩|⟨b,rfl,d,e⟩⟩:=h
 .exact .inl (js.1 c)
 .exact .inr ⟨b,_,[],rfl,d,qm _,by rw[zq];exact e⟩
def xK.em{H H':ar}{v:AV}{l:List Act}(h:xK H v l)(f:Fr Em H H'):xK H' v l :=
 ⟨Sl.em h.1 f,h.2.imp id λ⟨b,m,rest,a1,a2,a3,a4⟩=>⟨b,m,rest,a1,qn a2 f.au,a3,by rw[f.ah b a2 id];exact a4⟩⟩
def xls{H:ar}{v:AV}{l:List Act}(h:aO Act.enc y8 3 H v l){i:Nat}(Q:i<l.length)(hl:l.length<=100000):zb M i_ [v,.int .i64 (i:Int),.int .i64 ((i+1:Nat):Int)] H λ r H'=>xK H' r (l.eraseIdx i)/\Fr (aM v) H H' /\ ∀z,aM r z->aM v z:=by
 obtain⟨_,⟨O,_⟩|⟨b,rfl,C,f⟩⟩:=h
 .omega
 obtain⟨l1,x,l2,rfl,rfl⟩:∃l1 x l2,l=l1++x::l2/\l1.length=i:=⟨l.take i,l[i],l.drop (i+1),by rw[List.getElem_cons_drop,yu],by rw[jx];omega⟩
 have er:(l1++x::l2).eraseIdx l1.length=l1++l2:=by rw[List.eraseIdx_append_of_length_le (qm _),FY];rfl
 rw[er];obtain⟨n,hn⟩:∃n,n=(l1++x::l2).length:=⟨_,rfl⟩
 have nn:n=l1.length+l2.length+1:=by rw[hn,xe,zt];omega
 rw[<-hn]at f hl⊢;have cs:(l1++x::l2).flatMap Act.enc=l1.flatMap Act.enc++(x.enc++l2.flatMap Act.enc):=by rw[kh,j8]
 rw[cs]at f;have R:=L9 (l:=l1);have S:=L9 (l:=l2);have U:=Act.len x;have e1:∀n,I4 n n=true:=λ n=>by simp
 have g:∀d m,bound B5 d m=B1 d:=λ _ _=>rfl;have e:∀{k mx d:Nat},k<=mx->bound (B1 (.int .i64 (k:Int))) d mx=B1 k:=λ q=>ti rfl q .i64;have j:∃y,Op.aA 3 [B1 0,B1 1,B1 2] [.gslice b 0 n 3 0 n,.int .i64 (l1.length:Int),.int .i64 ((l1.length+1:Nat):Int),.int .i64 (n:Int)]=B1 y:=⟨_,by
  simp only[Op.aA,arg,jL,zk,z8,qr,dh,e (show n<=n-0 by omega),e (show l1.length+1<=n by omega),e (show l1.length<=l1.length+1 by omega),e1,kz (xw n),FG (show¬n=l1.length by omega),zy,xt,zo];rfl⟩
 obtain⟨X,j⟩:=j;have D:Op.aA 3 [B5,B1 0,B5] [.gslice b 0 n 3 0 n,.int .i64 (l1.length:Int)]=B1 (.gslice b 0 n 3 0 l1.length):=by
  simp only[Op.aA,arg,jL,zk,qr,dh,g,e (show l1.length<=n-0 by omega),e1,kz (show l1.length<=n-0 by omega),kz (xw _),zy,xt];rfl
 have E:Op.aA 3 [B1 0,B5,B5] [.gslice b 0 n 3 0 n,.int .i64 ((l1.length+1:Nat):Int)]=B1 (.gslice b (l1.length+1) n 3 0 (n-(l1.length+1))):=by
  simp only[ya,Op.aA,arg,jL,zk,qr,dh,g,e (show l1.length+1<=n by omega),e1,kz (show l1.length+1<=n by omega),kz (show n<=n-0 by omega),zy,xt];rfl
 -- what was behind it comes up
 have N:∃H1 T,T.length=3/\Op.append y8 3 24 [.gslice b 0 n 3 0 l1.length,.gslice b (l1.length+1) n 3 0 (n-(l1.length+1))] H=B1 (.gslice b 0 n 3 0 (l1.length+l2.length),H1)/\H1.get b=B1 (.grown n 3 (l1.flatMap Act.enc++l2.flatMap Act.enc++T) y8 (0,0))/\Fr (aM (.gslice b 0 n 3 0 n)) H H1/\b<H1.au:=by
  have lv:eJ (.gslice b (l1.length+1) n 3 0 (n-(l1.length+1)))=B1 l2.length:=by show B1 _=_;congr 1;omega
  have one:=jY Act.one l2;have A:=kz (show 0+l1.length<=n by omega)
  by_cases c:l2.length=0
  .obtain rfl:l2=[]:=js.1 c;refine⟨H,x.enc,rfl,?_,by rw[f,yd];rfl,Fr.refl _,C⟩;simp only[Op.append,lv,qr,firstCells,jo,I4,xt,aN,cQ,A,Ae]
  .have K:firstCells H 3 l2.length (.gslice b (l1.length+1) n 3 0 (n-(l1.length+1)))=B1 (l2.flatMap Act.enc):=by
    simp only[firstCells,FG c,zo,e1,Bc (show l1.length+1<n by omega),zy,xt,ar.aq,Oo f,qr,tV];rw[xg (by simp only[xe];omega),<-yd,Cl (by rw[xe];omega),zd (by omega)]
   have st:H.store b ((0+l1.length)*3) (l2.flatMap Act.enc)=B1 (H.set b (.grown n 3 (l1.flatMap Act.enc++l2.flatMap Act.enc++(x.enc++l2.flatMap Act.enc).drop (l2.length*3)) y8 (0,0))):=by
    simp only[ar.store,one,xt,f,show dD (0,0) ((0+l1.length)*3) (cR (l2.flatMap Act.enc))=B4 by simp[dD],AF];rw[xg (by simp only[xe];omega),KG (by omega),show(0+l1.length)*3+(l2.flatMap Act.enc).length=(l1.flatMap Act.enc).length+l2.length*3 by omega,we];rfl
   refine⟨_,(x.enc++l2.flatMap Act.enc).drop (l2.length*3),by rw[yg,xe];omega,?_,xb ..,(Fr.refl H).set (.inl ⟨by simp,rfl⟩) _,C⟩;simp only[Op.append,lv,qr,K,one,xt,cQ,FG c,zo,e1,A,show Oz 0 3=B4 from rfl,zy,kz (show 0+l1.length+l2.length<=n by omega),st]
 obtain⟨H1,T,W,ap,L,J,u⟩:=N;have o:∃alt,Op.aA 3 [B1 0,B1 1,B5] [.gslice b 0 n 3 0 (l1.length+l2.length),.int .i64 ((l1.length+l2.length:Nat):Int),.int .i64 (n:Int)]=B1 (.gslice b (l1.length+l2.length) n 3 alt 1):=⟨_,by
  simp only[ya,Op.aA,arg,jL,zk,z8,qr,dh,e (show n<=n-0 by omega),e (show l1.length+l2.length<=n by omega),e1,kz (show n<=n-0 by omega),kz (xw _),zy,xt,show n-(l1.length+l2.length)=1 by omega];rfl⟩
 obtain⟨alt,o⟩:=o;have I:Op.bS [.int .i64 0,.int .i64 0,.int .i64 0] [.gslice b (l1.length+l2.length) n 3 alt 1] H1=B1 (.tuple [],H1.set b (.grown n 3 (l1.flatMap Act.enc++l2.flatMap Act.enc ++ [.int .i64 0,.int .i64 0,.int .i64 0]) y8 (0,0))):=by
  have st:H1.store b ((l1.length+l2.length)*3+0*3) [.int .i64 0,.int .i64 0,.int .i64 0]=B1 (H1.set b (.grown n 3 (l1.flatMap Act.enc++l2.flatMap Act.enc ++ [.int .i64 0,.int .i64 0,.int .i64 0]) y8 (0,0))):=by
   simp only[ar.store,show aN [AV.int .i64 0,.int .i64 0,.int .i64 0]=B4 from rfl,xt,L,show dD (0,0) ((l1.length+l2.length)*3+0*3) (cR [AV.int .i64 0,.int .i64 0,.int .i64 0])=B4 by simp[dD],AF];rw[xg (by simp only[xe,zt,jo];omega),KG (by rw[xe];omega),jj (by simp only[xe,zt,jo];omega),zq];rfl
  have lv:eJ (.gslice b (l1.length+l2.length) n 3 alt 1)=B1 1:=rfl;have he:elemAt 3 (.gslice b (l1.length+l2.length) n 3 alt 1) 0=B1 (b,(l1.length+l2.length)*3+0*3):=by
   simp only[elemAt,show Oz 0 1=B4 from rfl,e1,Bc (show l1.length+l2.length+0<n by omega),zy,xt]
  simp only[Op.bS,lv,qr,show I4 1 0=B2 from rfl,zo,show[AV.int .i64 0,.int .i64 0,.int .i64 0].length=3 from rfl,he,show fP 1 [AV.int .i64 0,.int .i64 0,.int .i64 0]=[AV.int .i64 0,.int .i64 0,.int .i64 0]from rfl,st]
 have t:Op.cw [.gslice b 0 n 3 0 n]=B1 (.int .i64 (n:Int)):=rfl;have yD:Op.cw [.gslice b 0 n 3 0 (l1.length+l2.length)]=B1 (.int .i64 ((l1.length+l2.length:Nat):Int)):=rfl;have ne:¬((l1.length:Nat):Int)=((l1.length+1:Nat):Int):=by omega
 refine qoy ?_;simp only[aa,bc,qoz,t,j,ne,D,E,ap,yD,o,I];refine⟨⟨⟨by rw[kh,xe,xe];omega,by rw[xe],rfl,by rw[xe];omega,.inr ⟨u,_,Oo (xb ..),?_⟩⟩,.inr ⟨b,n,_,by rw[xe],u,by rw[xe];omega,by rw[xb,kh]⟩⟩,J.set (.inl ⟨by simp,rfl⟩) _,λ z q=>⟨by simp,q.2⟩⟩;rw[tV,xg (by simp only[xe,zt,jo];omega),AG,yx,kh,KG (by simp only[xe];omega)]
def xeg{H:ar}{a:AV}{l:List Act}(ha:bN Act.enc 3 H a l){i:Nat}(d:i<l.length)(hl:l.length<=100000):zb M qpm [a,.int .i64 (i:Int)] H λ r H'=>xK H' r (l.eraseIdx i)/\Fr Em H H' /\ ∀z,aM r z->H.au<=z/\z<H'.au:=by
 refine q1l ?_;simp only[aa,bc,q1m];refine C3.q (Z_ ha hl) λ v H1⟨o,nw,f⟩=>?_;have e:aj .i64 ((i:Int)+1)=((i+1:Nat):Int):=by rw[jb (by omega) (by omega)];omega
 simp only[aa,bc,e];refine C3.q (xls o d hl) λ r g⟨s,c,n2⟩=>?_;simp only[aa,bc];exact⟨s,f.trans c λ z q=>.inr (nw z q),λ z q=>⟨nw z (n2 z q),qn (Own.lt o z (n2 z q)) c.au⟩⟩
end Go.Am
namespace Go.Am
open Lang Go.Proofs
variable{M:ak}[MK M]
def vZ(H:ar)(sv:List AV)(x0:Wo)(ok:Prop):Prop:=∃l c s wy f so sf pv fv ps fs,sv=Y1 l c s wy pv f so sf fv/\bN mq 1 H pv ps/\(∀p∈ps,bN gW 1 H p.1 p.2/\vK H p.1/\p.2.length<=100000)/\bN cG 8 H fv fs/\(∀x∈fs,x.u)/\vK H fv/\x0=wo0 l c s wy fs (ps.map C1) f so sf/\ok=Z3 l c s wy fs (ps.map C1).length f so sf
section
variable{H H':ar}{sv:List AV}{x0:Wo}{ok:Prop}
def vZ.em(h:vZ H sv x0 ok)(f:Fr Em H H'):vZ H' sv x0 ok:=by
 have⟨l,c,s,v,f',so,u,pv,fv,t,fs,e,g,d,j,n,o,r⟩:=h;exact⟨l,c,s,v,f',so,u,pv,fv,t,fs,e,Sl.em g f,λ p q=>⟨Sl.em (d p q).1 f,(d p q).2.1.em f.au,(d p q).2.2⟩,Sl.em j f,n,o.em f.au,r⟩
def vZ.len(h:vZ H sv x0 ok):sv.length=9:=by
 have⟨l,c,s,g,f',so,f,pv,fv,e,fs,d,_⟩:=h;rw[d];rfl
def vZ.zero(h:vZ H sv x0 ok)(d:ok):x0.h=[]/\x0.n=0/\x0.b.l.length<=64:=by
 have⟨l,c,s,C,f',so,A,pv,fv,z,fs,j,o,r,t,u,v,f,g⟩:=h;subst f;rw[g]at d;refine⟨rfl,rfl,?_⟩;have e:=d.1.1.1.1.2;show(I5 l.toNat iK).length<=64;rw[jh];omega
def vZ.new{b T:Nat}(h:vZ H sv x0 ok)(g:H.get b=B1 (OR sv T)):∃a p u q,Op.aq 4 [.ptr b 0] H=B1 a/\Op.ae [.ptr b 4] H=B1 p/\Op.aq 3 [.ptr b 5] H=B1 u/\Op.ae [.ptr b 8] H=B1 q /\
 zb M XY [a,p,u,q] H λ v H'=>Fr Em H H'/\(¬ok/\v=.tuple [.nilp,.int .i64 2]\/ok /\ ∃w nb,v=.tuple [.ptr w 0,.int .i64 0]/\H.au<=nb/\W1 nb H' w 0 x0 Em):=by
 have⟨l,c,s,L,f',so,K,pv,fv,N,fs,t,A,d,o,C,D,E,I⟩:=h;subst t;refine⟨.agg (eG l c s L),pv,.agg [.int .i64 f',.int .i64 so,.int .i64 K],fv,by rw[rT (xc g) (by show 0+4<=9;decide)];rfl,y9 g 4,by rw[rT (xc g) (by show 5+3<=9;decide)];rfl,y9 g 8,?_⟩;refine(xk0 A (λ p q=>⟨(d p q).1,(d p q).2.1.lt (d p q).1,(d p q).2.2⟩) o (λ q=>D.lt o q) C).mono λ v H'⟨f,r⟩=>⟨f,?_⟩
 rw[E,I];rcases r with r|⟨r,Hb,w,B,j,bs,own,ks,V,e,n,J⟩
 .exact .inl r
 .exact .inr ⟨r,w,_,e,n,Hb,B,j,.nils,bs,own,ks,V,rfl,J,λ z q=>q.elim⟩
def AQ(ok:Prop)(y:uv)(n:Nat):Prop:=ok/\1<=y.kd/\y.kd<=4/\n<=40
def Ai{b T:Nat}{y:uv}(g:H.get b=B1 (OR (gf y) T)):Op.ae [.ptr b 0] H=B1 (.int .i64 y.kd)/\Op.ae [.ptr b 1] H=B1 (.int .i64 y.co)/\Op.ae [.ptr b 2] H=B1 (.int .i64 y.ad)/\Op.ae [.ptr b 3] H=B1 (.int .u64 y.v)/\Op.ae [.ptr b 4] H=B1 (.int .i64 y.n)/\Op.aq 5 [.ptr b 0] H=B1 (.agg (gf y)):=⟨y9 g 0,y9 g 1,y9 g 2,y9 g 3,y9 g 4,eI g rfl⟩
def MdQ(H:ar)(x0:Wo)(o:Prop)(v:AV)(H':ar):Prop:=Fr Em H H'/\(¬o/\v=.tuple [.nilp,.int .i64 2]\/o /\ ∃w nb,v=.tuple [.ptr w 0,.int .i64 0]/\H.au<=nb/\W1 nb H' w 0 x0 Em)
def xmv(h:vZ H sv x0 ok){lv:AV}{n:Nat}(hl:Op.cw [lv]=B1 (.int .i64 (n:Int)))(y:uv):zb M qve [.agg sv,lv,.agg (gf y)] H (MdQ H x0 (AQ ok y n)):=by
 refine xbi ?_;have⟨H1,e1,D,n1,E⟩:=cq H (OR sv vf);have⟨A,e2,c,n2,I⟩:=cq H1 (OR (gf y) zG);have j:=D.em c;have o:A.get H.au=B1 (OR sv vf):=(c.ah _ (by omega) id).trans E;obtain⟨a,p,u,q,N,K,L,O,hn⟩:=(h.em j).new (M:=M) o;simp only[aa,bc,NK,<-e1,<-e2,N,K,L,O];refine C3.q hn λ v C⟨z,r⟩=>?_;have F:=j.em z;have Q:¬(2:Int)=0:=by decide
 have f:¬ ¬(0:Int)=0:=λ q=>q rfl;rcases r with⟨no,rfl⟩|⟨yes,w,nb,rfl,nn,hw⟩
 .simp only[aa,bc,NK,aw,Q];exact⟨F,.inl ⟨λ q=>no q.1,rfl⟩⟩
 have J:C.get H1.au=B1 (OR (gf y) zG):=(z.ah _ (by omega) id).trans I;obtain⟨e,-⟩:=Ai J
 by_cases d:y.kd<1
 .simp only[aa,bc,NK,aw,f,e,qv d];exact⟨F,.inl ⟨λ q=>by have:=q.2.1;omega,rfl⟩⟩
 by_cases g:4<y.kd
 .simp only[aa,bc,NK,aw,f,e,d,qv g];exact⟨F,.inl ⟨λ q=>by have:=q.2.2.1;omega,rfl⟩⟩
 by_cases t:(40:Int)<(n:Int)
 .simp only[aa,bc,NK,aw,f,e,d,g,hl,qv t];exact⟨F,.inl ⟨λ q=>by have:=q.2.2.2;omega,rfl⟩⟩
 .simp only[aa,bc,NK,aw,f,e,d,g,hl,t];exact⟨F,.inr ⟨⟨yes,by omega,by omega,by omega⟩,w,nb,rfl,by have:=j.au;omega,hw⟩⟩
end
section
variable{H H':ar}{nb w k:Nat}{x:Wo}{F:Nat->Prop}
def xfc(h:W1 nb H w k x F)(hl:x.h.length<=100000)(kd co:Int):zb M xn [.ptr w 0,.int .i64 kd,.int .i64 co] H λ v H'=>v=.int .i64 ((x.h.countP λ e=>decide (e.kind=kd/\e.core=co):Nat):Int)/\Fr Em H H':=by
 refine q6p ?_;simp only[aa,bc,Q7];refine C3.q (xn2 h hl) λ u H1⟨hs,I⟩=>?_;have ln:=hs.len;simp only[aa,bc,ln];refine b9.intro (λ n E Hx=>∃i:Nat,E=[(13,.int .i64 (i:Int)),(12,.int .i64 ((x.h.length:Nat):Int)),(11,u),(7,.int .i64 (((x.h.take i).countP λ e=>decide (e.kind=kd/\e.core=co):Nat):Int)),(1,.int .i64 kd),(2,.int .i64 co)]/\Fr Em H1 Hx/\n=x.h.length-i/\i<=x.h.length) ?_ ?_
 .exact ⟨_,_,⟨0,rfl,Fr.refl _,rfl,xw _⟩,by simp only[aa,bc,yo,List.countP_nil]⟩
 rintro n E Hx ⟨i,rfl,g,rfl,K⟩
 by_cases d:i<x.h.length
 .have q:(i:Int)<((x.h.length:Nat):Int):=by omega
  obtain⟨e,he⟩:∃e,x.h[i]? = B1 e:=⟨_,xf d⟩
  have D:=Sl.em hs g;have ix:=(show bN fh.enc 9 Hx u x.h from D).idx he (z:=(i:Int)) rfl .i64;have ld:=(show bN fh.enc 9 Hx u x.h from D).aq Ta (by decide) he;have A:aj .i64 ((i:Int)+1)=((i+1:Nat):Int):=by rw[jb (by omega) (by omega)];omega
  have tk:x.h.take (i+1)=x.h.take i ++ [e]:=by rw[kq,he];rfl
  obtain⟨c,f⟩:∃c,c=(x.h.take i).countP λ e=>decide (e.kind=kd/\e.core=co):=⟨_,rfl⟩
  have cl:c<=i:=by rw[f];exact xx (List.countP_le_length) (by rw[jx];omega)
  have J:aj .i64 ((c:Int)+1)=((c+1:Nat):Int):=by rw[jb (by omega) (by omega)];omega
  have⟨r,e2,t,n2,C⟩:=cq Hx (OR e.enc jr);have s2:Op.store 9 [.ptr Hx.au 0,.agg e.enc] (Hx.alloc (OR [.int .i64 0,.int .i64 0,.int .i64 0,.int .i64 0,.int .i64 0,.int .i64 0,.int .i64 0,.int .u64 0,.int .i64 0] jr))=B1 (.undef,r):=by rw[fH (n:=9) (l:=[.int .i64 0,.int .i64 0,.int .i64 0,.int .i64 0,.int .i64 0,.int .i64 0,.int .i64 0,.int .u64 0,.int .i64 0]) (xp Hx _) rfl (Ta e) rfl,Lk,e2]
  have l0:Op.ae [.ptr Hx.au 0] r=B1 (.int .i64 e.kind):=y9 C 0;have l2:Op.ae [.ptr Hx.au 2] r=B1 (.int .i64 e.core):=y9 C 2
  by_cases j:e.kind=kd
  .by_cases o:e.core=co
   .simp only[aa,bc,Q7,qv q,ix,ld,s2,l0,qv j,l2,qv o,<-f,J,A];refine⟨_,_,⟨i+1,rfl,g.em t,rfl,d⟩,by simp only[aa,bc,tk,M4,<-f];simp[j,o],by omega⟩
   .simp only[aa,bc,Q7,qv q,ix,ld,s2,l0,qv j,l2,o,<-f,A];refine⟨_,_,⟨i+1,rfl,g.em t,rfl,d⟩,by simp only[aa,bc,tk,M4,<-f];simp[o],by omega⟩
  .simp only[aa,bc,Q7,qv q,ix,ld,s2,l0,j,<-f,A];refine⟨_,_,⟨i+1,rfl,g.em t,rfl,d⟩,by simp only[aa,bc,tk,M4,<-f];simp[j],by omega⟩
 .have q:¬(i:Int)<((x.h.length:Nat):Int):=by omega
  simp only[aa,bc,Q7,q];rw[zd (by omega)];exact⟨rfl,I.em g⟩
def ag4(h:W1 nb H w k x F)(C:x.h.length<=100000)(hl:x.b.l.length<=64)(hk:k<=90000)(y:uv):zb M Yv [.ptr w 0,.agg (gf y)] H λ v H'=>v=.bool (x.Pd y)/\Fr Em H H':=by
 refine xd8 ?_;have⟨H1,e1,e,n1,o⟩:=cq H (OR (gf y) zG);have⟨I,z,A,K,J,L⟩:=Ai o;have t:=h.em e;unfold Wo.Pd;simp only[aa,bc,JY,<-e1,z,xef t y.co,aw,I]
 by_cases d:y.kd=1
 .rw [xg d];simp only[aa,bc,JY,qv d,A];refine C3.q (Ci t hl hk y.ad) λ v n⟨u,f⟩=>?_;subst u;have r:n.get H.au=B1 (OR (gf y) zG):=(f.ah _ (by omega) id).trans o;obtain⟨-,-,-,D,-⟩:=Ai r
  by_cases c:(x.b.tu y.ad).2=0
  .simp only[aa,bc,JY,aw,qv c,D];exact e.em f
  .simp only[aa,bc,JY,aw,c];exact e.em f
 rw[qy d]
 by_cases g:y.kd=2
 .rw [xg g];simp only[aa,bc,JY,d,qv g,A,z,J];refine C3.q (xfc t C y.ad y.co) λ v n⟨u,f⟩=>?_;subst u;have r:n.get H.au=B1 (OR (gf y) zG):=(f.ah _ (by omega) id).trans o;obtain⟨-,-,-,-,E,-⟩:=Ai r;simp only[aa,bc,JY,E];exact⟨rfl,e.em f⟩
 rw[qy g]
 by_cases j:y.kd=3
 .rw [xg j];simp only[aa,bc,JY,d,g,qv j];exact e
 .rw [qy j];simp only[aa,bc,JY,d,g,j];exact e
end
end Go.Am
namespace Go.Am
open Lang Go.Proofs
variable{M:ak}[MK M]
def PW(x0:Wo)(y:uv)(l:List Act):Bool:=(x0.run l).1.Pd y
def Zi:∀(l:List Act)(x:Wo),yD (x.run l).1.b=yD x.b
 |[],x=>rfl
 |a::l,x=>(Zi l _).trans (x.LI a)
structure AR(H0:ar)(nb w:Nat)(x0:Wo)(ls:List Act)(i:Nat)(Hx:ar):Prop where
 w:∃F,W1 nb Hx w (2*i) (x0.run (ls.take i)).1 F /\ ∀z,z<nb->F z
 fr:Fr Em H0 Hx
section
variable{H0 H H' Hx:ar}{nb w i:Nat}{x0:Wo}{ls:List Act}{sv:List AV}{ok:Prop}{lv:AV}
def AR.em(h:AR H0 nb w x0 ls i H)(f:Fr Em H H'):AR H0 nb w x0 ls i H':=by
 have⟨F,a,b⟩:=h.w;exact⟨⟨_,a.em f,λ z q=>.inl (b z q)⟩,h.fr.em f⟩
def AR.new(h:W1 nb H w 0 x0 Em)(f:Fr Em H0 H):AR H0 nb w x0 ls 0 H:=⟨⟨_,h.below,λ z q=>.inr q⟩,f⟩
def AR.do(h:AR H0 nb w x0 ls i Hx){a:Act}(ha:ls[i]? = B1 a)(f:x0.h=[]/\x0.n=0/\x0.b.l.length<=64)(u:i<=1000)(d:pL H0)(hn:H0.au<=nb):zb M TX [.ptr w 0,.agg a.enc] Hx λ _ H'=>AR H0 nb w x0 ls (i+1) H':=by
 have⟨F,g,c⟩:=h.w;have A:(ls.take i).length<=i:=by rw[jx];omega
 have o:=Wo.J6 (ls.take i) x0;have j:=Wo.yG (ls.take i) x0;have t:=d.2;rw[f.1,jo]at j;rw[f.2.1]at o;refine(RD g (by omega) (d.em h.fr) (by omega) (by omega) (by omega) (by omega) a).mono λ v H'⟨_,p⟩=>?_;have e:(x0.run (ls.take (i+1))).1=((x0.run (ls.take i)).1.act a).1:=by
  rw[kq,ha,show(B1 a).toList=[a]from rfl,Wo.yJ];rfl
 refine⟨⟨λ z=>F z\/Em z,by rw[e];exact p.w,λ z q=>.inl (c z q)⟩,xx h.fr.au p.n,λ z r q=>(p.kp z (c z (by omega))).trans (h.fr.ah z r q)⟩
def AR.has(h:AR H0 nb w x0 ls i Hx)(d:x0.h=[]/\x0.n=0/\x0.b.l.length<=64)(g:i<=1000)(y:uv):zb M Yv [.ptr w 0,.agg (gf y)] Hx λ v H'=>v=.bool (PW x0 y (ls.take i))/\Fr Em Hx H':=by
 have⟨F,c,f⟩:=h.w;have j:(ls.take i).length<=i:=by rw[jx];omega
 have e:=Wo.yG (ls.take i) x0;rw[d.1,jo]at e;have o:((x0.run (ls.take i)).1.b).l.length=x0.b.l.length:=congrArg C1 (Zi (ls.take i) x0);exact ag4 c (by omega) (by omega) (by omega) y
def HdQ(H:ar)(o:Prop)(b:Bool)(v:AV)(H':ar):Prop:=Fr Em H H'/\(¬o/\v=.tuple [.bool B2,.int .i64 2]\/o/\v=.tuple [.bool b,.int .i64 0])
def WS:[AV.int .i64 0,.int .i64 0,.int .i64 0]=Act.enc ⟨0,0,0⟩:=rfl
def q8a(h:vZ H sv x0 ok)(hs:bN Act.enc 3 H lv ls)(R:pL H)(y:uv):zb M qte [.agg sv,lv,.agg (gf y)] H (HdQ H (AQ ok y ls.length) (PW x0 y ls)):=by
 refine q77 ?_;have⟨H1,e1,K,n1,O⟩:=cq H (OR sv vf);have⟨o,e2,d,n2,u⟩:=cq H1 (OR (gf y) zG);have c:=K.em d;have U:Op.aq 9 [.ptr H.au 0] o=B1 (.agg sv):=eI ((d.ah _ (by omega) id).trans O) h.len;obtain⟨-,-,-,-,-,j⟩:=Ai u;have ln:=(Sl.em hs c).len;simp only[aa,bc,Md,<-e1,<-e2,U,j];refine C3.q (xmv (h.em c) ln y) λ v H3⟨t,r⟩=>?_;have Z:¬(2:Int)=0:=by decide
 have X:¬ ¬(0:Int)=0:=λ q=>q rfl;rcases r with⟨no,rfl⟩|⟨yes,w,nb,rfl,nn,hw⟩
 .simp only[aa,bc,Md,aw,Z];exact⟨c.em t,.inl ⟨no,rfl⟩⟩
 have A:=h.zero yes.1;have W:=yes.2.2.2;simp only[aa,bc,Md,aw,X,ln];refine b9.intro (λ n E Hx=>∃i:Nat,E=[(24,.int .i64 (i:Int)),(23,.int .i64 ((ls.length:Nat):Int)),(22,lv),(8,.ptr w 0),(5,.ptr H1.au 0)]/\AR o nb w x0 ls i Hx/\n=ls.length-i/\i<=ls.length) ?_ ?_
 .exact ⟨_,_,⟨0,rfl,.new hw t,rfl,xw _⟩,by simp only[aa,bc]⟩
 rintro n E Hx ⟨i,rfl,e,rfl,hi⟩
 by_cases f:i<ls.length
 .have q:(i:Int)<((ls.length:Nat):Int):=by omega
  obtain⟨a,ha⟩:∃a,ls[i]? = B1 a:=⟨_,xf f⟩
  have C:=Sl.em hs (c.em e.fr);have ix:=(show bN Act.enc 3 Hx lv ls from C).idx ha (z:=(i:Int)) rfl .i64;have ld:=(show bN Act.enc 3 Hx lv ls from C).aq Act.len (by decide) ha;have wi:aj .i64 ((i:Int)+1)=((i+1:Nat):Int):=by rw[jb (by omega) (by omega)];omega
  have⟨D,J,L,n4,Q⟩:=cq Hx (OR a.enc y8);have Y:Op.store 3 [.ptr Hx.au 0,.agg a.enc] (Hx.alloc (OR (Act.enc ⟨0,0,0⟩) y8))=B1 (.undef,D):=by rw[fH (xp Hx _) (Act.len _) (Act.len a) (Act.one a),Lk,J]
  have l4:=eI Q (Act.len a);simp only[aa,bc,Md,qv q,ix,ld,WS,Y,l4];refine C3.q ((e.em L).do ha A (by omega) (R.em c) nn) λ v I g=>?_;simp only[aa,bc,Md,wi];exact⟨_,_,⟨i+1,rfl,g,rfl,f⟩,by simp only[aa,bc],by omega⟩
 .have q:¬(i:Int)<((ls.length:Nat):Int):=by omega
  obtain⟨-,-,-,-,-,j⟩:=Ai (H:=Hx) (y:=y) (b:=H1.au) (T:=zG) ((e.fr.ah _ (by omega) id).trans u);simp only[aa,bc,Md,q,j];refine C3.q (e.has A (by omega) y) λ v I⟨S,N⟩=>?_;subst S;rw[zd (by omega)];simp only[aa,bc,Md];exact⟨(c.em e.fr).em N,.inr ⟨yes,rfl⟩⟩
end
end Go.Am
namespace Go.Am
open Lang Go.Proofs
variable{M:ak}[MK M]
def t6(o:Prop)(b:Bool)(n:Int):Prop:=(¬o/\n=2)\/(o/\b=B2/\n=280)\/(o/\b=B4/\n=0)
def WtQ(H:ar)(o:Prop)(b:Bool)(v:AV)(H':ar):Prop:=Fr Em H H' /\ ∃n,v=.int .i64 n/\t6 o b n
def Wl(I:Nat->Env->List aL->ar->Prop)(n:Nat)(Q:aF):aF:=λ e E D H=>match e with
 | .normal=>∃m E',I m E' D H/\vG E' E/\m<n
 |e=>Q e E D H
def RC{ctx:Ctx}{p:Kp×ai}{Q:aF}{E:Env}{D:List aL}{H:ar}(I:Nat->Env->List aL->ar->Prop)(j:∃n d,I n d D H/\vG d E)(h:∀n E D H,I n E D H->W M ctx p B4 (Wl I n Q) E D H):b9 (W M ctx p) Q E D H:=by
 obtain⟨n,d,o,r⟩:=j;refine⟨I,⟨n,d,o,r.ss⟩,λ n E D H t=>W.mono (h n E D H t) λ e E D' H f=>?_⟩;cases e with
 |normal=>obtain⟨m,g,a,b,c⟩:=f;exact⟨m,g,a,b.ss,c⟩
 |_=>exact f
def xii(I:Nat->Env->List aL->ar->Prop)(D:List aL)(n:Nat)(Q:aF)(E:Env)(H:ar):Wl I n Q .normal E D H = ∃m c,I m c D H/\vG c E/\m<n:=rfl
def Fg(I:Nat->Env->List aL->ar->Prop)(D:List aL)(n:Nat)(Q:aF)(E:Env)(H:ar)(l:Nat):Wl I n Q (.exit l) E D H=Q (.exit l) E D H:=rfl
def He{rs:List eC}{Q:bM->ar->Prop}{E:Env}:∀{ds:List Nat}{H:ar},(∀d∈ds,H.get d=B1 (.deferred (B1 [])))->ds.Nodup->(∀H',H'.au=H.au->(∀z,z∉ds->H'.get z=H.get z)->eH M rs Q .ret E [] H')->eH M rs Q .ret E (ds.map aL.iy) H
 |[],H,_,_,h=>h H rfl λ _ _=>rfl
 |d::ds,H,hd,hn,h=>by
  rw[j6,xid];have⟨n1,n2⟩:=List.nodup_cons.1 hn;refine⟨hd d (wq ..),He (λ e q=>?_) n2 λ H' a b=>h H' (a.trans (tj ..)) λ z q=>?_⟩
  .rw [kr λ w:d=e=>n1 (w▸q)];exact hd e (M3 _ q)
  .rw [b z λ w=>q (M3 _ w),kr λ w:d=z=>q (w▸wq ..)]
section
variable{H0 H H' Hx:ar}{nb w i:Nat}{x0:Wo}{ls:List Act}{sv:List AV}{ok:Prop}{lv:AV}
def xgn(h:vZ H sv x0 ok)(hs:bN Act.enc 3 H lv ls)(o:pL H)(y:uv):zb M qqv [.agg sv,lv,.agg (gf y)] H (WtQ H (AQ ok y ls.length) (PW x0 y ls)):=by
 refine q6q ?_;have⟨H1,e1,g,n1,j⟩:=cq H (OR sv vf);have⟨f,e2,d,n2,n⟩:=cq H1 (OR (gf y) zG);have c:=g.em d;have u:Op.aq 9 [.ptr H.au 0] f=B1 (.agg sv):=eI ((d.ah _ (by omega) id).trans j) h.len;obtain⟨-,-,-,-,-,t⟩:=Ai n;simp only[aa,bc,SB,<-e1,<-e2,u,t];refine C3.q (q8a (h.em c) (Sl.em hs c) (o.em c) y) λ v A⟨e,r⟩=>?_;have z:¬(2:Int)=0:=by decide
 rcases r with⟨no,rfl⟩|⟨yes,rfl⟩
 .simp only[aa,bc,SB,aw,z];exact⟨c.em e,_,rfl,.inl ⟨no,rfl⟩⟩
 .cases hp:PW x0 y ls with
  |true =>
   simp only[aa,bc,SB,aw];exact⟨c.em e,_,rfl,.inr (.inr ⟨yes,rfl,rfl⟩)⟩
  |false =>
   simp only[aa,bc,SB,aw];exact⟨c.em e,_,rfl,.inr (.inl ⟨yes,rfl,rfl⟩)⟩
def AQ.less{y:uv}{n m:Nat}(h:AQ ok y n)(q:m<=n):AQ ok y m:=⟨h.1,h.2.1,h.2.2.1,by have:=h.2.2.2;omega⟩
def mf(n:Nat):List (List AV):=(N2 n).map λ j=>[.int .i64 ((n-1-j:Nat):Int)]
def xiq{H0:ar}{p b n:Nat}(hp:H0.get p=B1 (OR [.ptr b 0] Ef))(Q:p<H0.au)(hn:n<=100000) :
 ta M M1 [] [.ptr p 0] (λ x=>x=p) (λ _=>False) (λ i H=>i=0 -> ∃v,Op.ae [.ptr b 0] H=B1 v/\Op.cw [v]=B1 (.int .i64 (n:Int))) H0 (mf n):=by
 intro Y R S d H1 O K g u loc I hI step;have⟨p1,U,p3⟩:=K p (.inl rfl)
 suffices h:zb M M1 [.fn (.yield Y) [] [],.ptr p 0] H1 (Iv R S d (λ _=>False) H1 (mf n).length)by
  have⟨v,H',L,W',W,X,Z⟩:=h.elim;exact⟨v,H',W',L,W,X,Z⟩
 refine q6o ?_;have lp:Op.ae [.ptr p 0] H1=B1 (.ptr b 0):=by rw[x9 (xc (by rw[U];exact hp))];rfl
 obtain⟨v,lb,ln⟩:=hI 0 d H1 g rfl;have J:(mf n).length=n:=by unfold mf;rw[xu,jd]
 have w1:aj .i64 ((n:Int)-1)=(n:Int)-1:=jb (by omega) (by omega);simp only[aa,bc,P6,lp,qo,lb,ln,w1];refine b9.intro (λ m E Hx=>∃(i:Nat)(V:Nat->Prop)(z:Int),E=[(3,.int .i64 z),(0,.fn (.yield Y) [] [])]/\z=(n:Int)-1-i/\m=n-i/\i<=n/\Jw R d H1 Hx i V) ?_ ?_
 .exact ⟨_,_,⟨0,d,(n:Int)-1,rfl,by omega,rfl,xw _,⟨g,λ b hb=>⟨u b hb,.inl hb⟩,Fr.refl _⟩⟩,by simp only[aa,bc]⟩
 rintro m E Hx ⟨i,V,z,rfl,hz,rfl,hi,c⟩;rcases xz i n with C|N
 .have t:0<=z:=by omega
  have wj:aj .i64 (z-1)=z-1:=jb (by omega) (by omega);have hg:(mf n)[i]? = B1 [.int .i64 z]:=by
   have e:((n-1-i:Nat):Int)=z:=by omega
   unfold mf;rw[xq,kj C];show B1 [AV.int .i64 ((n-1-i:Nat):Int)]=_;rw[e]
  have⟨bb,D,r,hr,A,o,T,hs⟩:=step _ _ hg V Hx c.hR c.hV (c.fr.mono λ _ _ q=>.inl q);have f:Fr d H1 D:=c.fr.trans A λ b q=>(c.hV b q).2;have j:∀b,r b->b<D.au/\(d b\/H1.au<=b):=λ b q=>⟨(o b q).1,(o b q).2.elim (λ w=>(c.hV b w).2) λ w=>.inr (xx c.fr.au w)⟩
  simp only[aa,bc,P6,qv t];refine C3.tR hr ?_;cases bb with
  |true =>
   simp only[aa,bc,P6,wj];exact⟨_,_,⟨i+1,r,z-1,rfl,by omega,rfl,by omega,⟨T rfl,j,f⟩⟩,by simp only[aa,bc],by omega⟩
  |false =>
   simp only[aa,bc,P6];exact⟨r,f.mono λ _ _ w=>.inl w,j,.inr (hs rfl)⟩
 .have t:¬0<=z:=by omega
  simp only[aa,bc,P6,t];exact⟨V,c.fr.mono λ _ _ w=>.inl w,c.hV,.inl (by rw[J,show n=i by omega];exact c.hR)⟩
def xk8{H:ar}(b:Nat):zb M qvd [.ptr b 0] H λ v H'=>v=.fn (.func M1) [] [.ptr H.au 0]/\H'=H.alloc (OR [.ptr b 0] Ef):=by
 refine xbg ?_;have mk:Op.bH M1 0 [.ptr H.au 0]=B1 (.fn (.func M1) [] [.ptr H.au 0]):=rfl;simp only[aa,bc,xbh,mk];rfl
def ShQ(H:ar)(o:Prop)(P:List Act->Bool)(ls:List Act)(v:AV)(H':ar):Prop:=Fr Em H H'/\((∃n,v=.tuple [.nils,.int .i64 n]/\t6 o (P ls) n/\n≠0)\/(o/\P ls=B4 /\ ∃rv,v=.tuple [rv,.int .i64 0]/\xK H' rv (shr P ls) /\ ∀z,aM rv z->H.au<=z))
structure Un(P:List Act->Bool)(l0:List Act)(n2 b j:Nat)(V:Nat->Prop)(Hx:ar):Prop where
 vt:V b
 bx:∃v l,Hx.get b=B1 (OR [v] nS)/\xK Hx v l/\(∀z,aM v z->n2<=z/\V z/\z≠b)/\Et P (l0.length-j) l=lQ P l0/\l0.length-j<=l.length/\l.length<=l0.length/\(j=0->l=l0)/\P l=B4
 lt:b<Hx.au
def xK.fr{W:Nat->Prop}{v:AV}{l:List Act}(h:xK H v l)(f:Fr W H H')(hw:∀z,aM v z -> ¬W z):xK H' v l:=by
 refine⟨?_,h.2.imp id λ⟨b,m,rest,a1,a2,a3,a4⟩=>⟨b,m,rest,a1,qn a2 f.au,a3,by rw[f.ah b a2 (hw b (by rw[a1];exact⟨by simp,rfl⟩))];exact a4⟩⟩;rcases h.2 with rfl|⟨b,m,rest,rfl,_⟩
 .exact Sl.fr h.1 f (.inl rfl)
 .exact Sl.fr h.1 f (.inr (hw b ⟨by simp,rfl⟩))
def Un.loc{P:List Act->Bool}{l0:List Act}{n2 b j:Nat}{V:Nat->Prop}(h:Un P l0 n2 b j V H)(hs:∀x,V x->H'.get x=H.get x)(hn:H.au<=H'.au):Un P l0 n2 b j V H':=by
 obtain⟨v,l,d,e,c,f⟩:=h.bx;exact⟨h.vt,⟨v,l,by rw[hs _ h.vt];exact d,e.fr (W:=λ b=>¬V b) ⟨hn,λ b _ hw=>hs b (wh.1 hw)⟩ λ z q w=>w (c z q).2.1,c,f⟩,qn h.lt hn⟩
def xes(h:vZ H sv x0 ok)(hs:bN Act.enc 3 H lv ls)(hS:pL H)(y:uv):zb M Pq [.agg sv,lv,.agg (gf y)] H (ShQ H (AQ ok y ls.length) (PW x0 y) ls):=by
 refine q6n ?_;have⟨H1,e1,f1,n1,g1⟩:=cq H (OR sv vf);have⟨O,e2,f12,n2,g2⟩:=cq H1 (OR (gf y) zG);have C:=f1.em f12;have g1':O.get H.au=B1 (OR sv vf):=(f12.ah _ (by omega) id).trans g1;have bx:∀{Hx:ar},Fr Em O Hx->Op.aq 9 [.ptr H.au 0] Hx=B1 (.agg sv)/\Op.aq 5 [.ptr H1.au 0] Hx=B1 (.agg (gf y)):=λ{Hx}f=>⟨eI ((f.ah _ (by omega) id).trans g1') h.len,(Ai ((f.ah _ (by omega) id).trans g2)).2.2.2.2.2⟩
 simp only[aa,bc,ID,<-e1,<-e2,bx (Fr.refl _)];refine C3.q (xgn (h.em C) (Sl.em hs C) (hS.em C) y) λ v H3⟨f3,n,A,hn⟩=>?_;subst A
 by_cases n0:n=0
 case neg =>
  simp only[aa,bc,ID,qv n0];exact⟨C.em f3,.inl ⟨n,rfl,hn,n0⟩⟩
 subst n0;obtain⟨yes,hp⟩:AQ ok y ls.length/\PW x0 y ls=true:=by rcases hn with⟨_,q⟩|⟨_,_,q⟩|⟨a,b,_⟩;cases q;cases q;exact⟨a,b⟩
 have l40:=yes.2.2.2;simp only[aa,bc,ID];refine C3.q (Z_ (Sl.em hs (C.em f3)) (by omega)) λ cv c⟨oc,nc,f4⟩=>?_;have⟨H5,e5,f5,n5,g5⟩:=cq c (OR [cv] nS);have one:aB cv=true:=Sl.one (aO.sl oc);have s5:Op.store 1 [.ptr c.au 0,cv] (c.alloc (OR [.nils] nS))=B1 (.undef,H5):=by
  have st:=(At.new c [.nils] nS).st 0 one (by simp);rw[st,Lk,e5];rfl
 simp only[aa,bc,ID,s5];obtain⟨P,eP⟩:∃P,P=PW x0 y:=⟨_,rfl⟩
 rw[<-eP]at hp⊢;have fx5:Fr Em O H5:=(f3.em f4).em f5;have m5:=(f3.em f4).au;refine RC (λ m E D Hx=>∃(K:Int)(v:AV)(l:List Act)(ds:List Nat),E=[(10,.int .i64 K),(9,.ptr c.au 0),(5,.ptr H1.au 0),(3,.ptr H.au 0)]/\D=ds.map aL.iy/\ds.Nodup/\(∀d∈ds,c.au<d/\d<Hx.au/\Hx.get d=B1 (.deferred (B1 [])))/\Fr Em O Hx/\Hx.get c.au=B1 (OR [v] nS)/\c.au<Hx.au/\xK Hx v l/\(∀z,aM v z->O.au<=z/\z≠c.au/\z∉ds/\z<Hx.au)/\l.length<=ls.length/\P l=B4/\shr P l=shr P ls/\(K=(l.length:Int)->lQ P l=l)/\m=(if K=(l.length:Int)then 0 else l.length+1)) ?_ ?_
 .exact ⟨_,_,⟨-1,cv,ls,[],rfl,rfl,List.nodup_nil,λ d q=>(by cases q),fx5,g5,by omega,(xK.of oc).em f5,λ z q=>⟨by have:=nc z q;have:=f3.au;omega,by have:=Own.lt oc z q;omega,λ w=>(by cases w),by have:=Own.lt oc z q;omega⟩,qm _,hp,rfl,λ q=>by omega,rfl⟩,by simp only[aa,bc]⟩
 rintro m E D Hx ⟨K,v,l,ds,rfl,rfl,hnd,J,fx,gb,lb,wt,A,ll,hpl,hsh,hfx,rfl⟩;have l9:Op.ae [.ptr c.au 0] Hx=B1 v:=y9 gb 0;have ln:Op.cw [v]=B1 (.int .i64 (l.length:Int)):=wt.1.len
 by_cases hw:K=(l.length:Int)
 .simp only[aa,bc,ID,l9,ln,qv hw,Fg];refine He (λ d q=>(J d q).2.2) hnd λ H' nx kp=>?_;have es:shr P ls=l:=by rw[<-hsh];exact Tb P (hfx hw) _
  simp only[aa,bc];refine⟨⟨by have:=(C.em fx).au;omega,λ z zl _=>?_⟩,.inr ⟨yes,hp,v,rfl,?_,λ z q=>by have:=(A z q).1;have:=C.au;omega⟩⟩
  .rw [kp z λ w=>by have:=(J z w).1;have:=C.au;omega];exact(C.em fx).ah z zl id
  .rw [es];exact wt.fr (W:=λ z=>z∈ds) ⟨by omega,λ z _ q=>kp z q⟩ λ z q=>(A z q).2.2.1
 .simp only[aa,bc,ID,l9,ln,hw];refine C3.q (xk8 c.au) λ bv H6⟨hbv,h6⟩=>?_;subst hbv;obtain⟨f6,n6,g6⟩:Fr Em Hx H6/\H6.au=Hx.au+1/\H6.get Hx.au=B1 (OR [.ptr c.au 0] Ef):=by rw[h6];exact⟨(Fr.refl Hx).alloc _,xy ..,xp ..⟩
  have gb6:H6.get c.au=B1 (OR [v] nS):=(f6.ah _ lb id).trans gb;have wt6:=wt.em f6;simp only[aa,bc,ID];refine iE.sZ (fn:=TS) (lp:=QB) (pa:=Wu 0) (pb:=UN 0) q1k qn2.1 qn2.2 (by decide) qyq qyr
   (xiq (n:=l.length) g6 (by omega) (by omega)) (λ j V Hy=>Un P l O.au c.au j V Hy) (λ _ _ _=>False) (λ z=>z=c.au\/aM v z) (qm _) ?_ ?_ ?_ ?_ ?_ ?_ ?_ ?_ ?_
  .rintro x (q|q)
   .exact ⟨by omega,rfl,λ w=>w.elim (by omega) λ w=>by have:=(A x w).2.2.2;omega⟩
   .exact q.elim
  .exact λ x q=>q.elim (by omega) λ q=>by have:=(A x q).2.2.2;omega
  .exact ⟨.inl rfl,⟨v,l,gb6,wt6,λ z q=>⟨(A z q).1,.inr q,(A z q).2.1⟩,rfl,qm _,qm _,λ _=>rfl,hpl⟩,by omega⟩
  .exact λ j V Ha Hb h hs hn=>h.loc hs hn
  .exact λ e V Ha Hb h _ _=>h
  .intro j V Hy o e0;obtain⟨R,u,a1,a2,_,_,_,_,a7,_⟩:=o.bx;have a7:=a7 e0;subst a7;exact⟨R,y9 a1 0,a2.1.len⟩
  .intro L j lr lbo x hx hL V N o hV hf7 hnL hL7 hgL;have bl:(mf l.length).length=l.length:=by unfold mf;rw[xu,jd]
   have hj:j<l.length:=by have:=(qt.1 hx).1;omega
   obtain⟨k,hk⟩:∃k,k=l.length-1-j:=⟨_,rfl⟩
   unfold mf at hx;rw[xq,kj hj]at hx;injection hx with hx
   have hx:[AV.int .i64 ((l.length-1-j:Nat):Int)]=x:=hx;subst hx;rw[<-hk];refine⟨_,rfl,?_⟩;obtain⟨-,wa,wb,-,wb3,-,wb11,-⟩:=ID M ⟨B1 L,Pq⟩;simp only[aa,bc,wa,A9];refine⟨hgL,?_⟩;obtain⟨R,u,a1,a2,U,Y,a5,a6,a7,a8⟩:=o.bx;have hLb:L≠c.au:=λ q=>hnL (by rw[q];exact o.vt);have F7:Fr Em O N:=(fx.em f6).trans hf7 λ z q=>.inr (q.elim (λ q=>q.elim (λ q=>by omega) λ q=>(A z q).1) NR);obtain⟨T,e8⟩:∃X,X=N.set L lbo:=⟨_,rfl⟩
   rw[<-e8];have I:Fr (On L) N T:=by rw[e8];exact cm ..
   have n8:T.au=N.au:=by rw[e8];rfl
   have F8:Fr Em O T:=F7.trans I λ z(q:z=L)=>.inr (by have:=fx.au;omega);have gL8:T.get L=B1 lbo:=by rw[e8];exact xb ..
   have hB8:=o.loc (H':=T) (λ z q=>I.ah z (hV z q).1 λ(w:z=L)=>hnL (w▸q)) (by omega);have gb8:T.get c.au=B1 (OR [R] nS):=(I.ah _ o.lt λ(w:c.au=L)=>hLb w.symm).trans a1;have wt8:xK T R u:=a2.fr I λ z q(w:z=L)=>hnL (w▸(U z q).2.1);have ki:k<u.length:=by omega
   have er:Et P k (if P (u.eraseIdx k)=B4 then u.eraseIdx k else u)=lQ P l:=by rw[<-Y,show l.length-j=k+1 by omega];rfl
   have ej:l.length-(j+1)=k:=by omega
   have VL:∀z,V z->z<T.au/\(V z\/N.au<=z):=λ z q=>⟨by have:=(hV z q).1;omega,.inl q⟩
   simp only[aa,bc,wb,y9 gb8 0];refine C3.q (xeg wt8.1 ki (by omega)) λ r H9⟨w9,f9,nw9⟩=>?_;have F9:=F8.em f9;simp only[aa,bc,wb3,bx F9];have le:(u.eraseIdx k).length=u.length-1:=List.length_eraseIdx_of_lt ki;refine C3.q (q8a (h.em (C.em F9)) w9.1 (hS.em (C.em F9)) y) λ vv t⟨f10,r10⟩=>?_;rcases r10 with⟨no,_⟩|⟨_,rfl⟩
   .exact (no (yes.less (by omega))).elim
   have g:=f9.em f10;have n10:=g.au;have Z:t.get L=B1 lbo:=(g.ah L (by omega) id).trans gL8;rw[<-eP];have S:Fr (λ z=>V z\/z=L) N t:=(I.mono λ z _(q:z=L)=>.inr q).trans g λ z q=>q.elim;cases hpp:P (u.eraseIdx k)with
   |false =>
    rw[hpp,qy (by decide)]at er;simp only[aa,bc,aw,wb11];refine⟨rfl,Z,V,λ z q=>⟨by have:=(VL z q).1;omega,.inl q⟩,S,.inl ⟨rfl,⟨o.vt,⟨R,u,(g.ah _ (by have:=o.lt;omega) id).trans gb8,wt8.em g,U,by rw[ej];exact er,by omega,a6,λ q=>by omega,a8⟩,by have:=o.lt;omega⟩⟩⟩
   |true =>
    rw[hpp,xg rfl]at er;have one:aB r=true:=Sl.one w9.1;have st:=(show At t c.au nS [R]from⟨(g.ah _ (by have:=o.lt;omega) id).trans gb8,by have:=o.lt;omega⟩).st 0 one (by simp);obtain⟨H11,Q⟩:∃X,X=t.set c.au (OR ([R].set 0 r) nS):=⟨_,rfl⟩
    rw[<-Q]at st;have f11:Fr (On c.au) t H11:=by rw[Q];exact cm ..
    have n11:H11.au=t.au:=by rw[Q];rfl
    have nr:∀z,aM r z->N.au<=z:=λ z q=>by have:=(nw9 z q).1;omega
    have hb7:=o.lt;have rl:∀z,aM r z->z<t.au:=λ z q=>by have:=(nw9 z q).2;have:=f10.au;omega
    simp only[aa,bc,aw,wb11,st];refine⟨rfl,(f11.ah L (by omega) hLb).trans Z,λ z=>V z\/aM r z,λ z q=>?_,(S.trans f11 λ z(q:z=c.au)=>.inl (.inl (by rw[q];exact o.vt))),.inl ⟨rfl,⟨.inl o.vt,⟨r,u.eraseIdx k,by rw[Q];exact xb ..,(w9.em f10).fr f11 λ z q(w:z=c.au)=>by have:=nr z q;omega,λ z q=>⟨by have:=nr z q;have:=F7.au;omega,.inr q,by have:=nr z q;omega⟩,by rw[ej];exact er,by omega,by omega,λ q=>by omega,hpp⟩,by omega⟩⟩⟩;rcases q with q|q
    .exact ⟨by have:=(VL z q).1;omega,.inl q⟩
    .exact ⟨by have:=rl z q;omega,.inr (nr z q)⟩
  .intro d V N hd1 hd2 hgd hfd hVd o;have bl:(mf l.length).length=l.length:=by unfold mf;rw[xu,jd]
   rw[bl]at o;obtain⟨R,u,a1,a2,U,Y,a5,a6,a7,a8⟩:=o.bx;have Y:u=lQ P l:=by rw[<-Y,FY];rfl
   have F7:Fr Em O N:=(fx.em f6).trans hfd λ z q=>.inr (q.elim (λ q=>q.elim (λ q=>by omega) λ q=>(A z q).1) NR);have nfd:=hfd.au;simp only[aa,bc,ID,Ce,xii];refine⟨_,_,⟨(l.length:Int),R,u,d::ds,rfl,rfl,List.nodup_cons.2 ⟨λ q=>by have:=(J d q).2.1;omega,hnd⟩,λ e q=>?_,F7,a1,o.lt,a2,λ z q=>⟨(U z q).1,(U z q).2.2,λ w=>?_,(hVd z (U z q).2.1).1⟩,by omega,a8,by rw[Y,DY];exact hsh,λ q=>?_,rfl⟩,by simp only[aa,bc],?_⟩
   .rcases kw.1 q with rfl|q
    .exact ⟨by omega,hd2,hgd⟩
    .have ⟨x1,x2,x3⟩:=J e q;exact⟨x1,by omega,(hfd.ah e (by omega) λ w=>w.elim (λ w=>w.elim (by omega) λ w=>(A e w).2.2.1 q) id).trans ((f6.ah e x2 id).trans x3)⟩
   .have ⟨y1,y2,y3⟩:=hVd z (U z q).2.1;rcases kw.1 w with e|w
    .exact y3 e
    .exact y2.elim (λ y=>y.elim (U z q).2.2 λ y=>(A z y).2.2.1 w) λ y=>by have:=(J z w).2.1;omega
   .have e:=(U' P (l:=l) (by rw[<-Y];omega)).1;rw[Y,e];exact e
   .have:=ZK P l;rw[<-Y]at this;split<;>omega
  .exact λ e d V N _ _ _ _ _ _ o=>o.elim
end
end Go.Am
namespace Go.Am
open Lang Go.Proofs
variable{M:ak}[MK M]
section
open Go.RowKit
def DU{P:Jg}{tL tA e:Ku}{g:Array Field}(A:P.underlying tL=B1 (.slice tA))(uA:P.underlying tA=B1 (.struct g))(t:g.toList.map (·.type)=[e,e,e])(uN:P.underlying e=B1 (.int .i64))(v:FP P 0 g.toList=B4)(z:(g.toList.map λ f=>P.cellsOf f.type).sum=P.cellsOf tA)(j:P.cellsOf tA=3) :
 qN P tL λ H l=>∃u,l=[u] /\ ∃ls:List Act,bN Act.enc 3 H u ls:=by
 refine(Sw A (X1 (n:=3) uA t uN v z) (by rw[j];decide)).imp ?_ λ H l h=>?_
 .rintro H H' l ⟨u,d,xs,o⟩ f;exact⟨u,d,xs,o.em f⟩
 .obtain ⟨u,rfl,d,o⟩:=h;rw[j]at d;have⟨xs,r,_⟩:=Uh (enc:=Act.enc) (Q:=λ _=>True) (λ l h=>by
   obtain⟨_,_,rfl,⟨a,rfl,_⟩,_,_,rfl,⟨b,rfl,_⟩,_,_,rfl,⟨c,rfl,_⟩,rfl⟩:=h;exact⟨⟨a,b,c⟩,rfl,trivial⟩) d
  exact⟨u,rfl,xs,r⟩
def Cd(_:ar)(u:List AV):Prop:=∃y:uv,u=gf y
def HZ{P:Jg}{tW g tU:Ku}{j:Array Field}(uW:P.underlying tW=B1 (.struct j))(n:j.toList.map (·.type)=[g,g,g,tU,g])(uN:P.underlying g=B1 (.int .i64))(u:P.underlying tU=B1 (.int .u64))(r:FP P 0 j.toList=B4)(t:(j.toList.map λ f=>P.cellsOf f.type).sum=P.cellsOf tW):qN P tW Cd:=by
 have hm:j.toList.length=5:=by have:=congrArg List.length n;simpa using this
 refine(Y5 (Rs:=[λ _ l=>kB .i64 l,λ _ l=>kB .i64 l,λ _ l=>kB .i64 l,λ _ l=>kB .u64 l,λ _ l=>kB .i64 l]) uW (by rw[hm];rfl)
  (Sm (f:=Field.type) (Q:=qN P) _ _ (by
   rw[n];intro x o;simp only[List.zip_cons_cons,List.zip_nil_right,kw,Lx,or_false]at o;rcases o with rfl|rfl|rfl|rfl|rfl
   .exact (Jy (J7 uN)).IP
   .exact (Jy (J7 uN)).IP
   .exact (Jy (J7 uN)).IP
   .exact (Jy (J7 u)).IP
   .exact (Jy (J7 uN)).IP)) r t).imp (λ _ _ _ h _=>h) λ H l h=>?_
 obtain⟨_,_,rfl,⟨a,rfl,_⟩,_,_,rfl,⟨b,rfl,_⟩,_,_,rfl,⟨c,rfl,_⟩,_,_,rfl,⟨d,rfl,_⟩,_,_,rfl,⟨e,rfl,_⟩,rfl⟩:=h;exact⟨⟨a,b,c,d,e⟩,rfl⟩
end
def xmm{n:Nat}:∀{l:List Nat},n∈l->n<=l.sum
 |a::l,h=>by
  rw[List.sum_cons];rcases kw.1 h with rfl|h
  .omega
  .have:=xmm h;omega
def GrQ(H:ar)(sv:List AV)(v:AV)(H':ar):Prop:=Fr Em H H'/\(v=.int .i64 1\/v=.int .i64 0 /\ ∃x0 ok,vZ H sv x0 ok)
def xif{H:ar}{sv:List AV}(h:kM H sv):zb M qvb [.agg sv] H (GrQ H sv):=by
 have⟨l,c,s,U,f,so,T,pv,fv,d,fs,W,S,o,Q,J,I,Y⟩:=h;subst W;refine xai ?_;have⟨H1,e1,r,n1,O⟩:=cq H (OR (Y1 l c s U pv f so T fv) vf);have l4:Op.ae [.ptr H.au 4] H1=B1 pv:=y9 O 4;have K:Op.ae [.ptr H.au 8] H1=B1 fv:=y9 O 8;have L:=Sl.em S r;have pl:=(show bN mq 1 H1 pv d from L).len;have fl:=(Sl.em Q r).len;have R:reachBytes=140737488351232:=by decide
 -- so many bytes in the first ones
 obtain⟨g,j⟩:∃g:Nat->Nat,g=λ i=>((d.take i).map λ p=>p.2.length).sum:=⟨_,rfl⟩
 have s0:g 0=0:=by rw[j];rfl
 have ss:∀{i p},d[i]? = B1 p->g (i+1)=g i+p.2.length:=λ{i p}hp=>by
  rw[j];show(((d.take (i+1)).map λ p=>p.2.length).sum)=_;rw[kq,hp,Jb,List.sum_append];simp
 have sb:∀i,i<=10->g i<=i*reachBytes:=λ i=>by
  induction i with
  |zero=>intro _;rw[s0];exact xw _
  |succ i ih =>
   intro q;have:=ih (by omega);cases hp:d[i]? with
   |some p=>rw[ss hp];have:=(o p (ze hp)).2.2.2;rw[vm];omega
   |none =>
    have e:d.take (i+1)=d.take i:=by rw[kq,hp];simp
    have:g (i+1)=g i:=by rw[j];show((d.take (i+1)).map _).sum=_;rw[e]
    rw[this,vm];omega
 simp only[aa,bc,Mr,<-e1];refine b9.intro (λ n E Hx=>∃(i:Nat)(z:Int),E=[(4,.int .i64 (i:Int)),(3,.int .i64 z),(1,.ptr H.au 0)]/\Hx=H1/\n=d.length-i/\i<=d.length/\(d.length<=10->z=(g i:Nat))) ?_ ?_
 .exact ⟨_,_,⟨0,0,rfl,rfl,rfl,xw _,λ _=>by rw[s0];rfl⟩,by simp only[aa,bc]⟩
 rintro n E Hx ⟨i,z,rfl,rfl,rfl,hi,A⟩
 by_cases t:i<d.length
 .have q:(i:Int)<((d.length:Nat):Int):=by omega
  obtain⟨p,hp⟩:∃p,d[i]? = B1 p:=⟨_,xf t⟩
  have ix:=(show bN mq 1 Hx pv d from L).idx hp (z:=(i:Int)) rfl .i64;have ld:Op.ae [.ptr (aG pv) (cJ 1 pv i)] Hx=B1 p.1:=(show bN mq 1 Hx pv d from L).iR xck hp (by decide);have u:=o p (ze hp);have Z:=(Sl.em u.1 r).len;have wi:aj .i64 ((i:Int)+1)=((i+1:Nat):Int):=by rw[jb (by omega) (by omega)];omega
  simp only[aa,bc,Mr,l4,pl,qv q,ix,ld,Z,wi];refine⟨_,_,⟨i+1,aj .i64 (z+(p.2.length:Int)),rfl,rfl,t,λ D=>?_⟩,by simp only[aa,bc],by omega⟩;have:=sb i (by omega);have:=j9 reachBytes (show i<=10 by omega);have:=u.2.2.2;rw[A D,ss hp,jb (by omega) (by omega)];omega
 .have q:¬(i:Int)<((d.length:Nat):Int):=by omega
  have X:i=d.length:=by omega
  simp only[aa,bc,Mr,l4,pl,q]
  by_cases v:(10:Int)<((d.length:Nat):Int)
  .simp only[aa,bc,Mr,qv v];exact⟨r,.inl rfl⟩
  by_cases C:(100:Int)<((fs.length:Nat):Int)
  .simp only[aa,bc,Mr,v,K,fl,qv C];exact⟨r,.inl rfl⟩
  by_cases N:(2000:Int)<z
  .simp only[aa,bc,Mr,v,K,fl,C,qv N];exact⟨r,.inl rfl⟩
  .simp only[aa,bc,Mr,v,K,fl,C,N];refine⟨r,.inr ⟨rfl,_,_,l,c,s,U,f,so,T,pv,fv,d,fs,rfl,S,λ p w=>⟨(o p w).1,(o p w).2.2.1,?_⟩,Q,J,I,rfl,rfl⟩⟩;have A:=A (by omega);have:p.2.length<=g d.length:=by
    rw[j];show _<=((d.take d.length).map λ p=>p.2.length).sum;rw[KP];exact xmm (Fw.2 ⟨p,w,rfl⟩)
   rw[X]at A;omega
end Go.Am
namespace Go.Am
open Lang Go.Proofs
variable{M:ak}[MK M]
section
variable{H H' Hx:ar}{nb w i:Nat}{x0:Wo}{ls:List Act}{sv:List AV}{ok:Prop}{lv:AV}
def xnx(hs:bN Act.enc 3 H lv ls)(hl:ls.length<=1000):zb M _M [lv] H λ v H'=>aO Act.enc y8 3 H' v (ls ++ [⟨77,0,0⟩])/\(∀z,aM v z->H.au<=z)/\Fr Em H H':=by
 refine xc4 ?_;simp only[aa,bc,Vv];refine Jo (Own.nil H y8 3) hs (jY Act.one _) (by decide) (by omega) (by omega) λ v1 H1 o1 g j=>?_;have d:∀z,aM v1 z->H.au<=z:=λ z q=>(j z q).elim (λ e=>(e.1 rfl).elim) id;have c:Fr Em H H1:=g.trans (Fr.refl _) (λ z q=>.inl q) |>.mono λ z _ q=>(q.1 rfl).elim;rw[ya,ji]at o1;have f:Op.build [.int .i64 0,.int .i64 0,.int .i64 0] [(0,1)] [.int .i64 77]=B1 (.agg (Act.enc ⟨77,0,0⟩)):=rfl;simp only[aa,bc,Vv,f];refine aO.pK (bytes:=24) (show aO Act.enc y8 3 H1 v1 ls from o1) (x:=.agg (Act.enc ⟨77,0,0⟩)) (a:=⟨77,0,0⟩) rfl rfl rfl rfl (by decide) (by omega) (by omega) λ v2 o o2 h n=>?_;simp only[aa,bc,Vv];exact⟨o2,λ z q=>(n z q).elim (d z) λ e=>by have:=c.au;omega,c.trans h λ z q=>.inr (d z q)⟩
def xb0(hs:bN Act.enc 3 H lv ls)(t:i<ls.length)(hl:ls.length<=1000):zb M va [lv,.int .i64 (i:Int)] H λ v H'=>bN Act.enc 3 H' v (ls.eraseIdx i)/\Fr Em H H':=by
 refine q6e ?_;obtain⟨a,f,s1,_⟩:=bN.upto Act.len hs (k:=i) (by omega) (z:=(i:Int)) rfl .i64;have o:aj .i64 ((i:Int)+1)=((i+1:Nat):Int):=by rw[jb (by omega) (by omega)];omega
 obtain⟨b,g,s2,_⟩:=bN.from Act.len hs (k:=i+1) (by omega) (z:=((i+1:Nat):Int)) rfl .i64;have e1:=jx (i:=i) (l:=ls);have e2:=yg (i:=i+1) (l:=ls);simp only[aa,bc,VB,f];refine Jo (Own.nil H y8 3) s1 (jY Act.one _) (by decide) (by omega) (by omega) λ v1 H1 o1 h r=>?_;have c:Fr Em H H1:=h.mono λ z _ q=>(q.1 rfl).elim;have n:∀z,aM v1 z->H.au<=z:=λ z q=>(r z q).elim (λ e=>(e.1 rfl).elim) id;rw[ya,ji]at o1;simp only[aa,bc,VB,o,g];refine Jo o1 (Sl.em s2 c) (jY Act.one _) (by decide) (by omega) (by omega) λ v2 d o2 j u=>?_;simp only[aa,bc,VB];refine⟨?_,c.trans j λ z q=>.inr (n z q)⟩;rw[List.eraseIdx_eq_take_drop_succ];refine aO.sl (e:=y8) ?_;show Own d y8 3 v2 (ls.take i++ls.drop (i+1)).length ((ls.take i++ls.drop (i+1)).flatMap Act.enc);rw[xe,kh];exact o2
def G_(h:vZ H sv x0 ok){n:Nat}(hl:Op.cw [lv]=B1 (.int .i64 (n:Int)))(y:uv):zb M XU [.agg sv,lv,.agg (gf y)] H λ v H'=>Fr Em H H'/\(¬AQ ok y n/\v=.int .i64 2\/AQ ok y n/\v=.int .i64 0):=by
 suffices hq:zb M XU [.agg sv,lv,.agg (gf y)] H λ v H'=>Fr Em H H' /\ ∃m:Int,v=.int .i64 m/\(¬AQ ok y n/\m=2\/AQ ok y n/\m=0)from
  hq.mono λ v H'⟨f,m,e,r⟩=>⟨f,r.imp (λ⟨a,b⟩=>⟨a,by rw[e,b]⟩) λ⟨a,b⟩=>⟨a,by rw[e,b]⟩⟩
 refine xfs ?_;have⟨H1,e1,E,n1,I⟩:=cq H (OR sv vf);have⟨C,e2,c,n2,J⟩:=cq H1 (OR (gf y) zG);have z:=E.em c;have o:C.get H.au=B1 (OR sv vf):=(c.ah _ (by omega) id).trans I;obtain⟨a,p,u,q,O,L,N,Q,hn⟩:=(h.em z).new (M:=M) o;simp only[aa,bc,N5,<-e1,<-e2,O,L,N,Q];refine C3.q hn λ v D⟨A,r⟩=>?_;have F:=z.em A;have R:¬(2:Int)=0:=by decide
 rcases r with⟨no,rfl⟩|⟨yes,w,nb,rfl,nn,hw⟩
 .simp only[aa,bc,N5,aw,R];exact⟨F,_,rfl,.inl ⟨λ q=>no q.1,rfl⟩⟩
 have K:D.get H1.au=B1 (OR (gf y) zG):=(A.ah _ (by omega) id).trans J;obtain⟨g,-⟩:=Ai K
 by_cases d:y.kd<1
 .simp only[aa,bc,N5,aw,g,qv d];exact⟨F,_,rfl,.inl ⟨λ q=>by have:=q.2.1;omega,rfl⟩⟩
 by_cases j:4<y.kd
 .simp only[aa,bc,N5,aw,g,d,qv j];exact⟨F,_,rfl,.inl ⟨λ q=>by have:=q.2.2.1;omega,rfl⟩⟩
 by_cases t:(40:Int)<(n:Int)
 .simp only[aa,bc,N5,aw,g,d,j,hl,qv t];exact⟨F,_,rfl,.inl ⟨λ q=>by have:=q.2.2.2;omega,rfl⟩⟩
 .simp only[aa,bc,N5,aw,g,d,j,hl,t];exact⟨F,_,rfl,.inr ⟨⟨yes,by omega,by omega,by omega⟩,rfl⟩⟩
def X8(h:vZ H sv x0 ok)(J:ok)(hs:bN Act.enc 3 H lv ls)(hl:ls.length<=40)(hS:pL H)(y:uv):zb M qs7 [.agg sv,lv,.agg (gf y)] H λ v H'=>v=.bool (PW x0 y ls)/\Fr Em H H':=by
 refine q7s ?_;have⟨H1,e1,f1,n1,g1⟩:=cq H (OR sv vf);have⟨Z,e2,I,n2,g2⟩:=cq H1 (OR (gf y) zG);have O:=f1.em I;have T:Z.get H.au=B1 (OR sv vf):=(I.ah _ (by omega) id).trans g1;obtain⟨a,p,u,q,k4,t,k3,k8,hn⟩:=(h.em O).new (M:=M) T;have ln:=hs.len;simp only[aa,bc,yp,<-e1,<-e2,k4,t,k3,k8];refine C3.q hn λ v H3⟨f3,r⟩=>?_;rcases r with⟨no,_⟩|⟨_,w,nb,rfl,nn,hw⟩
 .exact (no J).elim
 have hz:=h.zero J;simp only[aa,bc,yp,aw,ln];refine b9.intro (λ n E Hx=>∃i:Nat,E=[(31,.int .i64 (i:Int)),(30,.int .i64 ((ls.length:Nat):Int)),(7,.ptr w 0),(5,.ptr H1.au 0),(1,lv)]/\AR Z nb w x0 ls i Hx/\n=ls.length-i/\i<=ls.length) ?_ ?_
 .exact ⟨_,_,⟨0,rfl,.new hw f3,rfl,xw _⟩,by simp only[aa,bc]⟩
 rintro n E Hx ⟨i,rfl,f,rfl,hi⟩
 by_cases d:i<ls.length
 .have q:(i:Int)<((ls.length:Nat):Int):=by omega
  obtain⟨a,ha⟩:∃a,ls[i]? = B1 a:=⟨_,xf d⟩
  have sx:=Sl.em hs (O.em f.fr);have ix:=(show bN Act.enc 3 Hx lv ls from sx).idx ha (z:=(i:Int)) rfl .i64;have ld:=(show bN Act.enc 3 Hx lv ls from sx).aq Act.len (by decide) ha;have K:aj .i64 ((i:Int)+1)=((i+1:Nat):Int):=by rw[jb (by omega) (by omega)];omega
  simp only[aa,bc,yp,qv q,ix,ld];refine C3.q (f.do ha hz (by omega) (hS.em O) nn) λ v H5 X=>?_;simp only[aa,bc,yp,K];exact⟨_,_,⟨i+1,rfl,X,rfl,d⟩,by simp only[aa,bc],by omega⟩
 have q:¬(i:Int)<((ls.length:Nat):Int):=by omega
 have F:=O.em f.fr;have U:Hx.get H1.au=B1 (OR (gf y) zG):=(f.fr.ah _ (by omega) id).trans g2;obtain⟨W,Q,h2⟩:=f.w;have ll:(ls.take i).length<=40:=by rw[jx];omega
 have xh:=Wo.yG (ls.take i) x0;rw[hz.1,jo]at xh;have xl:((x0.run (ls.take i)).1.b).l.length=x0.b.l.length:=congrArg C1 (Zi (ls.take i) x0);rw[zd (show ls.length<=i by omega)]at Q xh xl ll;have ep:PW x0 y ls=(x0.run ls).1.Pd y:=rfl;rw[ep];generalize(x0.run ls).1=x at *;have⟨j0,j1,j2,j3,j4,j5⟩:=Ai U;unfold Wo.Pd;simp only[aa,bc,yp,q,j1,xef Q y.co,aw,j0]
 by_cases A:y.kd=1
 .rw [xg A];simp only[aa,bc,yp,qv A,j2];refine C3.q (Ci Q (by omega) (by omega) y.ad) λ v H4⟨o,C⟩=>?_;subst o;obtain⟨-,-,-,i3,-⟩:=Ai ((C.ah _ (by have:=f.fr.au;omega) id).trans U)
  by_cases c:(x.b.tu y.ad).2=0
  .simp only[aa,bc,yp,aw,qv c,i3];exact F.em C
  .simp only[aa,bc,yp,aw,c];exact F.em C
 rw[qy A]
 by_cases D:y.kd=2
 .rw [xg D];simp only[aa,bc,yp,A,qv D];refine C3.q (xn2 Q (by omega)) λ o H4⟨R,C⟩=>?_;have g4:=(C.ah _ (by have:=f.fr.au;omega) id).trans U;have⟨i0,i1,Y,i3,i4,i5⟩:=Ai g4;have lh:=R.len;simp only[aa,bc,yp,lh];refine b9.intro (λ n E L=>∃i:Nat,E=[(73,.int .i64 (i:Int)),(72,.int .i64 ((x.h.length:Nat):Int)),(15,o),(14,.int .i64 (((x.h.take i).countP λ e=>decide (e.kind=y.ad/\e.core=y.co):Nat):Int)),(5,.ptr H1.au 0)]/\L=H4/\n=x.h.length-i/\i<=x.h.length) ?_ ?_
  .exact ⟨_,_,⟨0,rfl,rfl,rfl,xw _⟩,by simp only[aa,bc,yo,List.countP_nil]⟩
  rintro n E L ⟨i,rfl,rfl,rfl,hi⟩
  by_cases d:i<x.h.length
  .have q:(i:Int)<((x.h.length:Nat):Int):=by omega
   obtain⟨e,he⟩:∃e,x.h[i]? = B1 e:=⟨_,xf d⟩
   have ix:=R.idx he (z:=(i:Int)) rfl .i64;have l0:Op.ae [.ptr (aG o) (cJ 9 o i)] L=B1 (.int .i64 e.kind):=(R.iR Ta he (by decide)).trans rfl;have l2:Op.ae [.ptr (aG o) (cJ 9 o i+2)] L=B1 (.int .i64 e.core):=(R.ae Ta he (j:=2) (by decide)).trans rfl;have K:aj .i64 ((i:Int)+1)=((i+1:Nat):Int):=by rw[jb (by omega) (by omega)];omega
   have tk:x.h.take (i+1)=x.h.take i ++ [e]:=by rw[kq,he];rfl
   obtain⟨c,g⟩:∃c,c=(x.h.take i).countP λ e=>decide (e.kind=y.ad/\e.core=y.co):=⟨_,rfl⟩
   have cl:c<=i:=by rw[g];exact xx (List.countP_le_length) (by rw[jx];omega)
   have wc:aj .i64 ((c:Int)+1)=((c+1:Nat):Int):=by rw[jb (by omega) (by omega)];omega
   by_cases t:e.kind=y.ad
   .by_cases S:e.core=y.co
    .simp only[aa,bc,yp,qv q,ix,l0,Y,qv t,l2,i1,qv S,<-g,wc,K];refine⟨_,_,⟨i+1,rfl,rfl,d⟩,by simp only[aa,bc,tk,M4,<-g];simp[t,S],by omega⟩
    .simp only[aa,bc,yp,qv q,ix,l0,Y,qv t,l2,i1,S,<-g,K];refine⟨_,_,⟨i+1,rfl,rfl,d⟩,by simp only[aa,bc,tk,M4,<-g];simp[S],by omega⟩
   .simp only[aa,bc,yp,qv q,ix,l0,Y,t,<-g,K];refine⟨_,_,⟨i+1,rfl,rfl,d⟩,by simp only[aa,bc,tk,M4,<-g];simp[t],by omega⟩
  .have q:¬(i:Int)<((x.h.length:Nat):Int):=by omega
   simp only[aa,bc,yp,q,i4];rw[zd (by omega)];exact⟨rfl,F.em C⟩
 rw[qy D]
 by_cases N:y.kd=3
 .rw [xg N];simp only[aa,bc,yp,A,D,qv N];exact F
 .rw [qy N];simp only[aa,bc,yp,A,D,N];exact F
end
end Go.Am
namespace Go.Am
open Lang Go.Proofs
variable{M:ak}[MK M]
abbrev AcT:aT:=.part 0 B5 .int (.part 1 B5 .int (.part 2 B5 .int .nil))
def Qh(a b:Act):aY AcT (.agg a.enc) (.agg b.enc)=B1 (decide (a=b)):=by
 obtain⟨c,d,e⟩:=a;obtain⟨f,g,h⟩:=b;simp only[Act.enc,aY,partAt,jL,zk,z8,qr,sF,jN,Tv]
 by_cases j:c=f<;>by_cases n:d=g<;>by_cases o:e=h<;>simp[j,n,o]
section
variable{H:ar}{a b:AV}{l m:List Act}
def TD(f:bN Act.enc 3 H a l)(g:bN Act.enc 3 H b l)(hl:l.length<=100000):zb M A0 [a,b] H λ v H'=>v=.bool B4/\H'=H:=by
 refine xdy ?_;have n1:=f.len;have n2:=g.len;simp only[aa,bc,Vg,n1,n2];refine b9.intro (λ n E Hx=>∃i:Nat,E=[(5,.int .i64 (i:Int)),(0,a),(1,b)]/\Hx=H/\n=l.length-i/\i<=l.length) ?_ ?_
 .exact ⟨_,_,⟨0,rfl,rfl,rfl,xw _⟩,by simp only[aa,bc]⟩
 rintro n E Hx ⟨i,rfl,rfl,rfl,j⟩
 by_cases c:i<l.length
 .have q:(i:Int)<((l.length:Nat):Int):=by omega
  obtain⟨x,d⟩:∃x,l[i]? = B1 x:=⟨_,xf c⟩
  have h:aj .i64 ((i:Int)+1)=((i+1:Nat):Int):=by rw[jb (by omega) (by omega)];omega
  have e:Op.eq (.agg AcT) B4 [.agg x.enc,.agg x.enc] Hx=B1 (.bool B2):=U8 _ _ _ Hx B4 (by rw[Qh];simp);simp only[aa,bc,Vg,n1,qv q,f.idx d (z:=(i:Int)) rfl .i64,f.aq Act.len (by decide) d,g.idx d (z:=(i:Int)) rfl .i64,g.aq Act.len (by decide) d,e,h];exact⟨_,_,⟨i+1,rfl,rfl,c⟩,by simp only[aa,bc],by omega⟩
 .have q:¬(i:Int)<((l.length:Nat):Int):=by omega
  simp only[aa,bc,Vg,n1,q]
end
end Go.Am
namespace Go.Am
open Lang Go.Proofs
variable{M:ak}[MK M]
set_option maxHeartbeats 1000000 in
def qzz{H:ar}{sv:List AV}{lv:AV}{ls:List Act}{y:uv}(hS:pL H)(hA:kM H sv)(hs:bN Act.enc 3 H lv ls) :
 zb M Sn [.agg sv,lv,.agg (gf y)] H λ v _=>v=.bool true:=by
 have hl9:sv.length=9:=by have⟨_,_,_,_,_,_,_,_,_,_,_,e,_⟩:=hA;rw[e];rfl
 refine qsz ?_;have⟨H1,e1,f1,n1,g1⟩:=cq H (OR sv vf);have⟨H2,e2,f12,n2,g2⟩:=cq H1 (OR (gf y) zG);have F2:=f1.em f12;have g1':H2.get H.au=B1 (OR sv vf):=(f12.ah _ (by omega) id).trans g1;have bx:∀{Hx:ar},Fr Em H2 Hx->Op.aq 9 [.ptr H.au 0] Hx=B1 (.agg sv)/\Op.aq 5 [.ptr H1.au 0] Hx=B1 (.agg (gf y)):=λ{Hx}f=>⟨eI ((f.ah _ (by omega) id).trans g1') hl9,(Ai ((f.ah _ (by omega) id).trans g2)).2.2.2.2.2⟩
 simp only[aa,bc,zf,<-e1,<-e2,bx (Fr.refl _)];refine C3.q (xif (hA.em F2)) λ v H3⟨f3,d⟩=>?_;have D:¬(0:Int)<0:=by decide
 have c10:(0:Int)<1:=by decide
 rcases d with rfl|⟨rfl,x0,ok,hg⟩
 .simp only[aa,bc,zf,qv c10]
 have F3:=F2.em f3;have ln:=hs.len;have hg3:=hg.em f3
 suffices rest:∀E,lk E 1=B1 lv->lk E 3=B1 (.ptr H.au 0)->lk E 5=B1 (.ptr H1.au 0)->ls.length<=100 -> ¬(16<ls.length/\ls.length<=40)->W M ⟨B5,Sn⟩ (MX Sn 10) B4 (eH M [.tmp 6] (uj λ v _=>v=.bool B4)) E [] H3 by
  by_cases I:(16:Int)<((ls.length:Nat):Int)
  .by_cases S:((ls.length:Nat):Int)<=40
   .simp only[aa,bc,zf,D,ln,qv I,qv S]
   .by_cases g:(100:Int)<((ls.length:Nat):Int)
    .simp only[aa,bc,zf,D,ln,qv I,S,qv g]
    .simp only[aa,bc,D,ln,qv I,S,g];exact rest _ (by simp only[aa,bc]) (by simp only[aa,bc]) (by simp only[aa,bc]) (by omega) (by omega)
  .have g:¬(100:Int)<((ls.length:Nat):Int):=by omega
   simp only[aa,bc,D,ln,I,g];exact rest _ (by simp only[aa,bc]) (by simp only[aa,bc]) (by simp only[aa,bc]) (by omega) (by omega)
 intro E O k3 k5 l100 l1640;simp only[aa,bc,zf,O];refine C3.q (xnx (Sl.em hs F3) (by omega)) λ ov Y⟨oo,nw,f4⟩=>?_;have T:=f3.em f4;have F4:=F3.em f4;have so:∀{Hx:ar},Fr Em Y Hx->bN Act.enc 3 Hx ov (ls ++ [⟨77,0,0⟩]):=λ{Hx}f=>Sl.em (aO.sl oo) f;obtain⟨av,ca,_,_⟩:=bN.upto Act.len (so (Fr.refl _)) (k:=ls.length) (by rw[xe];omega) (z:=((ls.length:Nat):Int)) rfl .i64;have sa:∀{Hx:ar},Fr Em Y Hx->bN Act.enc 3 Hx av ls:=λ{Hx}f=>by
  obtain⟨av',ca',s,_⟩:=bN.upto Act.len (so f) (k:=ls.length) (by rw[xe];omega) (z:=((ls.length:Nat):Int)) rfl .i64;rw[ca]at ca';injection ca' with e;subst e
  rw[KG rfl]at s;exact s
 have h:=hg3.em f4;have R:(ls ++ [⟨77,0,0⟩])[ls.length]? = B1 ⟨77,0,0⟩:=by rw[z6 (qm _),FY];rfl
 simp only[aa,bc,zf,k3,k5,ln,bx T,ca];refine C3.q (xes h (sa (Fr.refl _)) (hS.em F4) y) λ v5 H5⟨u,r5⟩=>?_;have J:=T.em u;have U:=F4.em u;have q0:¬ ¬(0:Int)=0:=λ q=>q rfl;obtain⟨P,eP⟩:∃P,P=PW x0 y:=⟨_,rfl⟩
 rw[<-eP]at r5;have i77:=(so u).idx R (z:=((ls.length:Nat):Int)) rfl .i64;have l77:Op.ae [.ptr (aG ov) (cJ 3 ov ls.length)] H5=B1 (.int .i64 77):=(so u).iR Act.len R (by decide);have c77:¬ ¬(77:Int)=77:=λ q=>q rfl;rcases r5 with⟨n,rfl,hn,n0⟩|⟨o,hp,rv,rfl,hr,nr⟩
 .simp only[aa,bc,zf,aw,O,ln,ca];refine C3.q (TD (sa u) (Sl.em hs U) (by omega)) λ v X⟨d,j⟩=>?_;subst d;have j:=j.symm;subst j;simp only[aa,bc,zf,O,k3,k5,ln,i77,l77,c77,bx J];refine C3.q (G_ (h.em u) ln y) λ v8 H8⟨A,r8⟩=>?_;have l0:Op.cw [.nils]=B1 (.int .i64 0):=rfl;have t2:¬(2:Int)=0:=by decide
  have t280:¬(280:Int)=0:=by decide
  rcases hn with⟨no,rfl⟩|⟨o,hp,rfl⟩|⟨_,_,e⟩
  .obtain rfl:v8=.int .i64 2:=by
    rcases r8 with⟨_,e⟩|⟨q,_⟩
    .exact e
    .exact (no q).elim
   simp only[aa,bc,zf,t2,l0]
  .obtain rfl:v8=.int .i64 0:=by
    rcases r8 with⟨q,_⟩|⟨_,e⟩
    .exact (q o).elim
    .exact e
   simp only[aa,bc,zf,O,k3,k5,bx (J.em A)];refine C3.q (X8 (h.em (u.em A)) o.1 (Sl.em hs (U.em A)) o.2.2.2 (hS.em (U.em A)) y) λ v H9⟨d,f9⟩=>?_;subst d;rw[<-eP,hp];simp only[aa,bc,zf,t280,l0]
  .exact (n0 e).elim
 simp only[aa,bc,zf,aw,O,ln,ca];refine C3.q (TD (sa u) (Sl.em hs U) (by omega)) λ v X⟨d,j⟩=>?_;subst d;have j:=j.symm;subst j;simp only[aa,bc,zf,O,k3,k5,ln,i77,l77,c77,bx J];refine C3.q (G_ (h.em u) ln y) λ v8 H8⟨A,r8⟩=>?_;obtain rfl:v8=.int .i64 0:=by
  rcases r8 with⟨q,_⟩|⟨_,e⟩
  .exact (q o).elim
  .exact e
 have l40:=o.2.2.2;simp only[aa,bc,zf,O,k3,k5,bx (J.em A)];refine C3.q (X8 (h.em (u.em A)) o.1 (Sl.em hs (U.em A)) l40 (hS.em (U.em A)) y) λ v H9⟨d,f9⟩=>?_;subst d;rw[<-eP,hp];have f49:=(u.em A).em f9;have F9:=F4.em f49;simp only[aa,bc,zf,q0,O];refine Jo (Own.nil H9 y8 3) (Sl.em hs F9) (jY Act.one _) (by decide) (by omega) (by omega) λ wv Ha oa fa za=>?_;have fa:Fr Em H9 Ha:=fa.mono λ z _ q=>(q.1 rfl).elim;rw[ya,ji]at oa;have sw:bN Act.enc 3 Ha wv ls:=aO.sl (e:=y8) oa;have f4a:=f49.em fa;simp only[aa,bc,zf];refine b9.intro (λ n E Hx=>∃(r:Nat)(lw:AV),E=[(13,.int .i64 (r:Int)),(12,lw),(9,.int .i64 0),(8,rv),(7,ov),(5,.ptr H1.au 0),(3,.ptr H.au 0),(1,lv)]/\Fr Em Y Hx/\Fr Em H5 Hx/\bN Act.enc 3 Hx lw (lG P r ls)/\n=ls.length+1-r/\r<=ls.length+1) ?_ ?_
 .exact ⟨_,_,⟨0,wv,rfl,f4a,(A.em f9).em fa,sw,rfl,xw _⟩,by simp only[aa,bc,O,k3,k5]⟩
 rintro n E Hx ⟨r,lw,rfl,fx,f5x,sl,rfl,hr1⟩;have sub:(lG P r ls).Sublist ls:=YL P (Q:=λ m=>m.Sublist ls) (λ m q=>(Ph P _ m).trans q) r ls (.refl ls);obtain⟨cur,t⟩:∃cur,cur=lG P r ls:=⟨_,rfl⟩
 rw[<-t]at sl sub;have cl:=sub.length_le
 by_cases hlt:r<=ls.length
 .have q:(r:Int)<=((ls.length:Nat):Int):=by omega
  have wr:aj .i64 ((r:Int)+1)=((r+1:Nat):Int):=by rw[jb (by omega) (by omega)];omega
  have lc:=sl.len;have w1:aj .i64 ((cur.length:Int)-1)=(cur.length:Int)-1:=jb (by omega) (by omega);simp only[aa,bc,zf,ln,qv q,lc,w1];refine b9.intro (λ n E C=>∃(z:Int)(lx:AV)(l:List Act),E=[(14,.int .i64 z),(13,.int .i64 (r:Int)),(12,lx),(9,.int .i64 0),(8,rv),(7,ov),(5,.ptr H1.au 0),(3,.ptr H.au 0),(1,lv)]/\Fr Em Y C/\Fr Em H5 C/\bN Act.enc 3 C lx l /\ -1<=z/\z<l.length/\Et P (z+1).toNat l=lQ P cur/\l.length<=cur.length/\n=(z+1).toNat) ?_ ?_
  .exact ⟨_,_,⟨(cur.length:Int)-1,lw,cur,rfl,fx,f5x,sl,by omega,by omega,by rw[show((cur.length:Int)-1+1).toNat=cur.length by omega];rfl,qm _,rfl⟩,by simp only[aa,bc]⟩
  rintro n E C ⟨z,lx,l,rfl,K,f5y,sx,z1,z2,c,lle,rfl⟩
  by_cases z0:0<=z
  .obtain ⟨k,rfl⟩:=jk z0;have wk:aj .i64 ((k:Int)-1)=(k:Int)-1:=jb (by omega) (by omega);have ek:((k:Int)+1).toNat=k+1:=by omega
   rw[ek,Et]at c;have el:(l.eraseIdx k).length=l.length-1:=List.length_eraseIdx_of_lt (by omega);simp only[aa,bc,zf,qv z0];refine C3.q (xb0 sx (by omega) (by omega)) λ xv Hb⟨sb,Z⟩=>?_;have f2b:=(T.em K).em Z;simp only[aa,bc,zf,bx f2b];refine C3.q (X8 (h.em (K.em Z)) o.1 sb (by omega) (hS.em (F4.em (K.em Z))) y) λ v Hc⟨d,fc⟩=>?_;subst d;rw[<-eP];have fyc:=(K.em Z).em fc;have f5c:=(f5y.em Z).em fc;cases hpp:P (l.eraseIdx k)with
   |true =>
    rw[hpp,xg rfl]at c;simp only[aa,bc,zf,wk];exact⟨_,_,⟨(k:Int)-1,xv,l.eraseIdx k,rfl,fyc,f5c,Sl.em sb fc,by omega,by omega,by rw[show((k:Int)-1+1).toNat=k by omega];exact c,by omega,rfl⟩,by simp only[aa,bc],by omega⟩
   |false =>
    rw[hpp,qy (by decide)]at c;simp only[aa,bc,zf,wk];exact⟨_,_,⟨(k:Int)-1,lx,l,rfl,fyc,f5c,Sl.em sx (Z.em fc),by omega,by omega,by rw[show((k:Int)-1+1).toNat=k by omega];exact c,lle,rfl⟩,by simp only[aa,bc],by omega⟩
  .rw [show(z+1).toNat=0 by omega]at c;have c:l=lQ P cur:=c;simp only[aa,bc,zf,z0,wr];exact⟨_,_,⟨r+1,lx,rfl,K,f5y,by rw[Yh,<-t];show bN Act.enc 3 C lx (lQ P cur);rw[<-c];exact sx,rfl,by omega⟩,by simp only[aa,bc],by omega⟩
 -- behind the rounds
 have q:¬(r:Int)<=((ls.length:Nat):Int):=by omega
 have ec:cur=shr P ls:=by rw[t,show r=ls.length+1 by omega];rfl
 rw[ec]at sl;have L:=hr.em f5x;have lr:=L.1.len;simp only[aa,bc,zf,ln,q,q0];refine C3.q (TD L.1 sl (by rw[<-ec];omega)) λ v X⟨d,j⟩=>?_;subst d;have j:=j.symm;subst j;simp only[aa,bc,zf,lr];have ml:=(HX P ls).length_le;generalize hm:shr P ls=m at *;refine b9.intro (λ n E C=>∃i:Nat,E=[(121,.int .i64 (i:Int)),(120,.int .i64 ((m.length:Nat):Int)),(8,rv),(7,ov),(1,lv)]/\Fr Em Y C/\(m=[] \/ ∃b mm cells,rv=.gslice b 0 mm 3 0 m.length/\b<C.au/\Y.au<=b/\m.length*3<=cells.length/\C.get b=B1 (.grown mm 3 cells y8 (0,0)))/\n=m.length-i/\i<=m.length) ?_ ?_
 .refine ⟨_,_,⟨0,rfl,fx,?_,rfl,xw _⟩,by simp only[aa,bc]⟩;rcases L.2 with e|⟨b,mm,rest,e,b1,b2,b3⟩
  .exact .inl e
  .exact .inr ⟨b,mm,_,e,b1,nr b (by rw[e];exact⟨by simp,rfl⟩),by rw[xe,L9];omega,b3⟩
 rintro n E C ⟨i,rfl,K,hc,rfl,hi⟩
 by_cases N:i<m.length
 .have q:(i:Int)<((m.length:Nat):Int):=by omega
  have wi:aj .i64 ((i:Int)+1)=((i+1:Nat):Int):=by rw[jb (by omega) (by omega)];omega
  obtain⟨a,ha⟩:∃a,m[i]? = B1 a:=⟨_,xf N⟩
  have ix:=L.1.idx ha (z:=(i:Int)) rfl .i64;rcases hc with e|⟨b,mm,cells,e,b1,b2,b3,b4⟩
  .rw [e]at N;cases N
  have st:=Te b4 (o:=i*3) (n:=1) (v:=.int .i64 99) rfl (by omega) rfl;have eo:cJ 3 rv i=i*3:=by rw[e];show 0*3+i*3=_;omega
  have eb:aG rv=b:=by rw[e];rfl
  rw[eo,eb]at ix;simp only[aa,bc,zf,qv q,ix,st,wi];exact⟨_,_,⟨i+1,rfl,K.set (.inr b2) _,.inr ⟨b,mm,_,e,b1,b2,by simp only[xe,jx,yg,_j,zt,jo];omega,xb ..⟩,rfl,N⟩,by simp only[aa,bc],by omega⟩
 .have q:¬(i:Int)<((m.length:Nat):Int):=by omega
  simp only[aa,bc,zf,q,ln,ca];refine C3.q (TD (sa K) (Sl.em hs (F4.em K)) (by omega)) λ v X⟨d,j⟩=>?_;subst d;simp only[aa,bc,zf]
end Go.Am
