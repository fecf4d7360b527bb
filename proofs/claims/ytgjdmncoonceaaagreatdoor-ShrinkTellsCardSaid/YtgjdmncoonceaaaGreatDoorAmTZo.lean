import Derived.Test.YtgjdmncoonceaaaGreatDoorAmTZe
import Derived.Test.YtgjdmncoonceaaaGreatDoorAmTZn
import Derived.Test.YtgjdmncoonceaaaGreatDoorAmTZa
import Derived.Test.YtgjdmncoonceaaaGreatDoorAmTZf
set_option linter.defProp false
set_option linter.unusedVariables false
set_option linter.unusedSimpArgs false
set_option linter.unusedSectionVars false
set_option maxRecDepth 100000
open Bool renaming false→B2,true→B4
open False renaming elim→ND
open Go renaming DataW→Ph,IntKind→OM,MemPlace→BE,Program→Jl,TypeId→Lx,Value→K1,World→N6
open Go.DataW renaming trod→Nd,weights→Bm,weightsEach→CA
open List renaming drop_left'→Ci,find?_eq_none→CQ,range→MX,replicate→Ji
open Nat renaming beq→JW,blt→OO
open Option renaming none→B5,some→B1
open Prod renaming snd→C4
open Nat renaming reduceEqDiff→bc
namespace Go.Am
open Go.RowKit
section
variable{P:Jl}
def Wt(P:Jl)(t:Lx){Hh:Type}(d:Ph Hh):Prop:=∀x∈Bm P t d,x<=reachBytes
theorem xhn{c:Type}{e:Lx}{x:Nat}{d:Ph c}:∀{l:List (Ph c)},d∈l->x∈Bm P e d->x∈Ph.weightsAll P e l
 |y::l,h,hx=>by
  rw[Ph.weightsAll,jm];rcases kw.1 h with rfl|h
  .grind
  .exact .inr (xhn h hx)
def qJ(P:Jl)(t:Lx)(R:ar->List AV->Prop):Prop :=
 (∀H H' l,R H l->Fr Em H H'->R H' l) /\ ∀{Hh:Type}(enc:Lx×K1->Hh)(W:N6)(held:Bool)(fuel:Nat)(cs:List K1)(d:Ph Hh)(ps:List BE),
  Nd enc P W 0 (λ _=>B4) held fuel t cs=B1 (d,ps)->Wt P t d -> ∀(θ:Th)(n:Nat)(gl:GL),Good W θ n gl -> ∃θ' n' gl' l,Step W θ n gl θ' n' gl'/\bN (Lt n') θ' l cs/\R (sC gl' n') l
def Y8.JD{t:Lx}{R:ar->List AV->Prop}(h:Y8 P t R):qJ P t R:=⟨h.1,λ enc W held fuel cs d e c _=>h.2 enc W held fuel cs d e c⟩
def _v{e:Lx}{R:ar->List AV->Prop}(hR:qJ P e R){t:Type}(enc:Lx×K1->t)(W:N6)(held:Bool)(fuel:Nat):∀(c:List (List K1)),(∀cs∈c,∃x,Nd enc P W 0 (λ _=>B4) held fuel e cs=B1 x/\Wt P e x.1) ->
 ∀(θ:Th)(n:Nat)(d:GL),Good W θ n d -> ∃(θ':Th)(n':Nat)(f:GL)(ls:List (List AV)),Step W θ n d θ' n' f/\bN (Lt n') θ' ls.flatten c.flatten/\ls.length=c.length /\ ∀(i:Nat)l cs,ls[i]? = B1 l->c[i]? = B1 cs->R (sC f n') l/\l.length=cs.length
 |[],_,θ,n,d,hg=>⟨θ,n,d,[],Step.refl hg,.nil,rfl,λ i l cs h=>by grind⟩
 |cs::c,h,θ,n,d,hg=>by
  have⟨x,u,hw⟩:=h cs (by simp);have⟨θ1,n1,g,l,s1,v1,v⟩:=hR.2 enc W held fuel cs x.1 x.2 u hw θ n d hg;have⟨θ2,n2,j,ls,s2,v2,A,C⟩:=_v hR enc W held fuel c (by grind) θ1 n1 g s1.du;refine⟨θ2,n2,j,l::ls,s1.trans s2,?_,by grind,λ i z cs' o r=>?_⟩
  .rw [List.flatten_cons,List.flatten_cons];exact(v1.up s2.ag λ b hb=>qn hb s2.le).app v2
  .cases i with
   |zero =>
    simp at o r;subst o;subst r;exact⟨hR.1 _ _ _ v s2.fr,v1.length.symm⟩
   |succ i=>grind
def SlW(P:Jl)(e:Lx)(R:ar->List AV->Prop)(size:Nat)(H:ar)(u:AV):Prop:=Ib R size H u /\ ∀k,eN u=B1 k->k*P.bytesOf e<=reachBytes
def S3{t e:Lx}{R:ar->List AV->Prop}(ht:P.underlying t=B1 (.slice e))(hR:qJ P e R)(hs:0<P.cellsOf e):qJ P t λ H l=>∃u,l=[u]/\SlW P e R (P.cellsOf e) H u:=by
 refine⟨λ H H' l⟨u,z,h2,h3⟩f=>⟨u,z,h2.em hR.1 f,h3⟩,?_⟩;intro Hh enc W held fuel kX d ps h S θ n gl hg;cases fuel with
 |zero=>cases h
 |succ f =>
  have key:kX=[.slice B5 0 0] \/ ∃a len cap,kX=[.slice (B1 a) len cap]/\len<=cap/\(∀i,i<len -> ∃cs x,W.cells? 0 (a.add (i*P.cellsOf e)) (P.cellsOf e)=B1 cs/\Nd enc P W 0 (λ _=>B4) held f e cs=B1 x/\Wt P e x.1)/\len*P.bytesOf e<=reachBytes/\(len<cap -> ∃cs,W.cells? 0 (a.add (len*P.cellsOf e)) (P.cellsOf e)=B1 cs):=by
   simp only[Nd,ht]at h;split at h<;>first|(cases h;done)|skip
   all_goals first|(rename_i z;cases z;done)|skip
   .left;rfl
   .right;rename_i e' a len cap z;injection z with z;cases z
    split at h
    .rename_i hb;simp only[qj,vG,xr]at h;have⟨elems,he,rest,j,L⟩:=h;injection L with L _
     have hw1:=S ((elems.length+rest.length)*P.bytesOf e) (by grind [Bm]);have hel0:elems.length=len:=by have:=mapM_some_length he;simpa using this
     refine⟨a,len,cap,rfl,hb.2.1,λ i U=>?_,(by grind),λ hlt=>?_⟩
     .have hl:=mapM_some_length he;have:=mapM_some_get he i i (by grind);have C:i<elems.length:=by omega
      rw[xf C]at this;have⟨cs,v,I⟩:=qj.1 this;refine⟨cs,_,v,I,λ x hx=>S x ?_⟩
      grind [Bm,xhn,List.mem_map_of_mem,List.getElem_mem]
     .have hl:=mapM_some_length j;have:=mapM_some_get j 0 0 (by grind);have C:0<rest.length:=by grind
      rw[xf C,Ah]at this
      grind [qj]
    .cases h
  rcases key with rfl|⟨a,len,cap,rfl,hlc,Y,J,j⟩
  .exact ⟨θ,n,gl,[.nils],Step.refl hg,λ _ _=>rfl,.nils,rfl,⟨[],by simp,⟨by simp,rfl⟩,.inl rfl⟩,(λ k hk=>by cases hk;simp)⟩
  .have ⟨k,o,s⟩:=a
   by_cases h0:cap=0
   .subst h0;have:len=0:=by omega
    subst this;have hst:=Step.ON hg k o (tu s);refine⟨_,_,_,[.eslice n],hst,.one ?_,.eslice n,rfl,⟨[],by simp,⟨by simp,rfl,zr n⟩,.inr (zr n)⟩,(λ k hk=>by cases hk;simp)⟩;intro θ' hθ;have⟨v,I,q3⟩:=θ.eV n k o (tu s);have⟨r1,r2,r3⟩:=hθ n (zr n)
    grind [aB,DL]
   .have hsp:s=none:=by
     by_cases E:len=0
     .subst E;have⟨cs,A⟩:=j (by omega);rw[AN]at A;exact qwu hs (by simpa[Addr.add]using A)
     .have ⟨cs,x,A,_,_⟩:=Y 0 (by omega);rw[AN]at A;exact qwu hs (by simpa[Addr.add]using A)
    subst hsp
    by_cases E:len=0
    .subst E;refine⟨_,_,_,[.slice n 0 0 cap],Step.bare hg k o,.one ?_,.slice n 0 0 cap,rfl,⟨[],by simp,⟨by simp,rfl,xw _,.inl rfl⟩,.inr (zr n)⟩,(λ k hk=>by cases hk;simp)⟩;have:=VR.slice (D:=Lt (n+1)) (θ:=θ.add n k o 0) (b:=n) (o:=0) (n:=0) (c:=cap) (zr n:Lt (n+1) n);have⟨v,I,_⟩:=θ.eV n k o 0
     grind [aB]
    .have hex:∀i:Nat,∃cs,i<len->W.cells? 0 ⟨k,o+i*P.cellsOf e,B5⟩ (P.cellsOf e)=B1 cs /\ ∃x,Nd enc P W 0 (λ _=>B4) held f e cs=B1 x/\Wt P e x.1:=λ i=>by
      by_cases U:i<len
      .grind [zJ]
      .exact ⟨[],λ h=>(U h).elim⟩
     have⟨F,hF⟩:=Classical.axiomOfChoice hex
     let css:=(MX len).map F
     have hcl:css.length=len:=by grind
     have hcg:∀(i:Nat)c,css[i]? = B1 c->i<len/\c=F i:=λ i c A=>by
      grind
     have⟨arr,e',fz,hh,_,_⟩:=ZJ hs (hF 0 (by omega)).1;have⟨arr',e2,fz2,g,_,hle⟩:=ZJ hs (hF (len-1) (by omega)).1;rw[hh]at g;injection g with g;injection g with v I q3;subst v
     have hmul:(len-1)*P.cellsOf e+P.cellsOf e=len*P.cellsOf e:=by rw[<-vi];grind
     have Q:∀(i:Nat)c,css[i]? = B1 c->c=(arr.toList.drop (o+i*P.cellsOf e)).take (P.cellsOf e)/\c.length=P.cellsOf e:=λ i c A=>by
      grind [ZJ]
     have K:css.flatten=(arr.toList.drop o).take (len*P.cellsOf e):=by grind [R2]
     have⟨θ1,n1,X,ls,s1,v1,l1,r1⟩:=_v hR enc W held f css (by grind) θ n gl hg;rw[K]at v1;have hsz:o+len*P.cellsOf e<=arr.size:=by omega
     have O:ls.length=len:=by omega
     have Z:ls.flatten.length=len*P.cellsOf e:=by rw[<-v1.length,js,yk,Array.length_toList];omega
     have r:=Step.row (l:=ls.flatten) (k:=k) (off:=o) (pre:=arr.toList.take o) (cs:=(arr.toList.drop o).take (len*P.cellsOf e)) (post:=arr.toList.drop (o+len*P.cellsOf e)) (e:=e') (fz:=fz) s1.du (by
      rw[hh];congr 2;have hq:arr.toList.take o++(arr.toList.drop o).take (len*P.cellsOf e)++arr.toList.drop (o+len*P.cellsOf e)=arr.toList:=by
       grind [FU,yr]
      rw[hq]) (by grind) v1
     refine⟨_,_,_,[.slice n1 0 len cap],s1.trans r,.one ?_,.slice n1 0 len cap,rfl,⟨ls,λ l hl=>?_,⟨by grind,O.symm,by omega,.inr ⟨zr n1,ls.flatten,xb (fz:=(0,0)) (e:=0) (ow:=B2) ?_,?_⟩⟩,.inr (zr n1)⟩,λ k hk=>by cases hk;exact J⟩
     .have:=VR.slice (D:=Lt (n1+1)) (θ:=θ1.add n1 k o 0) (b:=n1) (o:=0) (n:=len) (c:=cap) (zr n1:Lt (n1+1) n1);have⟨v,I,_⟩:=θ1.eV n1 k o 0
      grind [aB]
     .have ⟨i,U⟩:=List.mem_iff_getElem?.1 hl;have N:i<css.length:=by grind
      have⟨v,I⟩:=r1 i l css[i] U (by simp[N]);exact⟨hR.1 _ _ _ v r.fr,by rw[I];exact(Q i _ (by simp[N])).2⟩
     .show (Fo ((n1,ls.flatten)::X) .nil).get n1=_;rw[Fo,T.aK,xg rfl]
     .rw [O,tR,xg (by omega),yw,za (by omega)]
def DY:List (ar->List AV->Prop)->ar->List AV->Prop
 |[],_,l=>l=[]
 |R::Rs,H,l=>∃a b,l=a++b/\R H a/\DY Rs H b
def DY.em:∀{Rs:List (ar->List AV->Prop)},(∀R∈Rs,∀H H' l,R H l->Fr Em H H'->R H' l) -> ∀H H' l,DY Rs H l->Fr Em H H'->DY Rs H' l
 |[],_,_,_,_,h,_=>h
 |R::Rs,hm,H,H',l,⟨a,b,h1,h2,h3⟩,f=>⟨a,b,h1,hm R (by simp) _ _ _ h2 f,DY.em (λ S c=>hm S (by grind)) _ _ _ h3 f⟩
def _L{t:Type}(enc:Lx×K1->t)(W:N6)(held:Bool)(fuel:Nat){cs:List K1}:∀{fs:List (Lx×Nat×(ar->List AV->Prop))}{k:Nat}{xs:List (Ph t×List BE)},
 (∀f∈fs,qJ P f.1 f.2.2)->(∀(j:Nat)f,fs[j]? = B1 f->f.2.1=k+((fs.take j).map λ f=>P.cellsOf f.1).sum) ->
 fs.mapM (λ f=>Nd enc P W 0 (λ _=>B4) held fuel f.1 ((cs.drop f.2.1).take (P.cellsOf f.1)))=B1 xs->(∀x∈CA P (fs.map (·.1)) (xs.map (·.1)),x<=reachBytes) ->
 k+(fs.map λ f=>P.cellsOf f.1).sum<=cs.length -> ∀(θ:Th)(n:Nat)(c:GL),Good W θ n c ->
 ∃θ' n' d l,Step W θ n c θ' n' d/\bN (Lt n') θ' l ((cs.drop k).take ((fs.map λ f=>P.cellsOf f.1).sum))/\DY (fs.map (·.2.2)) (sC d n') l
 |[],k,xs,_,_,_,_,_,θ,n,c,hg=>⟨θ,n,c,[],Step.refl hg,by simpa using bN.nil,rfl⟩
 |f::fs,k,xs,hf,ho,hm,hw,hl,θ,n,c,hg=>by
  simp only[List.mapM_cons,Option.bind_eq_bind,qj,Option.pure_def,qk]at hm;obtain⟨y,v,ys,r,rfl⟩:=hm;simp only[kh,CA,jm]at hw;have u:f.2.1=k:=by have:=ho 0 f rfl;simpa using this
  have⟨θ1,n1,e,a,s1,v1,z⟩:=(hf f (by simp)).2 enc W held fuel _ y.1 y.2 v (λ x o=>hw x (.inl o)) θ n c hg;simp only[kh,List.sum_cons]at hl;have⟨θ2,n2,h,b,s2,v2,A⟩:=_L enc W held fuel (cs:=cs) (fs:=fs) (k:=k+P.cellsOf f.1) (by grind) (λ j g hg=>by
   have:=ho (j+1) g (by simpa using hg)
   grind) r (λ x o=>hw x (.inr o)) (by omega) θ1 n1 e s1.du
  refine⟨θ2,n2,h,a++b,s1.trans s2,?_,a,b,rfl,(hf f (by simp)).1 _ _ _ z s2.fr,A⟩;rw[u]at v1;rw[kh,List.sum_cons,List.take_add,FU];exact(v1.up s2.ag λ b hb=>qn hb s2.le).app v2
def z'{H:Type}{g:Lx->List K1->Option (Ph H×List BE)}{cs:List K1}:∀{fs:List Field}{Rs:List (ar->List AV->Prop)},fs.length=Rs.length ->
 fs.mapM (λ f=>g f.type ((cs.drop f.offset).take (P.cellsOf f.type)))=((fs.zip Rs).map λ x=>(x.1.type,x.1.offset,x.2)).mapM (λ f=>g f.1 ((cs.drop f.2.1).take (P.cellsOf f.1)))
 |[],[],_=>rfl
 |f::fs,R::Rs,h=>by simp only[List.zip_cons_cons,kh,List.mapM_cons,z' (fs:=fs) (Rs:=Rs) (by simpa using h)]
def Zk{t:Lx}{fs:Array Field}{Rs:List (ar->List AV->Prop)}(h:P.underlying t=B1 (.struct fs))(hn:fs.toList.length=Rs.length)(hR:∀x∈fs.toList.zip Rs,qJ P x.1.type x.2)
 (ho:Fu P 0 fs.toList=B4) (L:(fs.toList.map λ f=>P.cellsOf f.type).sum=P.cellsOf t):qJ P t λ H l=>DY Rs H l:=by
 refine⟨DY.em λ R o=>?_,?_⟩
 .have ⟨i,N⟩:=List.mem_iff_getElem?.1 o;have D:i<fs.toList.length:=by grind
  have I:(fs.toList.zip Rs)[i]? = B1 (fs.toList[i],R):=by grind
  exact(hR _ (zd I)).1
 intro J enc W held fuel cs d Q e u θ n A hg;cases fuel with
 |zero=>cases e
 |succ f =>
  have hlen:cs.length=P.cellsOf t /\ ∃xs,fs.toList.mapM (λ g=>Nd enc P W 0 (λ _=>B4) held f g.type ((cs.drop g.offset).take (P.cellsOf g.type)))=B1 xs /\ ∀x∈CA P (fs.toList.map (·.type)) (xs.map (·.1)),x<=reachBytes:=by
   simp only[Nd,h]at e;split at e
   .rename_i hl;have⟨xs,hm,c⟩:=xr.1 e;injection c with c _
    exact⟨hl,xs,hm,λ x O=>u x (by grind [Bm])⟩
   grind
  have⟨hl,xs,hm,hw⟩:=hlen;rw[z' (Rs:=Rs) hn]at hm;have e1:((fs.toList.zip Rs).map λ x=>(x.1.type,x.1.offset,x.2)).map (λ f=>P.cellsOf f.1)=fs.toList.map λ f=>P.cellsOf f.type:=by
   rw[AF];have:((fs.toList.zip Rs).map λ x=>P.cellsOf x.1.type)=(fs.toList.zip Rs |>.map Prod.fst).map λ f=>P.cellsOf f.type:=by simp_all
   rw[List.map_fst_zip (by omega)]at this;exact this
  have K:((fs.toList.zip Rs).map λ x=>(x.1.type,x.1.offset,x.2)).map (·.1)=fs.toList.map (·.type):=by
   rw[AF];have:((fs.toList.zip Rs).map λ x=>x.1.type)=(fs.toList.zip Rs |>.map Prod.fst).map (·.type):=by simp_all
   rw[List.map_fst_zip (by omega)]at this;exact this
  have e2:((fs.toList.zip Rs).map λ x=>(x.1.type,x.1.offset,x.2)).map (·.2.2)=Rs:=by
   rw[AF];have:((fs.toList.zip Rs).map λ x=>x.2)=Rs:=by grind [List.map_snd_zip]
   exact this
  have⟨θ',n',C,l,s,v,r⟩:=_L enc W held f (cs:=cs) (k:=0) (fs:=(fs.toList.zip Rs).map λ x=>(x.1.type,x.1.offset,x.2)) (by grind) (λ j g hg=>by
   simp only[xq,xr,List.getElem?_zip_eq_some]at hg;obtain⟨x,⟨z,E⟩,rfl⟩:=hg;have:=DM ho j x.1 z;simp_all) hm (by grind) (by grind) θ n A hg
  grind
end
end Go.Am
namespace Go.Am
open Go.RowKit
section
variable{P:Jl}
def qJ.imp{t:Lx}{R c:ar->List AV->Prop}(h:qJ P t R)(hm:∀H H' l,c H l->Fr Em H H'->c H' l)(g:∀H l,R H l->c H l):qJ P t c :=
 ⟨hm,λ enc W held fuel cs d o j hw θ n f hg=>by
  obtain⟨θ',n',e,l,s,v,r⟩:=h.2 enc W held fuel cs d o j hw θ n f hg;exact⟨θ',n',e,l,s,v,g _ _ r⟩⟩
def TB{α β:Type}{f:α->Lx}{Q:Lx -> β->Prop}:∀(l:List α)(R:List β),(∀x∈(l.map f).zip R,Q x.1 x.2) -> ∀x∈l.zip R,Q (f x.1) x.2
 |[],_,_,x,h=>by simp at h
 |_::_,[],_,x,h=>by simp at h
 |a::l,b::R,hq,x,h=>by
  rcases kw.1 h with rfl|h
  .exact hq (f a,b) (by simp)
  .exact TB l R (λ y c=>hq y (by simp[c])) x h
def Xu{tS e:Lx}{fs:Array Field}{n:Nat}(uS:P.underlying tS=B1 (.struct fs))(c:fs.toList.map (·.type)=Ji n e)(uN:P.underlying e=B1 (.int .i64))(j:Fu P 0 fs.toList=B4)(o:(fs.toList.map λ f=>P.cellsOf f.type).sum=P.cellsOf tS) :
 qJ P tS λ H l=>DY (Ji n λ _ l=>kB .i64 l) H l:=by
 have hn:fs.toList.length=n:=by have:=congrArg List.length c;simpa using this
 refine Zk uS (by rw[hn];simp) (TB (f:=Field.type) (Q:=qJ P) _ _ ?_) j o;rw[c];intro x d;have g:=(List.of_mem_zip d).1;have h:=(List.of_mem_zip d).2;rw[vr g,vr h];exact(Ja (Jd uN)).JD
end
end Go.Am
namespace Go.Am
open Go.RowKit Lang
section
variable{P:Jl}
def UF(l c s w:Int)(pv:AV)(f so sf:Int)(fv:AV):List AV:=[.int .i64 l,.int .i64 c,.int .i64 s,.int .i64 w,pv,.int .i64 f,.int .i64 so,.int .i64 sf,fv]
def vM(H:ar)(u:AV):Prop:=u=.nils\/aE u<H.au
def vM.em{H H':ar}{u:AV}(h:vM H u)(f:H.au<=H'.au):vM H' u:=h.imp id λ q=>qn q f
def vM.lt{α:Type}{enc:α->List AV}{size:Nat}{H:ar}{u:AV}{xs:List α}(h:vM H u)(hs:bI enc size H u xs)(c:xs≠[]):aE u<H.au:=by
 rcases h with rfl|h
 .exact (c (jz.1 hs.2)).elim
 .exact h
def Ib.FH{R:ar->List AV->Prop}{size:Nat}{H:ar}{u:AV}(h:Ib R size H u):vM H u:=by
 have⟨_,_,_,q⟩:=h;exact q
def kF(H:ar)(u:List AV):Prop:=∃l c s w f so sf pv fv ps fs,u=UF l c s w pv f so sf fv/\bI mh 1 H pv ps/\(∀p∈ps,bI gU 1 H p.1 p.2/\Bytes p.2/\vM H p.1/\p.2.length<=reachBytes)/\bI cD 8 H fv fs/\(∀x∈fs,x.u)/\vM H fv/\ps.length<=reachBytes
def kF.em{H H':ar}{u:List AV}(h:kF H u)(fr:Fr Em H H'):kF H' u:=by
 have⟨l,c,s,w,f,so,v,pv,fv,t,fs,e,g,d,j,n,o,r⟩:=h;exact⟨l,c,s,w,f,so,v,pv,fv,t,fs,e,g.em fr,λ p q=>⟨(d p q).1.em fr,(d p q).2.1,(d p q).2.2.1.em fr.au,(d p q).2.2.2⟩,j.em fr,n,o.em fr.au,r⟩
def wf_u8{a:Int}(h:(Lit.int .u8 a).wf=B4):0<=a/\a<256:=by
 simp[Lit.wf,OM.min,OM.max,IntKind.bits,IntKind.signed]at h;omega
def wf_u64{a:Int}(h:(Lit.int .u64 a).wf=B4):fL a:=by
 simp[Lit.wf,OM.min,OM.max,IntKind.bits,IntKind.signed]at h;unfold fL;omega
def xmw{tC tB:Lx}(j:P.underlying tC=B1 (.slice tB))(uY:P.underlying tB=B1 (.int .u8))(n:P.cellsOf tB=1)(r:0<P.bytesOf tB):qJ P tC λ H l=>∃u,l=[u] /\ ∃bs:List Int,bI gU 1 H u bs/\Bytes bs/\vM H u/\bs.length<=reachBytes:=by
 refine(S3 j (Ja (Jd uY)).JD (by rw[n];decide)).imp ?_ λ H l h=>?_
 .rintro H H' l ⟨u,c,xs,e,d,g,t⟩ f;exact⟨u,c,xs,e.em f,d,g.em f.au,t⟩
 .obtain ⟨u,rfl,c,e⟩:=h;have lt:=Ib.FH c;rw[n]at c;have⟨xs,d,g⟩:=Ty (enc:=gU) (Q:=λ x=>0<=x/\x<256) (λ l h=>by
   obtain⟨a,rfl,o⟩:=h;exact⟨a,rfl,by have:=wf_u8 o;omega⟩) c
  exact⟨u,rfl,xs,d,g,lt,xx (Nat.le_mul_of_pos_right _ r) (e _ (Sl.eN d))⟩
def xmy{tM tS tK tC tY tB tF tL v tU:Lx}{ms ss bs:Array Field}(uM:P.underlying tM=B1 (.struct ms))(K:ms.toList.map (·.type)=[tS,tK,tB,tF])(uS:P.underlying tS=B1 (.struct ss))(T:ss.toList.map (·.type)=[v,v,v,v])
 (uK:P.underlying tK=B1 (.slice tC)) (E:P.underlying tC=B1 (.slice tY)) (uY:P.underlying tY=B1 (.int .u8)) (uB:P.underlying tB=B1 (.struct bs)) (R:bs.toList.map (·.type)=[v,v,v]) (uF:P.underlying tF=B1 (.slice tL)) (uL:P.underlying tL=B1 (.array 8 tU)) (uU:P.underlying tU=B1 (.int .u64)) (uN:P.underlying v=B1 (.int .i64))
 (I:P.cellsOf tC=1) (N:P.cellsOf tY=1) (bY:0<P.bytesOf tY) (bC:0<P.bytesOf tC) (J:P.cellsOf tL=8) (L:8*P.cellsOf tU=P.cellsOf tL) (U:Fu P 0 ms.toList=B4) (Y:(ms.toList.map λ f=>P.cellsOf f.type).sum=P.cellsOf tM) (W:Fu P 0 ss.toList=B4) (Z:(ss.toList.map λ f=>P.cellsOf f.type).sum=P.cellsOf tS)
 (oB:Fu P 0 bs.toList=B4) (X:(bs.toList.map λ f=>P.cellsOf f.type).sum=P.cellsOf tB):qJ P tM kF:=by
 have hm:ms.toList.length=4:=by have:=congrArg List.length K;simpa using this
 have D:qJ P tK λ H l=>∃u,l=[u] /\ ∃r:List (AV×List Int),bI mh 1 H u r/\(∀p∈r,bI gU 1 H p.1 p.2/\Bytes p.2/\vM H p.1/\p.2.length<=reachBytes)/\r.length<=reachBytes:=by
  refine(S3 uK (xmw E uY N bY) (by rw[I];decide)).imp ?_ λ H l h=>?_
  .rintro H H' l ⟨u,o,xs,t,j⟩ f;exact⟨u,o,xs,t.em f,λ p q=>⟨(j.1 p q).1.em f,(j.1 p q).2.1,(j.1 p q).2.2.1.em f.au,(j.1 p q).2.2.2⟩,j.2⟩
  .obtain ⟨u,rfl,o,t⟩:=h;rw[I]at o;have⟨xs,j,z⟩:=Ty (enc:=mh) (Q:=λ p=>bI gU 1 H p.1 p.2/\Bytes p.2/\vM H p.1/\p.2.length<=reachBytes) (λ l h=>by
    obtain⟨u,rfl,b,h⟩:=h;exact⟨(u,b),rfl,h⟩) o
   exact⟨u,rfl,xs,j,z,xx (Nat.le_mul_of_pos_right _ bC) (t _ (Sl.eN j))⟩
 have S:qJ P tF λ H l=>∃u,l=[u] /\ ∃fs:List L8,bI cD 8 H u fs/\(∀x∈fs,x.u)/\vM H u:=by
  refine(S3 uF (Ja (xii uL (Jd uU) L)).JD (by rw[J];decide)).imp ?_ λ H l h=>?_
  .rintro H H' l ⟨u,o,xs,t,j,z⟩ f;exact⟨u,o,xs,t.em f,j,z.em f.au⟩
  .obtain ⟨u,rfl,o,t⟩:=h;have lt:=Ib.FH o;rw[J]at o;have⟨xs,j,z⟩:=Ty (enc:=cD) (Q:=λ x=>x.u) (λ l h=>by
    obtain⟨_,_,rfl,⟨a,rfl,qa⟩,_,_,rfl,⟨b,rfl,qb⟩,_,_,rfl,⟨c,rfl,qc⟩,_,_,rfl,⟨d,rfl,qd⟩,_,_,rfl,⟨e,rfl,qe⟩,_,_,rfl,⟨f,rfl,qf⟩,_,_,rfl,⟨g,rfl,qg⟩,_,_,rfl,⟨i,rfl,qi⟩,rfl⟩:=h;refine⟨⟨[a,b,c,d,e,f,g,i],rfl⟩,rfl,?_⟩;intro x A;have A:x∈[a,b,c,d,e,f,g,i]:=A;simp only[kw,MO,or_false]at A;rcases A with rfl|rfl|rfl|rfl|rfl|rfl|rfl|rfl<;>(refine wf_u64 ?_;assumption)) o
   exact⟨u,rfl,xs,j,z,lt⟩
 refine(Zk (Rs:=[λ H l=>DY (Ji 4 λ _ l=>kB .i64 l) H l,λ H l=>∃u,l=[u] /\ ∃r:List (AV×List Int),bI mh 1 H u r/\(∀p∈r,bI gU 1 H p.1 p.2/\Bytes p.2/\vM H p.1/\p.2.length<=reachBytes)/\r.length<=reachBytes,λ H l=>DY (Ji 3 λ _ l=>kB .i64 l) H l,λ H l=>∃u,l=[u] /\ ∃fs:List L8,bI cD 8 H u fs/\(∀x∈fs,x.u)/\vM H u]) uM (by rw[hm];rfl)
  (TB (f:=Field.type) (Q:=qJ P) _ _ (by
   rw[K];intro x A;simp only[List.zip_cons_cons,List.zip_nil_right,kw,MO,or_false]at A;rcases A with rfl|rfl|rfl|rfl
   .exact Xu (n:=4) uS T uN W Z
   .exact D
   .exact Xu (n:=3) uB R uN oB X
   .exact S)) U Y).imp ?_ λ H l h=>?_
 .exact λ H H' u h fr=>h.em fr
 .obtain ⟨_,_,rfl,⟨_,_,rfl,⟨a,rfl,_⟩,_,_,rfl,⟨b,rfl,_⟩,_,_,rfl,⟨c,rfl,_⟩,_,_,rfl,⟨d,rfl,_⟩,rfl⟩,_,_,rfl,⟨pv,rfl,r,o,t,C⟩,_,_,rfl,⟨_,_,rfl,⟨e,rfl,_⟩,_,_,rfl,⟨f,rfl,_⟩,_,_,rfl,⟨g,rfl,_⟩,rfl⟩,_,_,rfl,⟨fv,rfl,fs,j,z,O⟩,rfl⟩:=h;exact⟨a,b,c,d,e,f,g,pv,fv,r,fs,rfl,o,t,j,z,O,C⟩
end
end Go.Am
namespace Go.Am
open Lang Go.Proofs
variable{M:ak}[MK M]
def oJ.at{H H':ar}(h:oJ H)(n:H.au<=H'.au)(e:H'.get yt=H.get yt):oJ H':=⟨by unfold ar.bX;rw[e];exact h.1,qn h.2 n⟩
def bI.low{α:Type}{enc:α->List AV}{size:Nat}{H H':ar}{u:AV}{xs:List α}(h:bI enc size H u xs)(n:H.au<=H'.au)(hl:xs≠[]->aE u<H.au)(e:xs≠[]->H'.get (aE u)=H.get (aE u)):bI enc size H' u xs:=by
 by_cases q:xs=[]
 .exact Sl.fr h (W:=λ _=>True) ⟨n,λ z _ t=>(t trivial).elim⟩ (.inl (by rw[q];rfl))
 .exact Sl.fr h (W:=λ z=>z≠aE u) ⟨n,λ z _ t=>by have t:=we.1 t;rw[t];exact e q⟩ (.inr λ t=>t rfl)
def W1(nb:Nat)(H:ar)(w k:Nat)(x:Wo)(F:Nat->Prop):Prop:=∃Hb B cvs hv bs own ks V,Hb.au=nb/\fH Hb H w B cvs hv bs own ks V k x /\ ∀z,F z->kR H w B cvs hv bs ks z
section
variable{H H':ar}{nb w k:Nat}{x y:Wo}{F G:Nat->Prop}
def W1.lt(h:W1 nb H w k x F){z:Nat}(q:F z):z<H.au:=by
 have⟨Hb,B,c,d,bs,own,ks,V,e,r,f⟩:=h;exact(f z q).lt
def W1.sub(h:W1 nb H w k x F)(g:∀z,G z->F z):W1 nb H w k x G:=by
 have⟨Hb,B,c,d,bs,own,ks,V,e,r,f⟩:=h;exact⟨Hb,B,c,d,bs,own,ks,V,e,r,λ z q=>f z (g z q)⟩
def W1.low(h:W1 nb H w k x F):nb<=H.au:=by
 have⟨Hb,B,c,d,bs,own,ks,V,e,r,f⟩:=h;have:=r.b.lo B (.inl rfl);have:=r.b.lt;omega
def W1.below(h:W1 nb H w k x F):W1 nb H w k x (λ z=>F z\/z<nb):=by
 have nl:=h.low;have⟨Hb,B,c,d,bs,own,ks,V,e,r,f⟩:=h;refine⟨Hb,B,c,d,bs,own,ks,V,e,r,λ z q=>q.elim (f z) λ q=>⟨by omega,λ t=>by have:=r.b.lo z t;omega,λ t=>by have:=(r.wb z t).2;omega,λ i A t=>zy λ g=>by have:=r.lo i A t z (by omega) g;omega⟩⟩
def W1.Bb(h:W1 nb H w k x F)(n:H.au<=H'.au)(f:∀z,z<H.au -> ¬F z->H'.get z=H.get z):W1 nb H' w k x (λ z=>F z\/(H.au<=z/\z<H'.au)):=by
 have⟨Hb,B,c,d,bs,own,ks,V,e,r,g⟩:=h;refine⟨H'.low Hb.au,B,c,d,bs,own,_,V,e,r.Bb n λ z u q=>f z u λ t=>q (g z t),λ z q=>?_⟩;rcases q with q|⟨j,o⟩
 .exact (g z q).wide n (λ q=>.inl q) λ q=>.inl q
 .exact r.new j o
def W1.em(h:W1 nb H w k x F)(f:Fr Em H H'):W1 nb H' w k x (λ z=>F z\/(H.au<=z/\z<H'.au)):=h.Bb f.au λ z c _=>f.ah z c id
structure Su(nb:Nat)(H:ar)(w k:Nat)(y:Wo)(F:Nat->Prop)(H':ar)(N:Nat->Prop):Prop where
 w:W1 nb H' w k y (λ z=>F z\/N z)
 n:H.au<=H'.au
 kp:∀z,F z->H'.get z=H.get z
 nw:∀z,N z->H.au<=z
def Q9(h:W1 nb H w k x F)(hk:k+1<=90000)(o:oJ H)(A:yt<nb)(t:x.h.length<=100000)(n0:0<=x.n)(n1:x.n<=1000000)(a:Act) :
 zb M SH [.ptr w 0,.agg a.enc] H λ v H'=>v=.agg (hJ (x.act a).2)/\Su nb H w (k+2) (x.act a).1 F H' Em:=by
 have⟨Hb,B,c,C,bs,own,ks,V,e,r,f⟩:=h;refine(Di r hk o (by omega) t n0 n1 a).mono λ v H' q=>?_;have⟨d,hv',bs',aQ,g,j,u,n',kp⟩:=q;exact⟨d,⟨⟨Hb,B,c,hv',bs',aQ,g,j,e,u,λ z q=>q.elim (λ q=>(kp z (f z q)).1) ND⟩,n',λ z q=>(kp z (f z q)).2,λ z q=>q.elim⟩⟩
def Su.other{c w' k':Nat}{f:Wo}{d N:Nat->Prop}(p:Su nb H w k y F H' N)(h:W1 c H w' k' f d)(a:∀z,z<H.au->F z\/d z):W1 c H' w' k' f (λ z=>d z\/(H.au<=z/\z<H'.au)) :=
 h.Bb p.n λ z g q=>p.kp z ((a z g).elim id λ e=>(q e).elim)
def J2(H:ar)(nw nv w w' k k':Nat)(x x':Wo)(L:Nat->Prop):Prop:=∃F F',W1 nw H w k x F/\W1 nv H w' k' x' F'/\(∀z,z<H.au->F z\/F' z) /\ ∀z,L z->F z/\F' z
def J2.em{nw nv w' k':Nat}{c:Wo}{L:Nat->Prop}(h:J2 H nw nv w w' k k' x c L)(f:Fr Em H H'):J2 H' nw nv w w' k k' x c (λ z=>L z\/(H.au<=z/\z<H'.au)):=by
 have⟨F,d,a,b,ap,hl⟩:=h;refine⟨_,_,a.em f,b.em f,λ z q=>?_,λ z q=>?_⟩
 .rcases xz z H.au with e|e
  .exact (ap z e).imp .inl .inl
  .exact .inl (.inr ⟨e,q⟩)
 .rcases q with q|q
  .exact ⟨.inl (hl z q).1,.inl (hl z q).2⟩
  .exact ⟨.inr q,.inr q⟩
def J2.loc{nw nv w' k':Nat}{d:Wo}{L U:Nat->Prop}(h:J2 H nw nv w w' k k' x d L)(f:Fr U H H')(hu:∀z,U z->L z):J2 H' nw nv w w' k k' x d (λ z=>L z\/(H.au<=z/\z<H'.au)):=by
 have⟨F,g,a,b,ap,hl⟩:=h;refine⟨_,_,a.Bb f.au λ z c q=>f.ah z c λ e=>q (hl z (hu z e)).1,b.Bb f.au λ z c q=>f.ah z c λ e=>q (hl z (hu z e)).2,λ z q=>?_,λ z q=>?_⟩
 .rcases xz z H.au with e|e
  .exact (ap z e).imp .inl .inl
  .exact .inl (.inr ⟨e,q⟩)
 .rcases q with q|q
  .exact ⟨.inl (hl z q).1,.inl (hl z q).2⟩
  .exact ⟨.inr q,.inr q⟩
def J2.fst{nw nv w' k' d:Nat}{f:Wo}{c L N:Nat->Prop}(a:W1 nw H w k x F)(b:W1 nv H w' k' f c)(ap:∀z,z<H.au->F z\/c z)(hl:∀z,L z->F z/\c z)(p:Su nw H w d y F H' N) :
 J2 H' nw nv w w' d k' y f (λ z=>L z\/N z) /\ ∀z,L z->H'.get z=H.get z:=by
 refine⟨⟨_,_,p.w,p.other b ap,λ z q=>?_,λ z q=>?_⟩,λ z q=>p.kp z (hl z q).1⟩
 .rcases xz z H.au with e|e
  .exact (ap z e).imp .inl .inl
  .exact .inr (.inr ⟨e,q⟩)
 .rcases q with q|q
  .exact ⟨.inl (hl z q).1,.inl (hl z q).2⟩
  .exact ⟨.inr q,.inr ⟨p.nw z q,p.w.lt (.inr q)⟩⟩
def W1.core(h:W1 nb H w k x F){i:Nat}{c:Co}(g:x.cs[i]? = B1 c):∃p o f l sp cv rv,(∀K,C3 M B4 (.func Uf) [.ptr w 0,.int .i64 (i:Int)] H K=K B4 (.ptr p 0) H)/\dU H o p f l sp cv rv .nils .nili c [] k:=by
 have⟨Hb,B,j,t,bs,own,ks,V,e,r,f⟩:=h;have n:=(qt.1 g).1;have hk:=r.kl;obtain⟨A,d⟩:∃A,ks[i]? = B1 A:=⟨_,xf (by omega)⟩
 exact⟨A.p,A.o,A.f,A.l,A.sp,A.cv,A.rv,Ri r (by omega) (by rw[show((i:Int)).toNat=i by omega];exact d),(r.co i c A g d).1⟩
end
end Go.Am
namespace Go.Am
open Lang Go.Proofs
variable{M:ak}[MK M]
def my{α:Type}{enc:α->List AV}(h:∀x,aL (enc x)=B4)(l:List α):aL (l.flatMap enc)=true:=by
 rw[vd,List.all_flatMap,Gn];intro x _;have:=h x;rw[vd]at this;exact this
def xeo{H:ar}{a:AV}{l:List fk}(ha:bI fk.enc 9 H a l)(hl:l.length<=100000):zb M t5 [a] H λ v H'=>bI fk.enc 9 H' v l/\Fr Em H H':=by
 refine qnv ?_
 by_cases hn:a=.nils
 .subst hn;simp only[aa,bc,Γ,WM];exact⟨ha,Fr.refl _⟩
 .have c:Fr Em H (H.alloc (.row [] jr (0,0) B4)):=(Fr.refl H).alloc _;simp only[aa,bc,Γ,Ym ha hn,RQ];refine K3 (e:=jr) (n:=0) (cells:=[]) ⟨rfl,.inl ⟨rfl,.inr ⟨H.au,rfl,by rw[xy];omega⟩⟩⟩ (Sl.em ha c) (my (λ x=>rfl) _) (by omega) (by omega) (by omega) λ j h hv' d f=>?_;simp only[aa,bc];rw[yg,jo]at hv';exact⟨hv'.sl,c.trans d λ x g=>.inr (by rw[g.2];exact qm _)⟩
def Θ{H:ar}{nb w k:Nat}{x:Wo}{F:Nat->Prop}(h:W1 nb H w k x F)(hl:x.h.length<=100000):zb M qp [.ptr w 0] H λ v H'=>bI fk.enc 9 H' v x.h/\Fr Em H H':=by
 have⟨Hb,B,c,n,bs,own,ks,V,e,r,f⟩:=h;refine qrw ?_;have g:Op.eq .ptr B2 [.ptr w 0,.nilp] H=B1 (.bool B2):=rfl;simp only[aa,bc,qrx,aw,g,r.bm];refine C3.q (xeo (aO.sl r.hl) hl) λ v j⟨a,d⟩=>?_;simp only[aa,bc];exact⟨a,d⟩
end Go.Am
namespace Go.Am
section
variable{α:Type}(P:List α->Bool)
def U0:Nat->List α->List α
 |0,l=>l
 |n+1,l=>U0 n (if P (l.eraseIdx n)=B4 then l.eraseIdx n else l)
def OE(l:List α):List α:=U0 P l.length l
def QK:Nat->List α->List α
 |0,l=>l
 |n+1,l=>QK n (OE P l)
def sj(l:List α):Option Nat:=(MX (l.length+1)).find? λ n=>P (l.take n)
def shr(l:List α):List α:=QK P (l.length+1) l
def xlr{l:List α}{n:Nat}(h:sj P l=B1 n):n<=l.length/\P (l.take n)=B4 /\ ∀k,k<n->P (l.take k)=false:=by
 have⟨d,us,bs,e,f⟩:=List.find?_eq_some_iff_append.1 h;have hn:n<l.length+1:=N9.1 (e▸List.mem_append_right _ (I7 ..));refine⟨by omega,d,λ k hk=>?_⟩;have hm:k∈us:=by
  have c:k∈us++n::bs:=e▸N9.2 (by omega);rcases jm.1 c with q|q
  .exact q
  .have s:(us++n::bs).Pairwise (· < ·):=e▸List.pairwise_lt_range;rcases kw.1 q with q|q
   .omega
   .have:=List.rel_of_pairwise_cons (List.pairwise_append.1 s).2.1 q;omega
 have:=f k hm
 simpa using this
def y_{l:List α}{n:Nat}(h:n<=l.length)(hp:P (l.take n)=B4)(hn:∀k,k<n->P (l.take k)=B2):sj P l=B1 n:=by
 cases e:sj P l with
 |none =>
  have:=CQ.1 e n (N9.2 (by omega));exact absurd hp this
 |some m =>
  have⟨a,b,c⟩:=xlr P e;rcases Nat.lt_trichotomy m n with q|q|q
  .rw [hn m q]at b;cases b
  .rw [q]
  .rw [c n q]at hp;cases hp
def xlq{l:List α}(h:∀k,k<=l.length->P (l.take k)=B2):sj P l=none:=CQ.2 λ k hk=>by rw[h k (by have:=N9.1 hk;omega)];decide
end
end Go.Am
namespace Go.Am
open Go.Proofs Ca
open Lang (ints)
variable{M:ak}[MK M]
section
variable{H0 H:ar}{B:Nat}{s:Bs}{b:Bu}{own:Nat->Nat}
def xlb(h:eL H0 H B s b own){i:Nat}{w:L8}(hw:b.m[i]? = B1 w):zb M ZK [.ptr s.D 0,.int .i64 (i:Int)] H λ v H'=>v=.tuple [.agg (cD w),.int .i64 0]/\Fr Em H H':=by
 refine qz8 ?_;obtain⟨w0,w2,e⟩:=qz9 M ⟨B5,ZK⟩;obtain⟨c,e2⟩:∃X,X=H.alloc (OR (cD .zero) z7):=⟨_,rfl⟩
 have g:Fr Em H c:=by rw[e2];exact(Fr.refl H).alloc _
 have o:c.get H.au=B1 (OR (cD .zero) z7):=by rw[e2,xp]
 have d2:=h.d.em g;have n2:c.au=H.au+1:=by rw[e2,xy]
 have lm:Op.ae [.ptr s.D 0] c=B1 (.ptr s.mp 0):=x9 (xb d2.row) 0;simp only[aa,bc,w0,lZ,<-e2,w2,yp,e,qo,lm];refine C3.q (_u (M:=M) (w:=w) d2.me (n:=(i:Int)) (by omega) (by rw[Ho];exact hw)) λ v f⟨t,j⟩=>?_;rw[t];have r:f.get H.au=B1 (OR (cD .zero) z7):=by rw[j.ah _ (by omega) id];exact o
 have st:=fK r (ye _) (ye w) (ug w);have ln:=eJ (xc f H.au (OR (cD w) z7)) (ye w);simp only[aa,bc,xj,st,ln];exact(g.trans j λ _ q=>q.elim).set (.inr (qm _)) _
def xi6{r nb:Nat}{sv bv:AV}{n:No}{ks:List Nat}(h:di H0 H r nb sv bv n ks)(z:CI n.lines n.c)(line:Int):zb M ZO [.ptr r 0,.int .i64 line] H λ v H'=>v=oe n.c line/\Fr Em H H':=by
 refine q0p ?_;obtain⟨w0,w2,j⟩:=q0q M ⟨B5,ZO⟩;obtain⟨H1,e1⟩:∃X,X=H.alloc (OR (az .zero) xk):=⟨_,rfl⟩
 have f:Fr Em H H1:=by rw[e1];exact(Fr.refl H).alloc _
 have u:H1.get H.au=B1 (OR (az .zero) xk):=by rw[e1,xp]
 have n1:H1.au=H.au+1:=by rw[e1,xy]
 have t:=h.em f;simp only[aa,bc,w0,eZ,<-e1,w2,yp,j,qo,t.l2];refine C3.q (P2 (M:=M) t.ca z line) λ v d⟨A,g⟩=>?_;rw[A];have o:d.get H.au=B1 (OR (az .zero) xk):=by rw[g.ah _ (by omega) id];exact u
 unfold oe;cases n.c.find line with
 |none =>
  have st:=fK o (zw _) (zw .zero) (ud _);have ln:=eJ (xc d H.au (OR (az .zero) xk)) (zw .zero);simp only[aa,bc,xj,st,ln];exact(f.trans g λ _ q=>q.elim).set (.inr (qm _)) _
 |some e =>
  have st:=fK o (zw _) (zw e) (ud e);have ln:=eJ (xc d H.au (OR (az e) xk)) (zw e);simp only[aa,bc,xj,st,ln];exact(f.trans g λ _ q=>q.elim).set (.inr (qm _)) _
end
def qP(b:Bu)(line:Int)(i:Nat):List En:=(b.ns.take i).filterMap λ n=>n.c.find line
def Aj(b:Bu)(line:Int):List (List AV):=(qP b line b.ns.length).map λ e=>[.agg (az e)]
def DP{b:Bu}{line:Int}{i:Nat}{n:No}(hn:b.ns[i]? = B1 n):qP b line (i+1)=qP b line i++(match n.c.find line with|none=>[]|some e=>[e]):=by
 unfold qP;rw[j7,hn,List.filterMap_append];congr 1;show List.filterMap _ [n]=_;rw[List.filterMap_cons,List.filterMap_nil];cases n.c.find line<;>rfl
def Gi(b:Bu)(line:Int){i:Nat}(d:i<=b.ns.length):∃r,qP b line b.ns.length=qP b line i++r:=by
 refine⟨(b.ns.drop i).filterMap λ n=>n.c.find line,?_⟩;unfold qP;rw[za (qm _),<-List.filterMap_append,yr]
def Rt{b:Bu}{line:Int}{i:Nat}{n:No}{e:En}(hn:b.ns[i]? = B1 n)(he:n.c.find line=B1 e):(Aj b line)[(qP b line i).length]? = B1 [.agg (az e)]:=by
 have hl:=(qt.1 hn).1;obtain⟨r,hr⟩:=Gi b line (i:=i+1) (by omega);unfold Aj;rw[hr,DP hn,he,xq];show Option.map _ ((qP b line i ++ [e]++r)[(qP b line i).length]?)=_;rw[ku,z4 (qm _),Ia];rfl
section
variable{Hb H0:ar}{B p q:Nat}{s:Bs}{b:Bu}{own:Nat->Nat}{line:Int}
def hdO(Hb:ar)(B:Nat)(s:Bs)(p q:Nat)(z:Nat):Prop:=z<Hb.au\/z=p\/z=q\/gJ B s z
def Fh(h:eL Hb H0 B s b own)(hb:BB b)(hp:H0.get p=B1 (OR [.ptr B 0] wN))(hq:H0.get q=B1 (OR [.int .i64 line] cH))(hpl:p<H0.au)(hql:q<H0.au)(hbl:Hb.au<=H0.au) :
 qQ M Km [] [.ptr p 0,.ptr q 0] (hdO Hb B s p q) (λ _=>False) H0 (Aj b line):=by
 intro Y R S j H1 hnx hN hR0 hW0 loc locS step;obtain⟨p1,p2,p3⟩:=hN p (.inl (.inr (.inl rfl)));obtain⟨q1,q2,q3⟩:=hN q (.inl (.inr (.inr (.inl rfl))));have hN4:=hb.N4;have kp:∀{Hx:ar},Fr j H1 Hx->eL Hb Hx B s b own:=λ{Hx}f=>by
  have f0:Fr (λ z=>Hb.au<=z /\ ¬gJ B s z) H0 Hx:=by
   refine⟨xx hnx f.au,λ z o hw=>?_⟩;have hk:hdO Hb B s p q z:=by
    by_cases w1:z<Hb.au
    .exact .inl w1
    .by_cases w2:gJ B s z
     .exact .inr (.inr (.inr w2))
     .exact absurd ⟨by omega,w2⟩ hw
   obtain⟨-,k2,k3⟩:=hN z (.inl hk);rw[f.ah z (by omega) k3,k2]
  exact h.fr f0 λ z w=>w
 suffices hs:zb M Km [.fn (.yield Y) [] [],.ptr p 0,.ptr q 0] H1 (I4 R S j (λ _=>False) H1 (Aj b line).length)by
  obtain⟨v,H',hc,W',q1,q2,q3⟩:=hs.elim;exact⟨v,H',W',hc,q1,q2,q3⟩
 refine qzu ?_;obtain⟨w0,w4,w10,N,L⟩:=qzv M ⟨B5,Km⟩;have lp:∀{Hx:ar},Fr j H1 Hx->Op.ae [.ptr p 0] Hx=B1 (.ptr B 0):=λ f=>by rw[x9 (xb (by rw[f.ah _ (by omega) p3,p2];exact hp))];rfl
 have lq:∀{Hx:ar},Fr j H1 Hx->Op.ae [.ptr q 0] Hx=B1 (.int .i64 line):=λ f=>by rw[x9 (xb (by rw[f.ah _ (by omega) q3,q2];exact hq))];rfl
 have r0:=Fr.refl (W:=j) H1;have h1:=kp r0;have J:=h1.nv.sl.len;rw[xu,h1.al]at J;have hll:(Aj b line).length=(qP b line b.ns.length).length:=xu _;simp only[aa,bc,w0,lp r0,qo,h1.l1,J];refine cu.intro (λ n E Hx=>∃(i:Nat)(V:Nat->Prop),E=[(13,.int .i64 (i:Int)),(12,.int .i64 ((b.ns.length:Nat):Int)),(11,s.nv),(0,.fn (.yield Y) [] []),(1,.ptr p 0),(2,.ptr q 0)]/\n=b.ns.length-i/\i<=b.ns.length/\LH R j H1 Hx (qP b line i).length V) ?_ ?_
 .exact ⟨_,_,⟨0,j,rfl,rfl,xw _,⟨hR0,λ b hb=>⟨hW0 b hb,.inl hb⟩,Fr.refl _⟩⟩,by simp only[aa,bc]⟩
 rintro n E Hx ⟨i,V,rfl,rfl,hi,hI⟩
 by_cases c1:(i:Int)<((b.ns.length:Nat):Int)
 .obtain ⟨nd,hn⟩:∃n,b.ns[i]? = B1 n:=⟨_,xf (by omega)⟩
  have hx:=kp hI.fr;obtain⟨A,hA,nr⟩:=hx.yO hn;have K:(s.ad.map Na.r)[i]? = B1 A.r:=by rw[xq,hA];rfl
  have ix:=hx.nv.sl.idx K (z:=(i:Int)) rfl .i64;have ld:=hx.nv.sl.ig WK K (by decide);have ld:Op.ae [.ptr (aE s.nv) (cK 1 s.nv i)] Hx=B1 (.ptr A.r 0):=ld;obtain⟨ni,-,-⟩:=hb.no _ nd hn;have wj:aj .i64 ((i:Int)+1)=((i+1:Nat):Int):=by rw[jc (by omega) (by omega)];omega
  simp only[aa,bc,w4,c1,w10,ix,ld,lq hI.fr];refine C3.q (xi6 (M:=M) nr ni.ci line) λ v g⟨hv,U⟩=>?_;rw[hv];have f03:Fr j H1 g:=hI.fr.trans U λ _ w=>w.elim;obtain⟨O,Q⟩:∃X,X=g.alloc (OR (az .zero) xk):=⟨_,rfl⟩
  have f4:Fr Em g O:=by rw[Q];exact(Fr.refl g).alloc _
  have g4:O.get g.au=B1 (OR (az .zero) xk):=by rw[Q,xp]
  unfold oe;cases hf:nd.c.find line with
  |none =>
   have st:=fK g4 (zw _) (zw .zero) (ud .zero);have hs:=DP (line:=line) hn;rw[hf]at hs;simp only[zp]at hs;obtain⟨t,u⟩:∃X,X=O.set g.au (OR (az .zero) xk):=⟨_,rfl⟩
   rw[<-u]at st;have Z:Fr Em g t:=by rw[u];exact f4.set (.inr (qm _)) _
   have d:Fr Em Hx t:=U.trans Z λ _ w=>w.elim;simp only[aa,bc,xj,eZ,<-Q,st,L];simp only[aa,bc,N,wj];refine⟨_,_,⟨i+1,V,rfl,rfl,by omega,⟨?_,λ z o=>⟨qn (hI.hV z o).1 d.au,(hI.hV z o).2⟩,hI.fr.trans d λ _ w=>w.elim⟩⟩,by simp only[aa,bc],by omega⟩;rw[hs];exact loc _ V Hx t hI.hR (λ z o=>d.ah z (hI.hV z o).1 id) d.au
  |some e =>
   have st:=fK g4 (zw _) (zw e) (ud e);have hs:=DP (line:=line) hn;rw[hf]at hs;obtain⟨t,u⟩:∃X,X=O.set g.au (OR (az e) xk):=⟨_,rfl⟩
   rw[<-u]at st;have g5:t.get g.au=B1 (OR (az e) xk):=by rw[u,xc]
   have Z:Fr Em g t:=by rw[u];exact f4.set (.inr (qm _)) _
   have d:Fr Em Hx t:=U.trans Z λ _ w=>w.elim;have ld5:=eJ g5 (zw e);obtain⟨bb,H6,T,hr,hf6,I,ht,hs6⟩:=step _ [.agg (az e)] (Rt hn hf) V t (loc _ V Hx t hI.hR (λ z o=>d.ah z (hI.hV z o).1 id) d.au) (λ z o=>⟨qn (hI.hV z o).1 d.au,(hI.hV z o).2⟩) ((hI.fr.trans d λ _ w=>w.elim).mono λ _ _ w=>.inl w);have C:Fr j H1 H6:=(hI.fr.trans d λ _ w=>w.elim).trans hf6 λ z w=>(hI.hV z w).2;have D:∀z,T z->z<H6.au/\(j z\/H1.au<=z):=λ z w=>⟨(I z w).1,(I z w).2.elim (λ w=>(hI.hV z w).2) λ w=>.inr (xx (xx hI.fr.au d.au) w)⟩
   simp only[aa,bc,xj,eZ,<-Q,st,L,ld5];refine C3.uZ hr ?_;cases bb with
   |true =>
    simp only[aa,bc];simp only[aa,bc,N,wj];exact⟨_,_,⟨i+1,T,rfl,rfl,by omega,⟨by rw[hs,xe];exact ht rfl,D,C⟩⟩,by simp only[aa,bc],by omega⟩
   |false =>
    simp only[aa,bc];exact⟨T,C.mono λ _ _ w=>.inl w,D,.inr (hs6 rfl)⟩
 .have hiw:i=b.ns.length:=by omega
  simp only[aa,bc,w4,c1];exact⟨V,hI.fr.mono λ _ _ w=>.inl w,hI.hV,.inl (by rw[hll,<-hiw];exact hI.hR)⟩
end
def Js(j:Int)(m:Mg):Bool:=decide (m.line=j/\(m.k=3\/m.k=5))
def xB(fl:List Mg)(j:Int)(w:L8):L8:=match fl.find? (Js j)with
 |some m=>m.d
 |none=>w
def rA(x:L8)(e:En):L8:=if e.st=2 then cond e.w e.o e.d else x
def Bu.Oj(b:Bu)(j:Nat):L8:=(qP b j b.ns.length).foldl rA (xB b.fl j (b.m[j]?.getD .zero))
def Bu.td(b:Bu)(a:Int):Int×Int:=if 0<=a/\a<8*b.l.length then((b.Oj (a.toNat / 8)).get (a.toNat % 8),0)else(0,2)
def GI{fl:List Mg}{i:Nat}{m:Mg}{j:Int}{w:L8}(h:fl[i]? = B1 m)(hm:Js j m=B4)(c:∀x∈fl.take i,Js j x=B2):xB fl j w=m.d:=by
 have⟨hl,he⟩:=qt.1 h;have e:fl=fl.take i++(m::fl.drop (i+1)):=by rw[<-he,List.getElem_cons_drop hl,yr]
 have f:fl.find? (Js j)=B1 m:=by
  rw[e,List.find?_append,CQ.2 λ x g=>by rw[c x g];decide,List.find?_cons,hm];rfl
 unfold xB;rw[f]
def Iv{fl:List Mg}{j:Int}{w:L8}(c:∀x∈fl,Js j x=B2):xB fl j w=w:=by
 unfold xB;rw[CQ.2 λ x d=>by rw[c x d];decide]
section
variable{Hb H:ar}{B:Nat}{s:Bs}{b:Bu}{own:Nat->Nat}{V:Int->L8}
def xh6{H:ar}(B:Nat)(line:Int):zb M _S [.ptr B 0,.int .i64 line] H λ v H'=>v=.fn (.func Km) [] [.ptr H.au 0,.ptr (H.au+1) 0]/\H'=(H.alloc (OR [.ptr B 0] wN)).alloc (OR [.int .i64 line] cH):=by
 refine q6y ?_;obtain⟨H1,e1⟩:∃X,X=H.alloc (OR [.ptr B 0] wN):=⟨_,rfl⟩
 have n1:H1.au=H.au+1:=by rw[e1,xy]
 have ca:AV.cells (.ptr B 0)=[.ptr B 0]:=rfl;have c:AV.cells (.int .i64 line)=[.int .i64 line]:=rfl;have mk:Op.bK Km 0 [.ptr H.au 0,.ptr (H.au+1) 0]=B1 (.fn (.func Km) [] [.ptr H.au 0,.ptr (H.au+1) 0]):=rfl;simp only[aa,bc,q6z,ca,c,<-e1,n1,mk];rfl
structure _5(x0:L8)(es:List En)(t i:Nat)(W:Nat->Prop)(Hx:ar):Prop where
 vt:W t
 ex:Hx.get t=B1 (OR (cD ((es.take i).foldl rA x0)) z7)
 lt:t<Hx.au
def O0{H:ar}{t T:Nat}{e:En}(h:H.get t=B1 (OR (az e) T)):Op.aq 8 [.ptr t 4] H=B1 (.agg (cD e.d))/\Op.aq 8 [.ptr t 12] H=B1 (.agg (cD e.o)):=by
 have hl:=zw e;have e1:az e=[.int .i64 e.line,.int .i64 e.st,.bool e.r,.bool e.w]++(cD e.d++(cD e.o ++ [.int .i64 e.u])):=rfl;constructor
 .rw [rS (xb h) (by omega),e1,Ci (by rfl),Kh (ye _)]
 .rw [rS (xb h) (by omega),e1,<-ku,Ci (by rw[xe,ye];rfl),Kh (ye _)]
def xd7(h:eL Hb H B s b own)(hl:b.l.length<=64){a:Int}(ha:¬(0<=a/\a<8*b.l.length)):zb M yu [.ptr B 0,.int .i64 a] H λ v H'=>v=.tuple [.int .u64 0,.int .i64 2]/\H'=H:=by
 refine ql4 ?_;obtain⟨w0,E,wb,w2,C,e,g,j,n,u,o,z,r,A,t⟩:=Xd M ⟨B5,yu⟩;have D:aj .i64 (((b.l.length:Nat):Int)*8)=((b.l.length*8:Nat):Int):=by rw[jc (by omega) (by omega)];omega
 have c:Op.eq .ptr B2 [.ptr B 0,.nilp] H=B1 (.bool B2):=rfl
 by_cases d:a<0
 .simp only[aa,bc,w0,w2,e,c,qv d,vF]
 .have f:((b.l.length*8:Nat):Int)<=a:=by omega
  simp only[aa,bc,w0,w2,e,c,d,qo,h.l3,D,qv f,vF]
def q81(h:eL Hb H B s b own)(hb:BB b)(hI:BuI b V)(hbl:Hb.au<=H.au){a:Nat}(ha:a<8*b.l.length)(hl:b.l.length<=64):zb M yu [.ptr B 0,.int .i64 (a:Int)] H λ v H'=>v=.tuple [.int .u64 ((b.Oj (a / 8)).get (a % 8)),.int .i64 0]/\Fr Em H H':=by
 refine ql4 ?_;obtain⟨w0,wa,wb,w2,wb7,w3,w18,w22,w24,w47,K,w49,w35,w54,w46⟩:=Xd M ⟨B5,yu⟩;have hj:a / 8<b.l.length:=by omega
 obtain⟨wd,hwd⟩:∃x,b.m[a / 8]? = B1 x:=⟨_,xf (by rw[hI.ml];exact hj)⟩
 have q0:¬(a:Int)<0:=by omega
 have wm:aj .i64 (((b.l.length:Nat):Int)*8)=((b.l.length*8:Nat):Int):=by rw[jc (by omega) (by omega)];omega
 have q1:¬((b.l.length*8:Nat):Int)<=(a:Int):=by omega
 have qu:=Ak (a:=a) (by omega);have re:=KM (a:=a) (by omega);have pn:Op.eq .ptr B2 [.ptr B 0,.nilp] H=B1 (.bool B2):=rfl;simp only[aa,bc,w0,w2,w3,pn,q0,qo,h.l3,wm,q1,Jm,w18,qu,re,h.l0];refine C3.q (xlb (M:=M) h hwd) λ v H1⟨hv,f1⟩=>?_;rw[hv];obtain⟨H2,e2⟩:∃X,X=H1.alloc (OR (cD .zero) z7):=⟨_,rfl⟩
 have f2:Fr Em H1 H2:=by rw[e2];exact(Fr.refl H1).alloc _
 have g2:H2.get H1.au=B1 (OR (cD .zero) z7):=by rw[e2,xp]
 have st2:=fK g2 (ye _) (ye wd) (ug wd);obtain⟨H3,e3⟩:∃X,X=H2.set H1.au (OR (cD wd) z7):=⟨_,rfl⟩
 rw[<-e3]at st2;have g3:H3.get H1.au=B1 (OR (cD wd) z7):=by rw[e3,xc]
 have n3:H3.au=H1.au+1:=by rw[e3,e2];rfl
 have f3:Fr Em H1 H3:=by rw[e3];exact f2.set (.inr (qm _)) _
 have f03:=f1.trans f3 λ _ q=>q.elim;have n1:=f1.au;generalize ht:H1.au=t at *
 -- behind the messages
 have rest:∀(Hx:ar)(x:L8)(E:Env)(Z:aG),(∀E D H',Z .ret E D H'=eS M [.tmp 4,.tmp 5] (tq λ v H'=>v=.tuple [.int .u64 ((b.Oj (a / 8)).get (a % 8)),.int .i64 0]/\Fr Em H H') .ret E D H')->Fr Em H Hx->Hx.get t=B1 (OR (cD x) z7)->t<Hx.au->x=xB b.fl ((a / 8:Nat):Int) wd ->
  lk E 0=B1 (.ptr B 0)->lk E 6=B1 (.int .i64 ((a / 8:Nat):Int))->lk E 7=B1 (.int .i64 ((a % 8:Nat):Int))->lk E 8=B1 (.ptr t 0) ->
  W M ⟨B5,yu⟩ (IQ yu 49) B4 Z E [] Hx:=by
  intro Hx x E Z hZ R gx hlt hx e0 e6 e7 e8;have hbx:=h.em R;simp only[aa,bc,w49,e0,e6];refine C3.q (xh6 (M:=M) B ((a / 8:Nat):Int)) λ v n⟨hv,hh⟩=>?_;rw[hv];obtain⟨L,I⟩:∃X,X=Hx.alloc (OR [.ptr B 0] wN):=⟨_,rfl⟩
  rw[<-I]at hh;have f4:Fr Em Hx L:=by rw[I];exact(Fr.refl Hx).alloc _
  have n4:L.au=Hx.au+1:=by rw[I,xy]
  have f5:Fr Em L n:=by rw[hh];exact(Fr.refl L).alloc _
  have n5:n.au=L.au+1:=by rw[hh,xy]
  have gp:n.get Hx.au=B1 (OR [.ptr B 0] wN):=by rw[f5.ah _ (by omega) id,I,xp]
  have gq:n.get (Hx.au+1)=B1 (OR [.int .i64 ((a / 8:Nat):Int)] cH):=by rw[<-n4,hh,xp]
  have r:Fr Em Hx n:=f4.trans f5 λ _ q=>q.elim;have h5:=hbx.em r;have nx:=R.au;have gt5:n.get t=B1 (OR (cD x) z7):=by rw[r.ah _ hlt id];exact gx
  have hbw:∀z,gJ B s z->z<H.au:=λ z q=>h.low q;refine iP.iter (fn:=SP) (lp:=PG) (pa:=ZD 0) (pb:=WS 0) qtu _O.1 _O.2 (by decide) qse qsf
   (Fh (M:=M) (line:=((a / 8:Nat):Int)) h5 hb gp gq (by omega) (by omega) (by omega)) (λ i W Hy=>_5 x (qP b ((a / 8:Nat):Int) b.ns.length) t i W Hy) (λ _ _ _=>False) (λ z=>z=t) (qm _) ?_ ?_ ?_ ?_ ?_ ?_ ?_ ?_
  .rintro z ((q|q|q|q)|q)
   .exact ⟨by omega,rfl,by omega⟩
   .exact ⟨by omega,rfl,by omega⟩
   .exact ⟨by omega,rfl,by omega⟩
   .exact ⟨by have:=hbw z q;omega,rfl,by have:=hbw z q;omega⟩
   .exact q.elim
  .exact λ z hz=>by omega
  .exact ⟨rfl,gt5,by omega⟩
  .exact λ i W Ha Hb' j hs hn=>⟨j.vt,by rw[hs _ j.vt];exact j.ex,qn j.lt hn⟩
  .exact λ e W Ha Hb' j _ _=>j
  .intro C i lr lb xv U hL2 W g j hW hf6 hnL hL6 hgL;have U:((qP b ((a / 8:Nat):Int) b.ns.length).map λ e=>[AV.agg (az e)])[i]? = B1 xv:=U;rw[xq,xr]at U;obtain⟨e,he,rfl⟩:=U;refine⟨_,rfl,?_⟩;obtain⟨-,wa,wb,-,wb7,-⟩:=Xd M ⟨B1 C,yu⟩;obtain⟨H7,O⟩:∃X,X=g.alloc (OR (az .zero) xk):=⟨_,rfl⟩
   have f7:Fr Em g H7:=by rw[O];exact(Fr.refl g).alloc _
   have g7:H7.get g.au=B1 (OR (az .zero) xk):=by rw[O,xp]
   have st7:=fK g7 (zw _) (zw e) (ud e);obtain⟨H8,Q⟩:∃X,X=H7.set g.au (OR (az e) xk):=⟨_,rfl⟩
   rw[<-Q]at st7;have f8:Fr Em g H8:=by rw[Q];exact f7.set (.inr (qm _)) _
   have g8:H8.get g.au=B1 (OR (az e) xk):=by rw[Q,xc]
   have n8:H8.au=g.au+1:=by rw[Q,O];rfl
   simp only[aa,bc,wa,eZ,<-O,st7,Ct];refine⟨by rw[f8.ah _ hL6 id];exact hgL,?_⟩;have gy:=j.ex;have hLt:C≠t:=λ q=>hnL (by rw[q];exact j.vt);have htl:=j.lt;obtain⟨A,e9⟩:∃X,X=H8.set C lb:=⟨_,rfl⟩
   rw[<-e9];have f9:Fr (On C) H8 A:=by rw[e9];exact(Fr.refl H8).set (W:=On C) (.inl rfl) _
   have n9:A.au=H8.au:=by rw[e9];rfl
   have gL9:A.get C=B1 lb:=by rw[e9];exact xc ..
   have g9:A.get g.au=B1 (OR (az e) xk):=by rw[f9.ah _ (by omega) (λ(q:g.au=C)=>by omega)];exact g8
   have gt9:A.get t=B1 (OR (cD (((qP b ((a / 8:Nat):Int) b.ns.length).take i).foldl rA x)) z7):=by rw[f9.ah _ (by omega) (λ(q:t=C)=>hLt q.symm),f8.ah _ htl id];exact gy
   have F9:Fr (λ z=>W z\/z=C) g A:=(f8.mono λ z _ q=>q.elim).trans f9 λ z q=>.inl (.inr q);have l1:Op.ae [.ptr g.au 1] A=B1 (.int .i64 e.st):=x9 (xb g9) 1;have l3:Op.ae [.ptr g.au 3] A=B1 (.bool e.w):=x9 (xb g9) 3;obtain⟨lD,lO⟩:=O0 g9;have tk:(qP b ((a / 8:Nat):Int) b.ns.length).take (i+1)=(qP b ((a / 8:Nat):Int) b.ns.length).take i ++ [e]:=by rw[j7,he];rfl
   have hV9:∀z,W z->z<A.au/\(W z\/g.au<=z):=λ z hz=>⟨by have:=(hW z hz).1;omega,.inl hz⟩
   have fo:((qP b ((a / 8:Nat):Int) b.ns.length).take (i+1)).foldl rA x=rA (((qP b ((a / 8:Nat):Int) b.ns.length).take i).foldl rA x) e:=by rw[tk,List.foldl_append];rfl
   generalize hy:((qP b ((a / 8:Nat):Int) b.ns.length).take i).foldl rA x=y at *
   by_cases s2:e.st=2
   .have stD:=fK gt9 (ye _) (ye e.d) (ug e.d);obtain⟨f,N⟩:∃X,X=A.set t (OR (cD e.d) z7):=⟨_,rfl⟩
    rw[<-N]at stD;have f10:Fr (On t) A f:=by rw[N];exact(Fr.refl A).set (W:=On t) (.inl rfl) _
    have n10:f.au=A.au:=by rw[N];rfl
    have g10:f.get t=B1 (OR (cD e.d) z7):=by rw[N,xc]
    have gL10:f.get C=B1 lb:=by rw[f10.ah _ (by omega) hLt];exact gL9
    have F10:Fr (λ z=>W z\/z=C) g f:=F9.trans f10 λ z(q:z=t)=>.inl (.inl (by rw[q];exact j.vt));have hV10:∀z,W z->z<f.au/\(W z\/g.au<=z):=λ z hz=>⟨by have:=(hW z hz).1;omega,.inl hz⟩
    have h6t:g.au≠t:=by omega
    have g610:f.get g.au=B1 (OR (az e) xk):=by rw[f10.ah _ (by omega) h6t];exact g9
    have Y:Op.ae [.ptr g.au 3] f=B1 (.bool e.w):=x9 (xb g610) 3;obtain⟨-,lO'⟩:=O0 g610;cases hw:e.w with
    |false =>
     rw[hw]at Y;simp only[aa,bc,wb,l1,qv s2,wb7,lD,stD,Y,e8];exact⟨rfl,gL10,W,hV10,F10,.inl ⟨rfl,j.vt,by rw[fo];unfold rA;rw[xg s2,hw];exact g10,by omega⟩⟩
    |true =>
     rw[hw]at Y;have stO:=fK g10 (ye _) (ye e.o) (ug e.o);simp only[aa,bc,wb,l1,qv s2,wb7,lD,stD,Y,lO',stO,e8];exact⟨rfl,by rw[yd (rT hLt)];exact gL10,W,hV10,F10.set (.inl (.inl j.vt)) _,.inl ⟨rfl,j.vt,by rw[fo];unfold rA;rw[xg s2,hw];exact xc ..,by show t<f.au;omega⟩⟩
   .simp only[aa,bc,wb,l1,s2];exact⟨rfl,gL9,W,hV9,F9,.inl ⟨rfl,j.vt,by rw[fo];unfold rA;rw[qy s2];exact gt9,by omega⟩⟩
  .intro d W Hd hd1 hd2 hgd hfd hWd j;have gy:=j.ex;have hln:(Aj b ((a / 8:Nat):Int)).length=(qP b ((a / 8:Nat):Int) b.ns.length).length:=xu _;rw[za (by rw[hln];exact qm _)]at gy;have ey:(qP b ((a / 8:Nat):Int) b.ns.length).foldl rA x=b.Oj (a / 8):=by unfold Bu.Oj;rw[hwd,hx];rfl
   rw[ey]at gy;generalize b.Oj (a / 8)=y at *;have hdt:d≠t:=λ q=>by have:=(hWd _ j.vt).2.2;omega
   have h8:a % 8<8:=Nat.mod_lt _ (by decide);have ixd:Op.aV 8 1 [.ptr t 0,.int .i64 ((a % 8:Nat):Int)]=B1 (.ptr t (a % 8)):=by rw[QJ rfl h8,yg,Nat.mul_one]
   have ldd:Op.ae [.ptr t (a % 8)] Hd=B1 (.int .u64 (y.get (a % 8))):=by
    rw[x9 (xb gy)];show(cD y)[a % 8]? = _;unfold cD L8.get;rw[xq];obtain⟨u,hu⟩:∃u,y.l[a % 8]? = B1 u:=⟨_,xf (by rw[y.h];exact h8)⟩
    rw[hu];rfl
   simp only[aa,bc,e7,e8,w54,ixd,ldd,hZ,I2];refine⟨hgd,?_⟩;exact((R.trans r λ _ q=>q.elim).trans (W':=λ x=>x=t\/False) hfd λ z q=>q.elim (λ q=>.inr (by omega)) ND).set (.inr (by omega)) _
  .exact λ e d W Hd _ _ _ _ _ _ hS=>hS.elim
 have h3:=h.em f03;have hfl:b.fl.length<=900000:=hb.fl;have hln:=h3.fl.len zf;simp only[aa,bc,xj,lZ,<-e2,ht,st2,w22,w24,qo,h3.l2,hln];refine cu.intro (λ m E Hx=>∃i:Nat,m=b.fl.length-i/\i<=b.fl.length/\E=[(46,.int .i64 (i:Int)),(45,.int .i64 ((b.fl.length:Nat):Int)),(44,s.fv),(8,.ptr t 0),(7,.int .i64 ((a % 8:Nat):Int)),(6,.int .i64 ((a / 8:Nat):Int)),(0,.ptr B 0),(1,.int .i64 (a:Int))]/\Fr Em H3 Hx /\ ∀m∈b.fl.take i,Js ((a / 8:Nat):Int) m=B2) ?_ ?_
 .exact ⟨_,_,⟨0,rfl,xw _,rfl,Fr.refl _,λ m hm=>by simp at hm⟩,by simp only[aa,bc]⟩
 rintro m E Hx ⟨i,rfl,hi,rfl,R,T⟩;have gx:Hx.get t=B1 (OR (cD wd) z7):=by rw[R.ah _ (by omega) id];exact g3
 have nx:=R.au
 by_cases q:(i:Int)<((b.fl.length:Nat):Int)
 .obtain ⟨c,S⟩:∃m,b.fl[i]? = B1 m:=⟨_,xf (by omega)⟩
  have hf:=(h3.em R).fl.sl zf;have ix:=hf.idx S (z:=(i:Int)) rfl .i64;have ld:=hf.aq zf (by decide) S;have wi:aj .i64 ((i:Int)+1)=((i+1:Nat):Int):=by rw[jc (by omega) (by omega)];omega
  obtain⟨L,I⟩:∃X,X=Hx.alloc (OR (ao ⟨0,0,0,.zero⟩) xm):=⟨_,rfl⟩
  have f4:Fr Em Hx L:=by rw[I];exact(Fr.refl Hx).alloc _
  have g4:L.get Hx.au=B1 (OR (ao ⟨0,0,0,.zero⟩) xm):=by rw[I,xp]
  have J:=fK g4 (zf _) (zf c) (rh c);obtain⟨n,e5⟩:∃X,X=L.set Hx.au (OR (ao c) xm):=⟨_,rfl⟩
  rw[<-e5]at J;have f5:Fr Em Hx n:=by rw[e5];exact f4.set (.inr (qm _)) _
  have g5:n.get Hx.au=B1 (OR (ao c) xm):=by rw[e5,xc]
  have n5:=f5.au;have l0:Op.ae [.ptr Hx.au 0] n=B1 (.int .i64 c.k):=x9 (xb g5) 0;have l2:Op.ae [.ptr Hx.au 2] n=B1 (.int .i64 c.line):=x9 (xb g5) 2;have l8:Op.aq 8 [.ptr Hx.au 3] n=B1 (.agg (cD c.d)):=by
   rw[rS (xb g5) (by rw[zf];decide),show ao c=[.int .i64 c.k,.int .i64 c.core,.int .i64 c.line]++(cD c.d ++ [])by rw[zp];rfl,Ci (by rfl),Kh (ye _)]
  have gt5:n.get t=B1 (OR (cD wd) z7):=by rw[f5.ah _ (by omega) id];exact gx
  have st8:=fK gt5 (ye _) (ye c.d) (ug c.d);have r:=R.trans f5 λ _ q=>q.elim;have tk:b.fl.take (i+1)=b.fl.take i ++ [c]:=by rw[j7,S];rfl
  have on:Js ((a / 8:Nat):Int) c=B2 -> ∀m∈b.fl.take (i+1),Js ((a / 8:Nat):Int) m=false:=λ hq m hm=>by
   rw[tk]at hm;rcases jm.1 hm with w|w
   .exact T m w
   .rw [ve.1 w];exact hq
  have found:(c.line=((a / 8:Nat):Int)/\(c.k=3\/c.k=5))->c.d=xB b.fl ((a / 8:Nat):Int) wd:=λ q=>(GI S (ke q) T).symm;have F8:Fr Em H (n.set t (OR (cD c.d) z7)):=(f03.trans r λ _ q=>q.elim).set (.inr (by omega)) _
  by_cases ql:c.line=((a / 8:Nat):Int)
  .by_cases k3:c.k=3
   .simp only[aa,bc,K,q,w35,ix,ld,mZ,<-I,J,l2,qv ql,l0,qv k3,l8,st8,w47];refine rest _ c.d _ _ (λ _ _ _=>rfl) F8 (xc ..) (by show t<n.au;omega) (found ⟨ql,.inl k3⟩) ?_ ?_ ?_ ?_<;>rfl
   .by_cases k5:c.k=5
    .simp only[aa,bc,K,q,w35,ix,ld,mZ,<-I,J,l2,qv ql,l0,k3,qv k5,l8,st8,w47];refine rest _ c.d _ _ (λ _ _ _=>rfl) F8 (xc ..) (by show t<n.au;omega) (found ⟨ql,.inr k5⟩) ?_ ?_ ?_ ?_<;>rfl
    .simp only[aa,bc,K,q,w35,ix,ld,mZ,<-I,J,l2,qv ql,l0,k3,k5];simp only[aa,bc,w46,wi];exact⟨_,_,⟨i+1,rfl,by omega,rfl,r,on (ju λ w=>w.2.elim k3 k5)⟩,by simp only[aa,bc],by omega⟩
  .simp only[aa,bc,K,q,w35,ix,ld,mZ,<-I,J,l2,ql];simp only[aa,bc,w46,wi];exact⟨_,_,⟨i+1,rfl,by omega,rfl,r,on (ju λ w=>ql w.1)⟩,by simp only[aa,bc],by omega⟩
 .have e:i=b.fl.length:=by omega
  rw[e,za (qm _)]at T;simp only[aa,bc,K,q,w47];refine rest Hx wd _ _ (λ _ _ _=>rfl) (f03.trans R λ _ q=>q.elim) gx (by omega) (Iv T).symm ?_ ?_ ?_ ?_<;>rfl
end
end Go.Am
namespace Go.Am
open Lang Go.Proofs
variable{M:ak}[MK M]
structure uc where
 kd:Int
 co:Int
 ad:Int
 v:Int
 n:Int
def fJ(x:uc):List AV:=[.int .i64 x.kd,.int .i64 x.co,.int .i64 x.ad,.int .u64 x.v,.int .i64 x.n]
namespace Wo
def KJ(x:Wo)(a:Act):yW (x.act a).1.b=yW x.b:=by
 show yW (x.kG a).1.b=yW x.b;unfold kG qX ry fault
 repeat' split
 all_goals first|rfl|exact RV _ _|exact(CS.CU _).ns
def wL(x:Wo)(i:Int):Bool×Bool:=if 0<=i then match x.cs[i.toNat]? with
 |some c=>(c.halted,c.xV)
 |none=>(B2,B2)
 else(B2,B2)
def cnt(x:Wo)(w:uc):Nat:=x.h.countP λ e=>decide (e.kind=w.ad/\e.core=w.co)
def Rm(x:Wo)(w:uc):Bool:=if w.kd=1 then decide ((x.b.td w.ad).2=0/\(x.b.td w.ad).1=w.v)else if w.kd=2 then decide (w.n<=(x.cnt w:Int))else if w.kd=3 then(x.wL w.co).1 else(x.wL w.co).2
end Wo
section
variable{H H':ar}{nb w k:Nat}{x:Wo}{F:Nat->Prop}
def ad2{o:Nat->Nat}{p f l sp:Nat}{cv rv d pv:AV}{c:Co}{os:List fk}(h:dU H o p f l sp cv rv d pv c os k):∀K,C3 M B4 (.func XL) [.ptr p 0] H K=K B4 (.tuple [.bool c.halted,.bool c.xV]) H:=by
 refine dC (q_ ?_);simp only[aa,bc,oS,aw,Bo h,h.bm]
def xi7:zb M XL [.nilp] H λ v H'=>v=.tuple [.bool B2,.bool B2]/\H'=H:=by
 have c:∀H,Op.eq .ptr B2 [.nilp,.nilp] H=B1 (.bool B4):=λ _=>rfl;have nn:∀K,C3 M B4 (.func ZF) [.nilp] H K=K B4 (.bool B4) H:=by
  refine dC (qpm ?_);simp only[aa,bc,S1,c]
 refine q_ ?_;simp only[aa,bc,oS,nn]
def xd0(h:W1 nb H w k x F)(i:Int):∀K,C3 M B4 (.func WH) [.ptr w 0,.int .i64 i] H K=K B4 (.tuple [.bool (x.wL i).1,.bool (x.wL i).2]) H:=by
 have no:¬(0<=i/\i<x.cs.length)->x.wL i=(B2,B2) -> ∀K,C3 M B4 (.func WH) [.ptr w 0,.int .i64 i] H K=K B4 (.tuple [.bool (x.wL i).1,.bool (x.wL i).2]) H:=λ q e=>by
  have⟨Hb,B,n,j,bs,own,ks,V,e',r,f⟩:=h;refine dC (_c ?_);simp only[aa,bc,j_,Λ r q];refine C3.q xi7 λ v X⟨j,t⟩=>?_;subst j;subst t;simp only[aa,bc,aw,e]
 by_cases g:0<=i
 .cases d:x.cs[i.toNat]? with
  |some c =>
   obtain⟨p,o,f,l,sp,cv,rv,ha,hr⟩:=h.core (M:=M) d;rw[LW g]at ha;have e:x.wL i=(c.halted,c.xV):=by unfold Wo.wL;rw[xg g,d]
   rw[e];refine dC (_c ?_);simp only[aa,bc,j_,ha,ad2 hr,aw]
  |none =>
   have:=List.getElem?_eq_none_iff.1 d;exact no (by omega) (by unfold Wo.wL;rw[xg g,d])
 .exact no (by omega) (by unfold Wo.wL;rw[qy g])
def Bv(h:W1 nb H w k x F)(hl:x.b.l.length<=64)(hk:k<=90000)(a:Int):zb M Ξ [.ptr w 0,.int .i64 a] H λ v H'=>v=.tuple [.int .u64 (x.b.td a).1,.int .i64 (x.b.td a).2]/\Fr Em H H':=by
 have⟨Hb,B,d,c,bs,own,ks,V,e,r,f⟩:=h;have g:Op.eq .ptr B2 [.ptr w 0,.nilp] H=B1 (.bool B2):=rfl;have bs':∀K,C3 M B4 (.func qnd) [.ptr w 0] H K=K B4 (.ptr B 0) H:=by
  refine dC (qy8 ?_);simp only[aa,bc,qy9,aw,g,r.bm]
 refine qp5 ?_;simp only[aa,bc,qp6,bs'];refine C3.q (show zb M yu [.ptr B 0,.int .i64 a] H λ v H'=>v=.tuple [.int .u64 (x.b.td a).1,.int .i64 (x.b.td a).2]/\Fr Em H H' from by
  unfold Bu.td
  by_cases q:0<=a/\a<8*x.b.l.length
  .rw [xg q];obtain⟨n,rfl⟩:=ji q.1;exact q81 r.b (r.C.bb r.I (by omega)) r.I (by have:=r.b.lo B (.inl rfl);have:=r.b.lt;omega) (by omega) hl
  .rw [qy q];exact(xd7 r.b hl q).mono λ v H'⟨a,b⟩=>⟨a,by rw[b];exact Fr.refl _⟩) λ v H'⟨c,f⟩=>?_
 subst c;simp only[aa,bc,aw];exact f
end
end Go.Am
namespace Go.Am
open Lang Go.Proofs
variable{M:ak}[MK M]
def xem{H:ar}{a:AV}{l:List Act}(ha:bI Act.enc 3 H a l)(hl:l.length<=100000):zb M ι [a] H λ v H'=>aO Act.enc vp 3 H' v l/\(∀z,aM v z->H.au<=z)/\Fr Em H H':=by
 refine qp0 ?_
 by_cases hn:a=.nils
 .subst hn;simp only[aa,bc,E3,WM];obtain rfl:l=[]:=jz.1 ha.2;exact⟨Own.nil ..,λ z q=>(q.1 rfl).elim,Fr.refl _⟩
 .have c:Fr Em H (H.alloc (.row [] vp (0,0) B4)):=(Fr.refl H).alloc _;simp only[aa,bc,E3,Ym ha hn,RQ];refine K3 (e:=vp) (n:=0) (cells:=[]) ⟨rfl,.inl ⟨rfl,.inr ⟨H.au,rfl,by rw[xy];omega⟩⟩⟩ (Sl.em ha c) (my Act.one _) (by omega) (by omega) (by omega) λ j h hv' f d=>?_;simp only[aa,bc];rw[yg,jo]at hv';exact⟨hv',λ z q=>(d z q).elim (λ q=>by rw[q.2];exact qm _) λ q=>by rw[xy]at q;omega,c.trans f λ x g=>.inr (by rw[g.2];exact qm _)⟩
def Rn{l:List Act}:(l.flatMap Act.enc).length=l.length*3:=by
 induction l with
 |nil=>rfl
 |cons a l ih=>rw[j6,xe,ih,zu,Act.len];omega
def CF(H:ar)(v:AV)(l:List Act):Prop:=bI Act.enc 3 H v l/\(l=[] \/ ∃b m rest,v=.gslice b 0 m 3 0 l.length/\b<H.au/\l.length<=m/\H.get b=B1 (.grown m 3 (l.flatMap Act.enc++rest) vp (0,0)))
def CF.of{H:ar}{v:AV}{l:List Act}(h:aO Act.enc vp 3 H v l):CF H v l:=by
 refine⟨aO.sl h,?_⟩;obtain⟨_,⟨c,_⟩|⟨b,rfl,d,e⟩⟩:=h
 .exact .inl (jz.1 c)
 .exact .inr ⟨b,_,[],rfl,d,qm _,by rw[zp];exact e⟩
def CF.em{H H':ar}{v:AV}{l:List Act}(h:CF H v l)(f:Fr Em H H'):CF H' v l :=
 ⟨Sl.em h.1 f,h.2.imp id λ⟨b,m,rest,a1,a2,a3,a4⟩=>⟨b,m,rest,a1,qn a2 f.au,a3,by rw[f.ah b a2 id];exact a4⟩⟩
def xk7{H:ar}{v:AV}{l:List Act}(h:aO Act.enc vp 3 H v l){i:Nat}(Q:i<l.length)(hl:l.length<=100000):zb M um [v,.int .i64 (i:Int),.int .i64 ((i+1:Nat):Int)] H λ r H'=>CF H' r (l.eraseIdx i)/\Fr (aM v) H H' /\ ∀z,aM r z->aM v z:=by
 obtain⟨_,⟨O,_⟩|⟨b,rfl,C,f⟩⟩:=h
 .omega
 obtain⟨l1,x,l2,rfl,rfl⟩:∃l1 x l2,l=l1++x::l2/\l1.length=i:=⟨l.take i,l[i],l.drop (i+1),by rw[List.getElem_cons_drop,yr],by rw[js];omega⟩
 have er:(l1++x::l2).eraseIdx l1.length=l1++l2:=by rw[List.eraseIdx_append_of_length_le (qm _),Ia];rfl
 rw[er];obtain⟨n,hn⟩:∃n,n=(l1++x::l2).length:=⟨_,rfl⟩
 have nn:n=l1.length+l2.length+1:=by rw[hn,xe,zu];omega
 rw[<-hn]at f hl⊢;have cs:(l1++x::l2).flatMap Act.enc=l1.flatMap Act.enc++(x.enc++l2.flatMap Act.enc):=by rw[ki,j6]
 rw[cs]at f;have R:=Rn (l:=l1);have S:=Rn (l:=l2);have U:=Act.len x;have e1:∀n,JW n n=true:=λ n=>by simp
 have g:∀d m,bound B5 d m=B1 d:=λ _ _=>rfl;have e:∀{k mx d:Nat},k<=mx->bound (B1 (.int .i64 (k:Int))) d mx=B1 k:=λ q=>tE rfl q .i64;have j:∃y,Op.aA 3 [B1 0,B1 1,B1 2] [.gslice b 0 n 3 0 n,.int .i64 (l1.length:Int),.int .i64 ((l1.length+1:Nat):Int),.int .i64 (n:Int)]=B1 y:=⟨_,by
  simp only[Op.aA,arg,jN,zj,z8,qr,dk,e (show n<=n-0 by omega),e (show l1.length+1<=n by omega),e (show l1.length<=l1.length+1 by omega),e1,kr (xw n),FB (show¬n=l1.length by omega),zx,xt,zn];rfl⟩
 obtain⟨X,j⟩:=j;have D:Op.aA 3 [B5,B1 0,B5] [.gslice b 0 n 3 0 n,.int .i64 (l1.length:Int)]=B1 (.gslice b 0 n 3 0 l1.length):=by
  simp only[Op.aA,arg,jN,zj,qr,dk,g,e (show l1.length<=n-0 by omega),e1,kr (show l1.length<=n-0 by omega),kr (xw _),zx,xt];rfl
 have E:Op.aA 3 [B1 0,B5,B5] [.gslice b 0 n 3 0 n,.int .i64 ((l1.length+1:Nat):Int)]=B1 (.gslice b (l1.length+1) n 3 0 (n-(l1.length+1))):=by
  simp only[yg,Op.aA,arg,jN,zj,qr,dk,g,e (show l1.length+1<=n by omega),e1,kr (show l1.length+1<=n by omega),kr (show n<=n-0 by omega),zx,xt];rfl
 -- what was behind it comes up
 have N:∃H1 T,T.length=3/\Op.append vp 3 24 [.gslice b 0 n 3 0 l1.length,.gslice b (l1.length+1) n 3 0 (n-(l1.length+1))] H=B1 (.gslice b 0 n 3 0 (l1.length+l2.length),H1)/\H1.get b=B1 (.grown n 3 (l1.flatMap Act.enc++l2.flatMap Act.enc++T) vp (0,0))/\Fr (aM (.gslice b 0 n 3 0 n)) H H1/\b<H1.au:=by
  have lv:eN (.gslice b (l1.length+1) n 3 0 (n-(l1.length+1)))=B1 l2.length:=by show B1 _=_;congr 1;omega
  have one:=my Act.one l2;have A:=kr (show 0+l1.length<=n by omega)
  by_cases c:l2.length=0
  .obtain rfl:l2=[]:=jz.1 c;refine⟨H,x.enc,rfl,?_,by rw[f,ku];rfl,Fr.refl _,C⟩;simp only[Op.append,lv,qr,firstCells,jq,JW,xt,aL,cS,A,Ah]
  .have K:firstCells H 3 l2.length (.gslice b (l1.length+1) n 3 0 (n-(l1.length+1)))=B1 (l2.flatMap Act.enc):=by
    simp only[firstCells,FB c,zn,e1,AK (show l1.length+1<n by omega),zx,xt,ar.aq,Ra f,qr,tR];rw[xg (by simp only[xe];omega),<-ku,Ci (by rw[xe];omega),za (by omega)]
   have st:H.store b ((0+l1.length)*3) (l2.flatMap Act.enc)=B1 (H.set b (.grown n 3 (l1.flatMap Act.enc++l2.flatMap Act.enc++(x.enc++l2.flatMap Act.enc).drop (l2.length*3)) vp (0,0))):=by
    simp only[ar.store,one,xt,f,show dG (0,0) ((0+l1.length)*3) (cV (l2.flatMap Act.enc))=B4 by simp[dG],AQ];rw[xg (by simp only[xe];omega),Kh (by omega),show(0+l1.length)*3+(l2.flatMap Act.enc).length=(l1.flatMap Act.enc).length+l2.length*3 by omega,vy];rfl
   refine⟨_,(x.enc++l2.flatMap Act.enc).drop (l2.length*3),by rw[yk,xe];omega,?_,xc ..,(Fr.refl H).set (.inl ⟨by simp,rfl⟩) _,C⟩;simp only[Op.append,lv,qr,K,one,xt,cS,FB c,zn,e1,A,show OO 0 3=B4 from rfl,zx,kr (show 0+l1.length+l2.length<=n by omega),st]
 obtain⟨H1,T,W,ap,L,J,u⟩:=N;have o:∃alt,Op.aA 3 [B1 0,B1 1,B5] [.gslice b 0 n 3 0 (l1.length+l2.length),.int .i64 ((l1.length+l2.length:Nat):Int),.int .i64 (n:Int)]=B1 (.gslice b (l1.length+l2.length) n 3 alt 1):=⟨_,by
  simp only[yg,Op.aA,arg,jN,zj,z8,qr,dk,e (show n<=n-0 by omega),e (show l1.length+l2.length<=n by omega),e1,kr (show n<=n-0 by omega),kr (xw _),zx,xt,show n-(l1.length+l2.length)=1 by omega];rfl⟩
 obtain⟨alt,o⟩:=o;have I:Op.bS [.int .i64 0,.int .i64 0,.int .i64 0] [.gslice b (l1.length+l2.length) n 3 alt 1] H1=B1 (.tuple [],H1.set b (.grown n 3 (l1.flatMap Act.enc++l2.flatMap Act.enc ++ [.int .i64 0,.int .i64 0,.int .i64 0]) vp (0,0))):=by
  have st:H1.store b ((l1.length+l2.length)*3+0*3) [.int .i64 0,.int .i64 0,.int .i64 0]=B1 (H1.set b (.grown n 3 (l1.flatMap Act.enc++l2.flatMap Act.enc ++ [.int .i64 0,.int .i64 0,.int .i64 0]) vp (0,0))):=by
   simp only[ar.store,show aL [AV.int .i64 0,.int .i64 0,.int .i64 0]=B4 from rfl,xt,L,show dG (0,0) ((l1.length+l2.length)*3+0*3) (cV [AV.int .i64 0,.int .i64 0,.int .i64 0])=B4 by simp[dG],AQ];rw[xg (by simp only[xe,zu,jq];omega),Kh (by rw[xe];omega),jh (by simp only[xe,zu,jq];omega),zp];rfl
  have lv:eN (.gslice b (l1.length+l2.length) n 3 alt 1)=B1 1:=rfl;have he:elemAt 3 (.gslice b (l1.length+l2.length) n 3 alt 1) 0=B1 (b,(l1.length+l2.length)*3+0*3):=by
   simp only[elemAt,show OO 0 1=B4 from rfl,e1,AK (show l1.length+l2.length+0<n by omega),zx,xt]
  simp only[Op.bS,lv,qr,show JW 1 0=B2 from rfl,zn,show[AV.int .i64 0,.int .i64 0,.int .i64 0].length=3 from rfl,he,show fY 1 [AV.int .i64 0,.int .i64 0,.int .i64 0]=[AV.int .i64 0,.int .i64 0,.int .i64 0]from rfl,st]
 have t:Op.cG [.gslice b 0 n 3 0 n]=B1 (.int .i64 (n:Int)):=rfl;have yW:Op.cG [.gslice b 0 n 3 0 (l1.length+l2.length)]=B1 (.int .i64 ((l1.length+l2.length:Nat):Int)):=rfl;have ne:¬((l1.length:Nat):Int)=((l1.length+1:Nat):Int):=by omega
 refine qoq ?_;simp only[aa,bc,qor,t,j,ne,D,E,ap,yW,o,I];refine⟨⟨⟨by rw[ki,xe,xe];omega,by rw[xe],rfl,by rw[xe];omega,.inr ⟨u,_,Ra (xc ..),?_⟩⟩,.inr ⟨b,n,_,by rw[xe],u,by rw[xe];omega,by rw[xc,ki]⟩⟩,J.set (.inl ⟨by simp,rfl⟩) _,λ z q=>⟨by simp,q.2⟩⟩;rw[tR,xg (by simp only[xe,zu,jq];omega),AN,yw,ki,Kh (by simp only[xe];omega)]
def xd1{H:ar}{a:AV}{l:List Act}(ha:bI Act.enc 3 H a l){i:Nat}(d:i<l.length)(hl:l.length<=100000):zb M qpd [a,.int .i64 (i:Int)] H λ r H'=>CF H' r (l.eraseIdx i)/\Fr Em H H' /\ ∀z,aM r z->H.au<=z/\z<H'.au:=by
 refine q1b ?_;simp only[aa,bc,q1c];refine C3.q (xem ha hl) λ v H1⟨o,nw,f⟩=>?_;have e:aj .i64 ((i:Int)+1)=((i+1:Nat):Int):=by rw[jc (by omega) (by omega)];omega
 simp only[aa,bc,e];refine C3.q (xk7 o d hl) λ r g⟨s,c,n2⟩=>?_;simp only[aa,bc];exact⟨s,f.trans c λ z q=>.inr (nw z q),λ z q=>⟨nw z (n2 z q),qn (Own.lt o z (n2 z q)) c.au⟩⟩
end Go.Am
namespace Go.Am
open Lang Go.Proofs
variable{M:ak}[MK M]
def uh(H:ar)(sv:List AV)(x0:Wo)(ok:Prop):Prop:=∃l c s wy f so sf pv fv ps fs,sv=UF l c s wy pv f so sf fv/\bI mh 1 H pv ps/\(∀p∈ps,bI gU 1 H p.1 p.2/\vM H p.1/\p.2.length<=100000)/\bI cD 8 H fv fs/\(∀x∈fs,x.u)/\vM H fv/\x0=ZZ l c s wy fs (ps.map C4) f so sf/\ok=VT l c s wy fs (ps.map C4).length f so sf
section
variable{H H':ar}{sv:List AV}{x0:Wo}{ok:Prop}
def uh.em(h:uh H sv x0 ok)(f:Fr Em H H'):uh H' sv x0 ok:=by
 have⟨l,c,s,v,f',so,u,pv,fv,t,fs,e,g,d,j,n,o,r⟩:=h;exact⟨l,c,s,v,f',so,u,pv,fv,t,fs,e,Sl.em g f,λ p q=>⟨Sl.em (d p q).1 f,(d p q).2.1.em f.au,(d p q).2.2⟩,Sl.em j f,n,o.em f.au,r⟩
def uh.len(h:uh H sv x0 ok):sv.length=9:=by
 have⟨l,c,s,g,f',so,f,pv,fv,e,fs,d,_⟩:=h;rw[d];rfl
def uh.zero(h:uh H sv x0 ok)(d:ok):x0.h=[]/\x0.n=0/\x0.b.l.length<=64:=by
 have⟨l,c,s,C,f',so,A,pv,fv,z,fs,j,o,r,t,u,v,f,g⟩:=h;subst f;rw[g]at d;refine⟨rfl,rfl,?_⟩;have e:=d.1.1.1.1.2;show(Ji l.toNat iL).length<=64;rw[jg];omega
def uh.new{b T:Nat}(h:uh H sv x0 ok)(g:H.get b=B1 (OR sv T)):∃a p u q,Op.aq 4 [.ptr b 0] H=B1 a/\Op.ae [.ptr b 4] H=B1 p/\Op.aq 3 [.ptr b 5] H=B1 u/\Op.ae [.ptr b 8] H=B1 q /\
 zb M Y0 [a,p,u,q] H λ v H'=>Fr Em H H'/\(¬ok/\v=.tuple [.nilp,.int .i64 2]\/ok /\ ∃w nb,v=.tuple [.ptr w 0,.int .i64 0]/\H.au<=nb/\W1 nb H' w 0 x0 Em):=by
 have⟨l,c,s,L,f',so,K,pv,fv,N,fs,t,A,d,o,C,D,E,I⟩:=h;subst t;refine⟨.agg (eH l c s L),pv,.agg [.int .i64 f',.int .i64 so,.int .i64 K],fv,by rw[rS (xb g) (by show 0+4<=9;decide)];rfl,vg g 4,by rw[rS (xb g) (by show 5+3<=9;decide)];rfl,vg g 8,?_⟩;refine(xkf A (λ p q=>⟨(d p q).1,(d p q).2.1.lt (d p q).1,(d p q).2.2⟩) o (λ q=>D.lt o q) C).mono λ v H'⟨f,r⟩=>⟨f,?_⟩
 rw[E,I];rcases r with r|⟨r,Hb,w,B,j,bs,own,ks,V,e,n,J⟩
 .exact .inl r
 .exact .inr ⟨r,w,_,e,n,Hb,B,j,.nils,bs,own,ks,V,rfl,J,λ z q=>q.elim⟩
def xZ(ok:Prop)(y:uc)(n:Nat):Prop:=ok/\1<=y.kd/\y.kd<=4/\n<=40
def wU{b T:Nat}{y:uc}(g:H.get b=B1 (OR (fJ y) T)):Op.ae [.ptr b 0] H=B1 (.int .i64 y.kd)/\Op.ae [.ptr b 1] H=B1 (.int .i64 y.co)/\Op.ae [.ptr b 2] H=B1 (.int .i64 y.ad)/\Op.ae [.ptr b 3] H=B1 (.int .u64 y.v)/\Op.ae [.ptr b 4] H=B1 (.int .i64 y.n)/\Op.aq 5 [.ptr b 0] H=B1 (.agg (fJ y)):=⟨vg g 0,vg g 1,vg g 2,vg g 3,vg g 4,eJ g rfl⟩
def MdQ(H:ar)(x0:Wo)(o:Prop)(v:AV)(H':ar):Prop:=Fr Em H H'/\(¬o/\v=.tuple [.nilp,.int .i64 2]\/o /\ ∃w nb,v=.tuple [.ptr w 0,.int .i64 0]/\H.au<=nb/\W1 nb H' w 0 x0 Em)
def σ(h:uh H sv x0 ok){lv:AV}{n:Nat}(hl:Op.cG [lv]=B1 (.int .i64 (n:Int)))(y:uc):zb M P_ [.agg sv,lv,.agg (fJ y)] H (MdQ H x0 (xZ ok y n)):=by
 refine xa3 ?_;have⟨H1,e1,D,n1,E⟩:=bZ H (OR sv yv);have⟨A,e2,c,n2,I⟩:=bZ H1 (OR (fJ y) vY);have j:=D.em c;have o:A.get H.au=B1 (OR sv yv):=(c.ah _ (by omega) id).trans E;obtain⟨a,p,u,q,N,K,L,O,hn⟩:=(h.em j).new (M:=M) o;simp only[aa,bc,Ng,<-e1,<-e2,N,K,L,O];refine C3.q hn λ v C⟨z,r⟩=>?_;have F:=j.em z;have Q:¬(2:Int)=0:=by decide
 have f:¬ ¬(0:Int)=0:=λ q=>q rfl;rcases r with⟨no,rfl⟩|⟨yes,w,nb,rfl,nn,hw⟩
 .simp only[aa,bc,Ng,aw,Q];exact⟨F,.inl ⟨λ q=>no q.1,rfl⟩⟩
 have J:C.get H1.au=B1 (OR (fJ y) vY):=(z.ah _ (by omega) id).trans I;obtain⟨e,-⟩:=wU J
 by_cases d:y.kd<1
 .simp only[aa,bc,Ng,aw,f,e,qv d];exact⟨F,.inl ⟨λ q=>by have:=q.2.1;omega,rfl⟩⟩
 by_cases g:4<y.kd
 .simp only[aa,bc,Ng,aw,f,e,d,qv g];exact⟨F,.inl ⟨λ q=>by have:=q.2.2.1;omega,rfl⟩⟩
 by_cases t:(40:Int)<(n:Int)
 .simp only[aa,bc,Ng,aw,f,e,d,g,hl,qv t];exact⟨F,.inl ⟨λ q=>by have:=q.2.2.2;omega,rfl⟩⟩
 .simp only[aa,bc,Ng,aw,f,e,d,g,hl,t];exact⟨F,.inr ⟨⟨yes,by omega,by omega,by omega⟩,w,nb,rfl,by have:=j.au;omega,hw⟩⟩
end
section
variable{H H':ar}{nb w k:Nat}{x:Wo}{F:Nat->Prop}
def xex(h:W1 nb H w k x F)(hl:x.h.length<=100000)(kd co:Int):zb M B' [.ptr w 0,.int .i64 kd,.int .i64 co] H λ v H'=>v=.int .i64 ((x.h.countP λ e=>decide (e.kind=kd/\e.core=co):Nat):Int)/\Fr Em H H':=by
 refine q6d ?_;simp only[aa,bc,Rh];refine C3.q (Θ h hl) λ u H1⟨hs,I⟩=>?_;have ln:=hs.len;simp only[aa,bc,ln];refine cu.intro (λ n E Hx=>∃i:Nat,E=[(13,.int .i64 (i:Int)),(12,.int .i64 ((x.h.length:Nat):Int)),(11,u),(7,.int .i64 (((x.h.take i).countP λ e=>decide (e.kind=kd/\e.core=co):Nat):Int)),(1,.int .i64 kd),(2,.int .i64 co)]/\Fr Em H1 Hx/\n=x.h.length-i/\i<=x.h.length) ?_ ?_
 .exact ⟨_,_,⟨0,rfl,Fr.refl _,rfl,xw _⟩,by simp only[aa,bc,yf,List.countP_nil]⟩
 rintro n E Hx ⟨i,rfl,g,rfl,K⟩
 by_cases d:i<x.h.length
 .have q:(i:Int)<((x.h.length:Nat):Int):=by omega
  obtain⟨e,he⟩:∃e,x.h[i]? = B1 e:=⟨_,xf d⟩
  have D:=Sl.em hs g;have ix:=(show bI fk.enc 9 Hx u x.h from D).idx he (z:=(i:Int)) rfl .i64;have ld:=(show bI fk.enc 9 Hx u x.h from D).aq Td (by decide) he;have A:aj .i64 ((i:Int)+1)=((i+1:Nat):Int):=by rw[jc (by omega) (by omega)];omega
  have tk:x.h.take (i+1)=x.h.take i ++ [e]:=by rw[j7,he];rfl
  obtain⟨c,f⟩:∃c,c=(x.h.take i).countP λ e=>decide (e.kind=kd/\e.core=co):=⟨_,rfl⟩
  have cl:c<=i:=by rw[f];exact xx (List.countP_le_length) (by rw[js];omega)
  have J:aj .i64 ((c:Int)+1)=((c+1:Nat):Int):=by rw[jc (by omega) (by omega)];omega
  have⟨r,e2,t,n2,C⟩:=bZ Hx (OR e.enc jr);have s2:Op.store 9 [.ptr Hx.au 0,.agg e.enc] (Hx.alloc (OR [.int .i64 0,.int .i64 0,.int .i64 0,.int .i64 0,.int .i64 0,.int .i64 0,.int .i64 0,.int .u64 0,.int .i64 0] jr))=B1 (.undef,r):=by rw[fK (n:=9) (l:=[.int .i64 0,.int .i64 0,.int .i64 0,.int .i64 0,.int .i64 0,.int .i64 0,.int .i64 0,.int .u64 0,.int .i64 0]) (xp Hx _) rfl (Td e) rfl,Oh,e2]
  have l0:Op.ae [.ptr Hx.au 0] r=B1 (.int .i64 e.kind):=vg C 0;have l2:Op.ae [.ptr Hx.au 2] r=B1 (.int .i64 e.core):=vg C 2
  by_cases j:e.kind=kd
  .by_cases o:e.core=co
   .simp only[aa,bc,Rh,qv q,ix,ld,s2,l0,qv j,l2,qv o,<-f,J,A];refine⟨_,_,⟨i+1,rfl,g.em t,rfl,d⟩,by simp only[aa,bc,tk,N1,<-f];simp[j,o],by omega⟩
   .simp only[aa,bc,Rh,qv q,ix,ld,s2,l0,qv j,l2,o,<-f,A];refine⟨_,_,⟨i+1,rfl,g.em t,rfl,d⟩,by simp only[aa,bc,tk,N1,<-f];simp[o],by omega⟩
  .simp only[aa,bc,Rh,qv q,ix,ld,s2,l0,j,<-f,A];refine⟨_,_,⟨i+1,rfl,g.em t,rfl,d⟩,by simp only[aa,bc,tk,N1,<-f];simp[j],by omega⟩
 .have q:¬(i:Int)<((x.h.length:Nat):Int):=by omega
  simp only[aa,bc,Rh,q];rw[za (by omega)];exact⟨rfl,I.em g⟩
def Fg(h:W1 nb H w k x F)(C:x.h.length<=100000)(hl:x.b.l.length<=64)(hk:k<=90000)(y:uc):zb M ZG [.ptr w 0,.agg (fJ y)] H λ v H'=>v=.bool (x.Rm y)/\Fr Em H H':=by
 refine xdt ?_;have⟨H1,e1,e,n1,o⟩:=bZ H (OR (fJ y) vY);have⟨I,z,A,K,J,L⟩:=wU o;have t:=h.em e;unfold Wo.Rm;simp only[aa,bc,JA,<-e1,z,xd0 t y.co,aw,I]
 by_cases d:y.kd=1
 .rw [xg d];simp only[aa,bc,JA,qv d,A];refine C3.q (Bv t hl hk y.ad) λ v n⟨u,f⟩=>?_;subst u;have r:n.get H.au=B1 (OR (fJ y) vY):=(f.ah _ (by omega) id).trans o;obtain⟨-,-,-,D,-⟩:=wU r
  by_cases c:(x.b.td y.ad).2=0
  .simp only[aa,bc,JA,aw,qv c,D];exact e.em f
  .simp only[aa,bc,JA,aw,c];exact e.em f
 rw[qy d]
 by_cases g:y.kd=2
 .rw [xg g];simp only[aa,bc,JA,d,qv g,A,z,J];refine C3.q (xex t C y.ad y.co) λ v n⟨u,f⟩=>?_;subst u;have r:n.get H.au=B1 (OR (fJ y) vY):=(f.ah _ (by omega) id).trans o;obtain⟨-,-,-,-,E,-⟩:=wU r;simp only[aa,bc,JA,E];exact⟨rfl,e.em f⟩
 rw[qy g]
 by_cases j:y.kd=3
 .rw [xg j];simp only[aa,bc,JA,d,g,qv j];exact e
 .rw [qy j];simp only[aa,bc,JA,d,g,j];exact e
end
end Go.Am
namespace Go.Am
open Lang Go.Proofs
variable{M:ak}[MK M]
def PW(x0:Wo)(y:uc)(l:List Act):Bool:=(x0.run l).1.Rm y
def Wl:∀(l:List Act)(x:Wo),yW (x.run l).1.b=yW x.b
 |[],x=>rfl
 |a::l,x=>(Wl l _).trans (x.KJ a)
structure AA(H0:ar)(nb w:Nat)(x0:Wo)(ls:List Act)(i:Nat)(Hx:ar):Prop where
 w:∃F,W1 nb Hx w (2*i) (x0.run (ls.take i)).1 F /\ ∀z,z<nb->F z
 fr:Fr Em H0 Hx
section
variable{H0 H H' Hx:ar}{nb w i:Nat}{x0:Wo}{ls:List Act}{sv:List AV}{ok:Prop}{lv:AV}
def AA.em(h:AA H0 nb w x0 ls i H)(f:Fr Em H H'):AA H0 nb w x0 ls i H':=by
 have⟨F,a,b⟩:=h.w;exact⟨⟨_,a.em f,λ z q=>.inl (b z q)⟩,h.fr.em f⟩
def AA.new(h:W1 nb H w 0 x0 Em)(f:Fr Em H0 H):AA H0 nb w x0 ls 0 H:=⟨⟨_,h.below,λ z q=>.inr q⟩,f⟩
def AA.do(h:AA H0 nb w x0 ls i Hx){a:Act}(ha:ls[i]? = B1 a)(f:x0.h=[]/\x0.n=0/\x0.b.l.length<=64)(u:i<=1000)(d:oJ H0)(hn:H0.au<=nb):zb M SH [.ptr w 0,.agg a.enc] Hx λ _ H'=>AA H0 nb w x0 ls (i+1) H':=by
 have⟨F,g,c⟩:=h.w;have A:(ls.take i).length<=i:=by rw[js];omega
 have o:=Wo.JY (ls.take i) x0;have j:=Wo.xU (ls.take i) x0;have t:=d.2;rw[f.1,jq]at j;rw[f.2.1]at o;refine(Q9 g (by omega) (d.em h.fr) (by omega) (by omega) (by omega) (by omega) a).mono λ v H'⟨_,p⟩=>?_;have e:(x0.run (ls.take (i+1))).1=((x0.run (ls.take i)).1.act a).1:=by
  rw[j7,ha,show(B1 a).toList=[a]from rfl,Wo.yF];rfl
 refine⟨⟨λ z=>F z\/Em z,by rw[e];exact p.w,λ z q=>.inl (c z q)⟩,xx h.fr.au p.n,λ z r q=>(p.kp z (c z (by omega))).trans (h.fr.ah z r q)⟩
def AA.has(h:AA H0 nb w x0 ls i Hx)(d:x0.h=[]/\x0.n=0/\x0.b.l.length<=64)(g:i<=1000)(y:uc):zb M ZG [.ptr w 0,.agg (fJ y)] Hx λ v H'=>v=.bool (PW x0 y (ls.take i))/\Fr Em Hx H':=by
 have⟨F,c,f⟩:=h.w;have j:(ls.take i).length<=i:=by rw[js];omega
 have e:=Wo.xU (ls.take i) x0;rw[d.1,jq]at e;have o:((x0.run (ls.take i)).1.b).l.length=x0.b.l.length:=congrArg C4 (Wl (ls.take i) x0);exact Fg c (by omega) (by omega) (by omega) y
def HdQ(H:ar)(o:Prop)(b:Bool)(v:AV)(H':ar):Prop:=Fr Em H H'/\(¬o/\v=.tuple [.bool B2,.int .i64 2]\/o/\v=.tuple [.bool b,.int .i64 0])
def UY:[AV.int .i64 0,.int .i64 0,.int .i64 0]=Act.enc ⟨0,0,0⟩:=rfl
def WC(h:uh H sv x0 ok)(hs:bI Act.enc 3 H lv ls)(R:oJ H)(y:uc):zb M ZX [.agg sv,lv,.agg (fJ y)] H (HdQ H (xZ ok y ls.length) (PW x0 y ls)):=by
 refine q7w ?_;have⟨H1,e1,K,n1,O⟩:=bZ H (OR sv yv);have⟨o,e2,d,n2,u⟩:=bZ H1 (OR (fJ y) vY);have c:=K.em d;have U:Op.aq 9 [.ptr H.au 0] o=B1 (.agg sv):=eJ ((d.ah _ (by omega) id).trans O) h.len;obtain⟨-,-,-,-,-,j⟩:=wU u;have ln:=(Sl.em hs c).len;simp only[aa,bc,Le,<-e1,<-e2,U,j];refine C3.q (σ (h.em c) ln y) λ v H3⟨t,r⟩=>?_;have Z:¬(2:Int)=0:=by decide
 have X:¬ ¬(0:Int)=0:=λ q=>q rfl;rcases r with⟨no,rfl⟩|⟨yes,w,nb,rfl,nn,hw⟩
 .simp only[aa,bc,Le,aw,Z];exact⟨c.em t,.inl ⟨no,rfl⟩⟩
 have A:=h.zero yes.1;have W:=yes.2.2.2;simp only[aa,bc,Le,aw,X,ln];refine cu.intro (λ n E Hx=>∃i:Nat,E=[(24,.int .i64 (i:Int)),(23,.int .i64 ((ls.length:Nat):Int)),(22,lv),(8,.ptr w 0),(5,.ptr H1.au 0)]/\AA o nb w x0 ls i Hx/\n=ls.length-i/\i<=ls.length) ?_ ?_
 .exact ⟨_,_,⟨0,rfl,.new hw t,rfl,xw _⟩,by simp only[aa,bc]⟩
 rintro n E Hx ⟨i,rfl,e,rfl,hi⟩
 by_cases f:i<ls.length
 .have q:(i:Int)<((ls.length:Nat):Int):=by omega
  obtain⟨a,ha⟩:∃a,ls[i]? = B1 a:=⟨_,xf f⟩
  have C:=Sl.em hs (c.em e.fr);have ix:=(show bI Act.enc 3 Hx lv ls from C).idx ha (z:=(i:Int)) rfl .i64;have ld:=(show bI Act.enc 3 Hx lv ls from C).aq Act.len (by decide) ha;have wi:aj .i64 ((i:Int)+1)=((i+1:Nat):Int):=by rw[jc (by omega) (by omega)];omega
  have⟨D,J,L,n4,Q⟩:=bZ Hx (OR a.enc vp);have Y:Op.store 3 [.ptr Hx.au 0,.agg a.enc] (Hx.alloc (OR (Act.enc ⟨0,0,0⟩) vp))=B1 (.undef,D):=by rw[fK (xp Hx _) (Act.len _) (Act.len a) (Act.one a),Oh,J]
  have l4:=eJ Q (Act.len a);simp only[aa,bc,Le,qv q,ix,ld,UY,Y,l4];refine C3.q ((e.em L).do ha A (by omega) (R.em c) nn) λ v I g=>?_;simp only[aa,bc,Le,wi];exact⟨_,_,⟨i+1,rfl,g,rfl,f⟩,by simp only[aa,bc],by omega⟩
 .have q:¬(i:Int)<((ls.length:Nat):Int):=by omega
  obtain⟨-,-,-,-,-,j⟩:=wU (H:=Hx) (y:=y) (b:=H1.au) (T:=vY) ((e.fr.ah _ (by omega) id).trans u);simp only[aa,bc,Le,q,j];refine C3.q (e.has A (by omega) y) λ v I⟨S,N⟩=>?_;subst S;rw[za (by omega)];simp only[aa,bc,Le];exact⟨(c.em e.fr).em N,.inr ⟨yes,rfl⟩⟩
def fsV(o:Option Nat):AV:=match o with
 |some n=>.tuple [.int .i64 (n:Int),.int .i64 0]
 |none=>.tuple [.int .i64 0,.int .i64 280]
def FsQ(H:ar)(o:Prop)(b:Option Nat)(v:AV)(H':ar):Prop:=Fr Em H H'/\(¬o/\v=.tuple [.int .i64 0,.int .i64 2]\/o/\v=fsV b)
def J_(h:uh H sv x0 ok)(hs:bI Act.enc 3 H lv ls)(W:oJ H)(y:uc):zb M Z8 [.agg sv,lv,.agg (fJ y)] H (FsQ H (xZ ok y ls.length) (sj (PW x0 y) ls)):=by
 refine q7v ?_;have⟨H1,e1,R,n1,U⟩:=bZ H (OR sv yv);have⟨I,e2,g,n2,L⟩:=bZ H1 (OR (fJ y) vY);have d:=R.em g;have Y:Op.aq 9 [.ptr H.au 0] I=B1 (.agg sv):=eJ ((g.ah _ (by omega) id).trans U) h.len;obtain⟨-,-,-,-,-,C⟩:=wU L;have ln:=(Sl.em hs d).len;simp only[aa,bc,Hu,<-e1,<-e2,Y,C];refine C3.q (σ (h.em d) ln y) λ v H3⟨K,r⟩=>?_;have tz:¬(2:Int)=0:=by decide
 have q0:¬ ¬(0:Int)=0:=λ q=>q rfl;rcases r with⟨no,rfl⟩|⟨yes,w,nb,rfl,nn,hw⟩
 .simp only[aa,bc,Hu,aw,tz];exact⟨d.em K,.inl ⟨no,rfl⟩⟩
 have N:=h.zero yes.1;have Z:=yes.2.2.2;have wl:aj .i64 (((ls.length:Nat):Int)+1)=((ls.length+1:Nat):Int):=by rw[jc (by omega) (by omega)];omega
 simp only[aa,bc,Hu,aw,q0,ln,wl];refine cu.intro (λ n E Hx=>∃i:Nat,E=[(24,.int .i64 (i:Int)),(23,.int .i64 ((ls.length+1:Nat):Int)),(8,.ptr w 0),(5,.ptr H1.au 0),(1,lv)]/\AA I nb w x0 ls (min i ls.length) Hx/\n=ls.length+1-i/\i<=ls.length+1 /\ ∀k,k<i->PW x0 y (ls.take k)=B2) ?_ ?_
 .exact ⟨_,_,⟨0,rfl,by rw[Nat.zero_min];exact .new hw K,rfl,xw _,λ k q=>by omega⟩,by simp only[aa,bc]⟩
 rintro n E Hx ⟨i,rfl,j,rfl,hi,f⟩
 by_cases o:i<ls.length+1
 .have q:(i:Int)<((ls.length+1:Nat):Int):=by omega
  rw[show min i ls.length=i by omega]at j;have Q:aj .i64 ((i:Int)+1)=((i+1:Nat):Int):=by rw[jc (by omega) (by omega)];omega
  obtain⟨-,-,-,-,-,C⟩:=wU (H:=Hx) (y:=y) (b:=H1.au) (T:=vY) ((j.fr.ah _ (by omega) id).trans L);simp only[aa,bc,Hu,qv q,C];refine C3.q (j.has N (by omega) y) λ v J⟨X,S⟩=>?_;subst X;have c:=j.em S;cases hp:PW x0 y (ls.take i)with
  |true =>
   simp only[aa,bc,Hu];exact⟨d.em c.fr,.inr ⟨yes,by rw[y_ _ (by omega) hp f];rfl⟩⟩
  |false =>
   have t:∀k,k<i+1->PW x0 y (ls.take k)=false:=λ k hk=>by
    by_cases e:k=i
    .rw [e];exact hp
    .exact f k (by omega)
   by_cases A:i<ls.length
   .have D:(i:Int)<((ls.length:Nat):Int):=by omega
    obtain⟨a,ha⟩:∃a,ls[i]? = B1 a:=⟨_,xf A⟩
    have O:=Sl.em hs (d.em c.fr);have ix:=(show bI Act.enc 3 J lv ls from O).idx ha (z:=(i:Int)) rfl .i64;have ld:=(show bI Act.enc 3 J lv ls from O).aq Act.len (by decide) ha;simp only[aa,bc,Hu,ln,qv D,ix,ld];refine C3.q (c.do ha N (by omega) (W.em d) nn) λ v H6 u=>?_;simp only[aa,bc,Hu,Q];exact⟨_,_,⟨i+1,rfl,by rw[show min (i+1) ls.length=i+1 by omega];exact u,rfl,o,t⟩,by simp only[aa,bc],by omega⟩
   .have D:¬(i:Int)<((ls.length:Nat):Int):=by omega
    simp only[aa,bc,Hu,ln,D,Q];exact⟨_,_,⟨i+1,rfl,by rw[show min (i+1) ls.length=i by omega];exact c,rfl,o,t⟩,by simp only[aa,bc],by omega⟩
 .have q:¬(i:Int)<((ls.length+1:Nat):Int):=by omega
  simp only[aa,bc,Hu,q];exact⟨d.em j.fr,.inr ⟨yes,by rw[xlq _ λ k hk=>f k (by omega)];rfl⟩⟩
end
end Go.Am
namespace Go.Am
open Lang Go.Proofs
variable{M:ak}[MK M]
def _D(o:Prop)(b:Bool)(n:Int):Prop:=(¬o/\n=2)\/(o/\b=B2/\n=280)\/(o/\b=B4/\n=0)
def WtQ(H:ar)(o:Prop)(b:Bool)(v:AV)(H':ar):Prop:=Fr Em H H' /\ ∃n,v=.int .i64 n/\_D o b n
section
variable{H0 H H' Hx:ar}{nb w i:Nat}{x0:Wo}{ls:List Act}{sv:List AV}{ok:Prop}{lv:AV}
def xf7(h:uh H sv x0 ok)(hs:bI Act.enc 3 H lv ls)(o:oJ H)(y:uc):zb M y0 [.agg sv,lv,.agg (fJ y)] H (WtQ H (xZ ok y ls.length) (PW x0 y ls)):=by
 refine q6e ?_;have⟨H1,e1,g,n1,j⟩:=bZ H (OR sv yv);have⟨f,e2,d,n2,n⟩:=bZ H1 (OR (fJ y) vY);have c:=g.em d;have u:Op.aq 9 [.ptr H.au 0] f=B1 (.agg sv):=eJ ((d.ah _ (by omega) id).trans j) h.len;obtain⟨-,-,-,-,-,t⟩:=wU n;simp only[aa,bc,R6,<-e1,<-e2,u,t];refine C3.q (WC (h.em c) (Sl.em hs c) (o.em c) y) λ v A⟨e,r⟩=>?_;have z:¬(2:Int)=0:=by decide
 rcases r with⟨no,rfl⟩|⟨yes,rfl⟩
 .simp only[aa,bc,R6,aw,z];exact⟨c.em e,_,rfl,.inl ⟨no,rfl⟩⟩
 .cases hp:PW x0 y ls with
  |true =>
   simp only[aa,bc,R6,aw];exact⟨c.em e,_,rfl,.inr (.inr ⟨yes,rfl,rfl⟩)⟩
  |false =>
   simp only[aa,bc,R6,aw];exact⟨c.em e,_,rfl,.inr (.inl ⟨yes,rfl,rfl⟩)⟩
def Ed(b:Bool):List AV:=[.bool b]
def ag7(b:Bool):(Ed b).length=1:=rfl
def iT(P:List Act->Bool)(ls:List Act):List Bool:=(MX ls.length).map λ i=>!P (ls.eraseIdx i)
def xZ.less{y:uc}{n m:Nat}(h:xZ ok y n)(q:m<=n):xZ ok y m:=⟨h.1,h.2.1,h.2.2.1,by have:=h.2.2.2;omega⟩
def NdQ(H:ar)(o:Prop)(P:List Act->Bool)(ls:List Act)(v:AV)(H':ar):Prop:=Fr Em H H'/\((∃n,v=.tuple [.nils,.int .i64 n]/\_D o (P ls) n/\n≠0)\/(o/\P ls=B4 /\ ∃nv,v=.tuple [nv,.int .i64 0]/\bI Ed 1 H' nv (iT P ls)))
def q2q(h:uh H sv x0 ok)(hs:bI Act.enc 3 H lv ls)(J:oJ H)(y:uc):zb M qqk [.agg sv,lv,.agg (fJ y)] H (NdQ H (xZ ok y ls.length) (PW x0 y) ls):=by
 refine q6c ?_;have⟨H1,e1,N,n1,Q⟩:=bZ H (OR sv yv);have⟨o,e2,g,n2,R⟩:=bZ H1 (OR (fJ y) vY);have d:=N.em g;have A:o.get H.au=B1 (OR sv yv):=(g.ah _ (by omega) id).trans Q;have bx:∀{Hx:ar},Fr Em o Hx->Op.aq 9 [.ptr H.au 0] Hx=B1 (.agg sv)/\Op.aq 5 [.ptr H1.au 0] Hx=B1 (.agg (fJ y)):=λ{Hx}f=>⟨eJ ((f.ah _ (by omega) id).trans A) h.len,(wU ((f.ah _ (by omega) id).trans R)).2.2.2.2.2⟩
 have ln:=(Sl.em hs d).len;simp only[aa,bc,I1,<-e1,<-e2,bx (Fr.refl _)];refine C3.q (xf7 (h.em d) (Sl.em hs d) (J.em d) y) λ v H3⟨D,n,S,hn⟩=>?_;subst S
 by_cases n0:n=0
 case neg =>
  simp only[aa,bc,I1,qv n0];exact⟨d.em D,.inl ⟨n,rfl,hn,n0⟩⟩
 subst n0;obtain⟨yes,hp⟩:xZ ok y ls.length/\PW x0 y ls=true:=by rcases hn with⟨_,q⟩|⟨_,_,q⟩|⟨a,b,_⟩;cases q;cases q;exact⟨a,b⟩
 have T:=yes.2.2.2;simp only[aa,bc,I1,ln];refine cu.intro (λ n E Hx=>∃(i:Nat)(j:AV),E=[(22,.int .i64 (i:Int)),(21,.int .i64 ((ls.length:Nat):Int)),(9,j),(5,.ptr H1.au 0),(3,.ptr H.au 0),(1,lv)]/\Fr Em o Hx/\aO Ed Ln 1 Hx j ((iT (PW x0 y) ls).take i)/\(∀z,aM j z->o.au<=z)/\n=ls.length-i/\i<=ls.length) ?_ ?_
 .exact ⟨_,_,⟨0,.nils,rfl,D,by rw[yf];exact Own.nil ..,λ z q=>(q.1 rfl).elim,rfl,xw _⟩,by simp only[aa,bc]⟩
 rintro n E Hx ⟨i,j,rfl,t,ho,K,rfl,hi⟩;have nl:(iT (PW x0 y) ls).length=ls.length:=by unfold iT;rw[xu,jj]
 by_cases e:i<ls.length
 .have q:(i:Int)<((ls.length:Nat):Int):=by omega
  have Y:aj .i64 ((i:Int)+1)=((i+1:Nat):Int):=by rw[jc (by omega) (by omega)];omega
  simp only[aa,bc,I1,qv q,bx t];refine C3.q (xd1 (Sl.em hs (d.em t)) e (by omega)) λ r H4⟨⟨W,_⟩,I,n4⟩=>?_;have c:=t.em I;simp only[aa,bc,I1,bx c];have le:(ls.eraseIdx i).length=ls.length-1:=List.length_eraseIdx_of_lt e;refine C3.q (WC (h.em (d.em c)) W (J.em (d.em c)) y) λ v H5⟨u,U⟩=>?_;rcases U with⟨no,_⟩|⟨_,rfl⟩
  .exact (no (yes.less (by omega))).elim
  have C:=Own.em (Own.em ho I) u;have tk:(iT (PW x0 y) ls).take (i+1)=(iT (PW x0 y) ls).take i ++ [!PW x0 y (ls.eraseIdx i)]:=by
   rw[j7];congr 1;unfold iT;rw[xq,kj e];rfl
  have tl:((iT (PW x0 y) ls).take i).length=i:=by rw[js];omega
  simp only[aa,bc,I1,aw];refine aO.oi (bytes:=1) C (x:=.bool (!PW x0 y (ls.eraseIdx i))) (a:=!PW x0 y (ls.eraseIdx i)) rfl rfl rfl rfl (by decide) (by omega) (by omega) λ X H6 L O Z=>?_;rw[<-tk]at L;have n5:=(c.em u).au;simp only[aa,bc,I1,Y];exact⟨_,_,⟨i+1,X,rfl,(c.em u).trans O λ z q=>.inr (K z q),L,λ z q=>(Z z q).elim (K z) λ q=>by omega,rfl,e⟩,by simp only[aa,bc],by omega⟩
 .have q:¬(i:Int)<((ls.length:Nat):Int):=by omega
  rw[za (by omega)]at ho;simp only[aa,bc,I1,q];exact⟨d.em t,.inr ⟨yes,hp,j,rfl,aO.sl ho⟩⟩
structure Zd(P:List Act->Bool)(l0:List Act)(n2 b j:Nat)(V:Nat->Prop)(Hx:ar):Prop where
 vt:V b
 bx:∃v l,Hx.get b=B1 (OR [v] Q1)/\CF Hx v l/\(∀z,aM v z->n2<=z/\V z/\z≠b)/\U0 P (l0.length-j) l=OE P l0/\l0.length-j<=l.length/\l.length<=l0.length/\(j=0->l=l0)/\P l=B4
 lt:b<Hx.au
def CF.fr{W:Nat->Prop}{v:AV}{l:List Act}(h:CF H v l)(f:Fr W H H')(hw:∀z,aM v z -> ¬W z):CF H' v l:=by
 refine⟨?_,h.2.imp id λ⟨b,m,rest,a1,a2,a3,a4⟩=>⟨b,m,rest,a1,qn a2 f.au,a3,by rw[f.ah b a2 (hw b (by rw[a1];exact⟨by simp,rfl⟩))];exact a4⟩⟩;rcases h.2 with rfl|⟨b,m,rest,rfl,_⟩
 .exact Sl.fr h.1 f (.inl rfl)
 .exact Sl.fr h.1 f (.inr (hw b ⟨by simp,rfl⟩))
def Zd.loc{P:List Act->Bool}{l0:List Act}{n2 b j:Nat}{V:Nat->Prop}(h:Zd P l0 n2 b j V H)(hs:∀x,V x->H'.get x=H.get x)(hn:H.au<=H'.au):Zd P l0 n2 b j V H':=by
 obtain⟨v,l,d,e,c,f⟩:=h.bx;exact⟨h.vt,⟨v,l,by rw[hs _ h.vt];exact d,e.fr (W:=λ b=>¬V b) ⟨hn,λ b _ hw=>hs b (we.1 hw)⟩ λ z q w=>w (c z q).2.1,c,f⟩,qn h.lt hn⟩
end
end Go.Am
namespace Go.Am
open Lang Go.Proofs
variable{M:ak}[MK M]
section
open Go.RowKit
def Da{P:Jl}{tL tA e:Lx}{g:Array Field}(A:P.underlying tL=B1 (.slice tA))(uA:P.underlying tA=B1 (.struct g))(t:g.toList.map (·.type)=[e,e,e])(uN:P.underlying e=B1 (.int .i64))(v:Fu P 0 g.toList=B4)(z:(g.toList.map λ f=>P.cellsOf f.type).sum=P.cellsOf tA)(j:P.cellsOf tA=3) :
 qJ P tL λ H l=>∃u,l=[u] /\ ∃ls:List Act,bI Act.enc 3 H u ls:=by
 refine(S3 A (Xu (n:=3) uA t uN v z) (by rw[j];decide)).imp ?_ λ H l h=>?_
 .rintro H H' l ⟨u,d,xs,o⟩ f;exact⟨u,d,xs,o.em f⟩
 .obtain ⟨u,rfl,d,o⟩:=h;rw[j]at d;have⟨xs,r,_⟩:=Ty (enc:=Act.enc) (Q:=λ _=>True) (λ l h=>by
   obtain⟨_,_,rfl,⟨a,rfl,_⟩,_,_,rfl,⟨b,rfl,_⟩,_,_,rfl,⟨c,rfl,_⟩,rfl⟩:=h;exact⟨⟨a,b,c⟩,rfl,trivial⟩) d
  exact⟨u,rfl,xs,r⟩
def Bi(_:ar)(u:List AV):Prop:=∃y:uc,u=fJ y
def HM{P:Jl}{tW g tU:Lx}{j:Array Field}(uW:P.underlying tW=B1 (.struct j))(n:j.toList.map (·.type)=[g,g,g,tU,g])(uN:P.underlying g=B1 (.int .i64))(u:P.underlying tU=B1 (.int .u64))(r:Fu P 0 j.toList=B4)(t:(j.toList.map λ f=>P.cellsOf f.type).sum=P.cellsOf tW):qJ P tW Bi:=by
 have hm:j.toList.length=5:=by have:=congrArg List.length n;simpa using this
 refine(Zk (Rs:=[λ _ l=>kB .i64 l,λ _ l=>kB .i64 l,λ _ l=>kB .i64 l,λ _ l=>kB .u64 l,λ _ l=>kB .i64 l]) uW (by rw[hm];rfl)
  (TB (f:=Field.type) (Q:=qJ P) _ _ (by
   rw[n];intro x o;simp only[List.zip_cons_cons,List.zip_nil_right,kw,MO,or_false]at o;rcases o with rfl|rfl|rfl|rfl|rfl
   .exact (Ja (Jd uN)).JD
   .exact (Ja (Jd uN)).JD
   .exact (Ja (Jd uN)).JD
   .exact (Ja (Jd u)).JD
   .exact (Ja (Jd uN)).JD)) r t).imp (λ _ _ _ h _=>h) λ H l h=>?_
 obtain⟨_,_,rfl,⟨a,rfl,_⟩,_,_,rfl,⟨b,rfl,_⟩,_,_,rfl,⟨c,rfl,_⟩,_,_,rfl,⟨d,rfl,_⟩,_,_,rfl,⟨e,rfl,_⟩,rfl⟩:=h;exact⟨⟨a,b,c,d,e⟩,rfl⟩
end
def xl4{n:Nat}:∀{l:List Nat},n∈l->n<=l.sum
 |a::l,h=>by
  rw[List.sum_cons];rcases kw.1 h with rfl|h
  .omega
  .have:=xl4 h;omega
def GrQ(H:ar)(sv:List AV)(v:AV)(H':ar):Prop:=Fr Em H H'/\(v=.int .i64 1\/v=.int .i64 0 /\ ∃x0 ok,uh H sv x0 ok)
def xhw{H:ar}{sv:List AV}(h:kF H sv):zb M qu6 [.agg sv] H (GrQ H sv):=by
 have⟨l,c,s,U,f,so,T,pv,fv,d,fs,W,S,o,Q,J,I,Y⟩:=h;subst W;refine q97 ?_;have⟨H1,e1,r,n1,O⟩:=bZ H (OR (UF l c s U pv f so T fv) yv);have l4:Op.ae [.ptr H.au 4] H1=B1 pv:=vg O 4;have K:Op.ae [.ptr H.au 8] H1=B1 fv:=vg O 8;have L:=Sl.em S r;have pl:=(show bI mh 1 H1 pv d from L).len;have fl:=(Sl.em Q r).len;have R:reachBytes=140737488351232:=by decide
 -- so many bytes in the first ones
 obtain⟨g,j⟩:∃g:Nat->Nat,g=λ i=>((d.take i).map λ p=>p.2.length).sum:=⟨_,rfl⟩
 have s0:g 0=0:=by rw[j];rfl
 have ss:∀{i p},d[i]? = B1 p->g (i+1)=g i+p.2.length:=λ{i p}hp=>by
  rw[j];show(((d.take (i+1)).map λ p=>p.2.length).sum)=_;rw[j7,hp,Jz,List.sum_append];simp
 have sb:∀i,i<=10->g i<=i*reachBytes:=λ i=>by
  induction i with
  |zero=>intro _;rw[s0];exact xw _
  |succ i ih =>
   intro q;have:=ih (by omega);cases hp:d[i]? with
   |some p=>rw[ss hp];have:=(o p (zd hp)).2.2.2;rw[vi];omega
   |none =>
    have e:d.take (i+1)=d.take i:=by rw[j7,hp];simp
    have:g (i+1)=g i:=by rw[j];show((d.take (i+1)).map _).sum=_;rw[e]
    rw[this,vi];omega
 simp only[aa,bc,LF,<-e1];refine cu.intro (λ n E Hx=>∃(i:Nat)(z:Int),E=[(4,.int .i64 (i:Int)),(3,.int .i64 z),(1,.ptr H.au 0)]/\Hx=H1/\n=d.length-i/\i<=d.length/\(d.length<=10->z=(g i:Nat))) ?_ ?_
 .exact ⟨_,_,⟨0,0,rfl,rfl,rfl,xw _,λ _=>by rw[s0];rfl⟩,by simp only[aa,bc]⟩
 rintro n E Hx ⟨i,z,rfl,rfl,rfl,hi,A⟩
 by_cases t:i<d.length
 .have q:(i:Int)<((d.length:Nat):Int):=by omega
  obtain⟨p,hp⟩:∃p,d[i]? = B1 p:=⟨_,xf t⟩
  have ix:=(show bI mh 1 Hx pv d from L).idx hp (z:=(i:Int)) rfl .i64;have ld:Op.ae [.ptr (aE pv) (cK 1 pv i)] Hx=B1 p.1:=(show bI mh 1 Hx pv d from L).ig xb4 hp (by decide);have u:=o p (zd hp);have Z:=(Sl.em u.1 r).len;have wi:aj .i64 ((i:Int)+1)=((i+1:Nat):Int):=by rw[jc (by omega) (by omega)];omega
  simp only[aa,bc,LF,l4,pl,qv q,ix,ld,Z,wi];refine⟨_,_,⟨i+1,aj .i64 (z+(p.2.length:Int)),rfl,rfl,t,λ D=>?_⟩,by simp only[aa,bc],by omega⟩;have:=sb i (by omega);have:=j8 reachBytes (show i<=10 by omega);have:=u.2.2.2;rw[A D,ss hp,jc (by omega) (by omega)];omega
 .have q:¬(i:Int)<((d.length:Nat):Int):=by omega
  have X:i=d.length:=by omega
  simp only[aa,bc,LF,l4,pl,q]
  by_cases v:(10:Int)<((d.length:Nat):Int)
  .simp only[aa,bc,LF,qv v];exact⟨r,.inl rfl⟩
  by_cases C:(100:Int)<((fs.length:Nat):Int)
  .simp only[aa,bc,LF,v,K,fl,qv C];exact⟨r,.inl rfl⟩
  by_cases N:(2000:Int)<z
  .simp only[aa,bc,LF,v,K,fl,C,qv N];exact⟨r,.inl rfl⟩
  .simp only[aa,bc,LF,v,K,fl,C,N];refine⟨r,.inr ⟨rfl,_,_,l,c,s,U,f,so,T,pv,fv,d,fs,rfl,S,λ p w=>⟨(o p w).1,(o p w).2.2.1,?_⟩,Q,J,I,rfl,rfl⟩⟩;have A:=A (by omega);have:p.2.length<=g d.length:=by
    rw[j];show _<=((d.take d.length).map λ p=>p.2.length).sum;rw[LU];exact xl4 (Fx.2 ⟨p,w,rfl⟩)
   rw[X]at A;omega
end Go.Am
namespace Go.Am
open Lang Go.Proofs
variable{M:ak}[MK M]
section
variable{H H' Hx:ar}{nb w i:Nat}{x0:Wo}{ls:List Act}{sv:List AV}{ok:Prop}{lv:AV}
def xnc(hs:bI Act.enc 3 H lv ls)(hl:ls.length<=1000):zb M kx [lv] H λ v H'=>aO Act.enc vp 3 H' v (ls ++ [⟨77,0,0⟩])/\(∀z,aM v z->H.au<=z)/\Fr Em H H':=by
 refine xcn ?_;simp only[aa,bc,Wv];refine K3 (Own.nil H vp 3) hs (my Act.one _) (by decide) (by omega) (by omega) λ v1 H1 o1 g j=>?_;have d:∀z,aM v1 z->H.au<=z:=λ z q=>(j z q).elim (λ e=>(e.1 rfl).elim) id;have c:Fr Em H H1:=g.trans (Fr.refl _) (λ z q=>.inl q) |>.mono λ z _ q=>(q.1 rfl).elim;rw[yg,jo]at o1;have f:Op.build [.int .i64 0,.int .i64 0,.int .i64 0] [(0,1)] [.int .i64 77]=B1 (.agg (Act.enc ⟨77,0,0⟩)):=rfl;simp only[aa,bc,Wv,f];refine aO.oi (bytes:=24) (show aO Act.enc vp 3 H1 v1 ls from o1) (x:=.agg (Act.enc ⟨77,0,0⟩)) (a:=⟨77,0,0⟩) rfl rfl rfl rfl (by decide) (by omega) (by omega) λ v2 o o2 h n=>?_;simp only[aa,bc,Wv];exact⟨o2,λ z q=>(n z q).elim (d z) λ e=>by have:=c.au;omega,c.trans h λ z q=>.inr (d z q)⟩
def xbl(hs:bI Act.enc 3 H lv ls)(t:i<ls.length)(hl:ls.length<=1000):zb M oy [lv,.int .i64 (i:Int)] H λ v H'=>bI Act.enc 3 H' v (ls.eraseIdx i)/\Fr Em H H':=by
 refine q54 ?_;obtain⟨a,f,s1,_⟩:=bI.upto Act.len hs (k:=i) (by omega) (z:=(i:Int)) rfl .i64;have o:aj .i64 ((i:Int)+1)=((i+1:Nat):Int):=by rw[jc (by omega) (by omega)];omega
 obtain⟨b,g,s2,_⟩:=bI.from Act.len hs (k:=i+1) (by omega) (z:=((i+1:Nat):Int)) rfl .i64;have e1:=js (i:=i) (l:=ls);have e2:=yk (i:=i+1) (l:=ls);simp only[aa,bc,Wg,f];refine K3 (Own.nil H vp 3) s1 (my Act.one _) (by decide) (by omega) (by omega) λ v1 H1 o1 h r=>?_;have c:Fr Em H H1:=h.mono λ z _ q=>(q.1 rfl).elim;have n:∀z,aM v1 z->H.au<=z:=λ z q=>(r z q).elim (λ e=>(e.1 rfl).elim) id;rw[yg,jo]at o1;simp only[aa,bc,Wg,o,g];refine K3 o1 (Sl.em s2 c) (my Act.one _) (by decide) (by omega) (by omega) λ v2 d o2 j u=>?_;simp only[aa,bc,Wg];refine⟨?_,c.trans j λ z q=>.inr (n z q)⟩;rw[List.eraseIdx_eq_take_drop_succ];refine aO.sl (e:=vp) ?_;show Own d vp 3 v2 (ls.take i++ls.drop (i+1)).length ((ls.take i++ls.drop (i+1)).flatMap Act.enc);rw[xe,ki];exact o2
def xcv(h:uh H sv x0 ok){n:Nat}(hl:Op.cG [lv]=B1 (.int .i64 (n:Int)))(y:uc):zb M UH [.agg sv,lv,.agg (fJ y)] H λ v H'=>Fr Em H H'/\(¬xZ ok y n/\v=.int .i64 2\/xZ ok y n/\v=.int .i64 0):=by
 suffices hq:zb M UH [.agg sv,lv,.agg (fJ y)] H λ v H'=>Fr Em H H' /\ ∃m:Int,v=.int .i64 m/\(¬xZ ok y n/\m=2\/xZ ok y n/\m=0)from
  hq.mono λ v H'⟨f,m,e,r⟩=>⟨f,r.imp (λ⟨a,b⟩=>⟨a,by rw[e,b]⟩) λ⟨a,b⟩=>⟨a,by rw[e,b]⟩⟩
 refine xfd ?_;have⟨H1,e1,E,n1,I⟩:=bZ H (OR sv yv);have⟨C,e2,c,n2,J⟩:=bZ H1 (OR (fJ y) vY);have z:=E.em c;have o:C.get H.au=B1 (OR sv yv):=(c.ah _ (by omega) id).trans I;obtain⟨a,p,u,q,O,L,N,Q,hn⟩:=(h.em z).new (M:=M) o;simp only[aa,bc,Nm,<-e1,<-e2,O,L,N,Q];refine C3.q hn λ v D⟨A,r⟩=>?_;have F:=z.em A;have R:¬(2:Int)=0:=by decide
 rcases r with⟨no,rfl⟩|⟨yes,w,nb,rfl,nn,hw⟩
 .simp only[aa,bc,Nm,aw,R];exact⟨F,_,rfl,.inl ⟨λ q=>no q.1,rfl⟩⟩
 have K:D.get H1.au=B1 (OR (fJ y) vY):=(A.ah _ (by omega) id).trans J;obtain⟨g,-⟩:=wU K
 by_cases d:y.kd<1
 .simp only[aa,bc,Nm,aw,g,qv d];exact⟨F,_,rfl,.inl ⟨λ q=>by have:=q.2.1;omega,rfl⟩⟩
 by_cases j:4<y.kd
 .simp only[aa,bc,Nm,aw,g,d,qv j];exact⟨F,_,rfl,.inl ⟨λ q=>by have:=q.2.2.1;omega,rfl⟩⟩
 by_cases t:(40:Int)<(n:Int)
 .simp only[aa,bc,Nm,aw,g,d,j,hl,qv t];exact⟨F,_,rfl,.inl ⟨λ q=>by have:=q.2.2.2;omega,rfl⟩⟩
 .simp only[aa,bc,Nm,aw,g,d,j,hl,t];exact⟨F,_,rfl,.inr ⟨⟨yes,by omega,by omega,by omega⟩,rfl⟩⟩
def Xc(h:uh H sv x0 ok)(J:ok)(hs:bI Act.enc 3 H lv ls)(hl:ls.length<=40)(hS:oJ H)(y:uc):zb M _W [.agg sv,lv,.agg (fJ y)] H λ v H'=>v=.bool (PW x0 y ls)/\Fr Em H H':=by
 refine q7g ?_;have⟨H1,e1,f1,n1,g1⟩:=bZ H (OR sv yv);have⟨Z,e2,I,n2,g2⟩:=bZ H1 (OR (fJ y) vY);have O:=f1.em I;have T:Z.get H.au=B1 (OR sv yv):=(I.ah _ (by omega) id).trans g1;obtain⟨a,p,u,q,k4,t,k3,k8,hn⟩:=(h.em O).new (M:=M) T;have ln:=hs.len;simp only[aa,bc,ym,<-e1,<-e2,k4,t,k3,k8];refine C3.q hn λ v H3⟨f3,r⟩=>?_;rcases r with⟨no,_⟩|⟨_,w,nb,rfl,nn,hw⟩
 .exact (no J).elim
 have hz:=h.zero J;simp only[aa,bc,ym,aw,ln];refine cu.intro (λ n E Hx=>∃i:Nat,E=[(31,.int .i64 (i:Int)),(30,.int .i64 ((ls.length:Nat):Int)),(7,.ptr w 0),(5,.ptr H1.au 0),(1,lv)]/\AA Z nb w x0 ls i Hx/\n=ls.length-i/\i<=ls.length) ?_ ?_
 .exact ⟨_,_,⟨0,rfl,.new hw f3,rfl,xw _⟩,by simp only[aa,bc]⟩
 rintro n E Hx ⟨i,rfl,f,rfl,hi⟩
 by_cases d:i<ls.length
 .have q:(i:Int)<((ls.length:Nat):Int):=by omega
  obtain⟨a,ha⟩:∃a,ls[i]? = B1 a:=⟨_,xf d⟩
  have sx:=Sl.em hs (O.em f.fr);have ix:=(show bI Act.enc 3 Hx lv ls from sx).idx ha (z:=(i:Int)) rfl .i64;have ld:=(show bI Act.enc 3 Hx lv ls from sx).aq Act.len (by decide) ha;have K:aj .i64 ((i:Int)+1)=((i+1:Nat):Int):=by rw[jc (by omega) (by omega)];omega
  simp only[aa,bc,ym,qv q,ix,ld];refine C3.q (f.do ha hz (by omega) (hS.em O) nn) λ v H5 X=>?_;simp only[aa,bc,ym,K];exact⟨_,_,⟨i+1,rfl,X,rfl,d⟩,by simp only[aa,bc],by omega⟩
 have q:¬(i:Int)<((ls.length:Nat):Int):=by omega
 have F:=O.em f.fr;have U:Hx.get H1.au=B1 (OR (fJ y) vY):=(f.fr.ah _ (by omega) id).trans g2;obtain⟨W,Q,h2⟩:=f.w;have ll:(ls.take i).length<=40:=by rw[js];omega
 have xh:=Wo.xU (ls.take i) x0;rw[hz.1,jq]at xh;have xl:((x0.run (ls.take i)).1.b).l.length=x0.b.l.length:=congrArg C4 (Wl (ls.take i) x0);rw[za (show ls.length<=i by omega)]at Q xh xl ll;have ep:PW x0 y ls=(x0.run ls).1.Rm y:=rfl;rw[ep];generalize(x0.run ls).1=x at *;have⟨j0,j1,j2,j3,j4,j5⟩:=wU U;unfold Wo.Rm;simp only[aa,bc,ym,q,j1,xd0 Q y.co,aw,j0]
 by_cases A:y.kd=1
 .rw [xg A];simp only[aa,bc,ym,qv A,j2];refine C3.q (Bv Q (by omega) (by omega) y.ad) λ v H4⟨o,C⟩=>?_;subst o;obtain⟨-,-,-,i3,-⟩:=wU ((C.ah _ (by have:=f.fr.au;omega) id).trans U)
  by_cases c:(x.b.td y.ad).2=0
  .simp only[aa,bc,ym,aw,qv c,i3];exact F.em C
  .simp only[aa,bc,ym,aw,c];exact F.em C
 rw[qy A]
 by_cases D:y.kd=2
 .rw [xg D];simp only[aa,bc,ym,A,qv D];refine C3.q (Θ Q (by omega)) λ o H4⟨R,C⟩=>?_;have g4:=(C.ah _ (by have:=f.fr.au;omega) id).trans U;have⟨i0,i1,Y,i3,i4,i5⟩:=wU g4;have lh:=R.len;simp only[aa,bc,ym,lh];refine cu.intro (λ n E L=>∃i:Nat,E=[(73,.int .i64 (i:Int)),(72,.int .i64 ((x.h.length:Nat):Int)),(15,o),(14,.int .i64 (((x.h.take i).countP λ e=>decide (e.kind=y.ad/\e.core=y.co):Nat):Int)),(5,.ptr H1.au 0)]/\L=H4/\n=x.h.length-i/\i<=x.h.length) ?_ ?_
  .exact ⟨_,_,⟨0,rfl,rfl,rfl,xw _⟩,by simp only[aa,bc,yf,List.countP_nil]⟩
  rintro n E L ⟨i,rfl,rfl,rfl,hi⟩
  by_cases d:i<x.h.length
  .have q:(i:Int)<((x.h.length:Nat):Int):=by omega
   obtain⟨e,he⟩:∃e,x.h[i]? = B1 e:=⟨_,xf d⟩
   have ix:=R.idx he (z:=(i:Int)) rfl .i64;have l0:Op.ae [.ptr (aE o) (cK 9 o i)] L=B1 (.int .i64 e.kind):=(R.ig Td he (by decide)).trans rfl;have l2:Op.ae [.ptr (aE o) (cK 9 o i+2)] L=B1 (.int .i64 e.core):=(R.ae Td he (j:=2) (by decide)).trans rfl;have K:aj .i64 ((i:Int)+1)=((i+1:Nat):Int):=by rw[jc (by omega) (by omega)];omega
   have tk:x.h.take (i+1)=x.h.take i ++ [e]:=by rw[j7,he];rfl
   obtain⟨c,g⟩:∃c,c=(x.h.take i).countP λ e=>decide (e.kind=y.ad/\e.core=y.co):=⟨_,rfl⟩
   have cl:c<=i:=by rw[g];exact xx (List.countP_le_length) (by rw[js];omega)
   have wc:aj .i64 ((c:Int)+1)=((c+1:Nat):Int):=by rw[jc (by omega) (by omega)];omega
   by_cases t:e.kind=y.ad
   .by_cases S:e.core=y.co
    .simp only[aa,bc,ym,qv q,ix,l0,Y,qv t,l2,i1,qv S,<-g,wc,K];refine⟨_,_,⟨i+1,rfl,rfl,d⟩,by simp only[aa,bc,tk,N1,<-g];simp[t,S],by omega⟩
    .simp only[aa,bc,ym,qv q,ix,l0,Y,qv t,l2,i1,S,<-g,K];refine⟨_,_,⟨i+1,rfl,rfl,d⟩,by simp only[aa,bc,tk,N1,<-g];simp[S],by omega⟩
   .simp only[aa,bc,ym,qv q,ix,l0,Y,t,<-g,K];refine⟨_,_,⟨i+1,rfl,rfl,d⟩,by simp only[aa,bc,tk,N1,<-g];simp[t],by omega⟩
  .have q:¬(i:Int)<((x.h.length:Nat):Int):=by omega
   simp only[aa,bc,ym,q,i4];rw[za (by omega)];exact⟨rfl,F.em C⟩
 rw[qy D]
 by_cases N:y.kd=3
 .rw [xg N];simp only[aa,bc,ym,A,D,qv N];exact F
 .rw [qy N];simp only[aa,bc,ym,A,D,N];exact F
end
end Go.Am
namespace Go.Am
open Lang Go.Proofs
variable{M:ak}[MK M]
abbrev oW:aT:=.part 0 B5 .int (.part 1 B5 .int (.part 2 B5 .int .nil))
def Rb(a b:Act):aY oW (.agg a.enc) (.agg b.enc)=B1 (decide (a=b)):=by
 obtain⟨c,d,e⟩:=a;obtain⟨f,g,h⟩:=b;simp only[Act.enc,aY,partAt,jN,zj,z8,qr,sJ,jQ,Sc]
 by_cases j:c=f<;>by_cases n:d=g<;>by_cases o:e=h<;>simp[j,n,o]
section
variable{H:ar}{a b:AV}{l m:List Act}
def i'(f:bI Act.enc 3 H a l)(g:bI Act.enc 3 H b l)(hl:l.length<=100000):zb M qzc [a,b] H λ v H'=>v=.bool B4/\H'=H:=by
 refine xdi ?_;have n1:=f.len;have n2:=g.len;simp only[aa,bc,W4,n1,n2];refine cu.intro (λ n E Hx=>∃i:Nat,E=[(5,.int .i64 (i:Int)),(0,a),(1,b)]/\Hx=H/\n=l.length-i/\i<=l.length) ?_ ?_
 .exact ⟨_,_,⟨0,rfl,rfl,rfl,xw _⟩,by simp only[aa,bc]⟩
 rintro n E Hx ⟨i,rfl,rfl,rfl,j⟩
 by_cases c:i<l.length
 .have q:(i:Int)<((l.length:Nat):Int):=by omega
  obtain⟨x,d⟩:∃x,l[i]? = B1 x:=⟨_,xf c⟩
  have h:aj .i64 ((i:Int)+1)=((i+1:Nat):Int):=by rw[jc (by omega) (by omega)];omega
  have e:Op.eq (.agg oW) B4 [.agg x.enc,.agg x.enc] Hx=B1 (.bool B2):=Vm _ _ _ Hx B4 (by rw[Rb];simp);simp only[aa,bc,W4,n1,qv q,f.idx d (z:=(i:Int)) rfl .i64,f.aq Act.len (by decide) d,g.idx d (z:=(i:Int)) rfl .i64,g.aq Act.len (by decide) d,e,h];exact⟨_,_,⟨i+1,rfl,rfl,c⟩,by simp only[aa,bc],by omega⟩
 .have q:¬(i:Int)<((l.length:Nat):Int):=by omega
  simp only[aa,bc,W4,n1,q]
end
end Go.Am
namespace Go.Am
open Lang Go.Proofs
variable{M:ak}[MK M]
set_option maxHeartbeats 1000000 in
def q27{H:ar}{sv:List AV}{lv:AV}{ls:List Act}{y:uc}(hS:oJ H)(hA:kF H sv)(hs:bI Act.enc 3 H lv ls) :
 zb M LM [.agg sv,lv,.agg (fJ y)] H λ v _=>v=.bool true:=by
 have hl9:sv.length=9:=by have⟨_,_,_,_,_,_,_,_,_,_,_,e,_⟩:=hA;rw[e];rfl
 refine qub ?_;have⟨H1,e1,f1,n1,g1⟩:=bZ H (OR sv yv);have⟨H2,e2,f12,n2,g2⟩:=bZ H1 (OR (fJ y) vY);have Z:=f1.em f12;have g1':H2.get H.au=B1 (OR sv yv):=(f12.ah _ (by omega) id).trans g1;have bx:∀{Hx:ar},Fr Em H2 Hx->Op.aq 9 [.ptr H.au 0] Hx=B1 (.agg sv)/\Op.aq 5 [.ptr H1.au 0] Hx=B1 (.agg (fJ y)):=λ{Hx}f=>⟨eJ ((f.ah _ (by omega) id).trans g1') hl9,(wU ((f.ah _ (by omega) id).trans g2)).2.2.2.2.2⟩
 simp only[aa,bc,zg,<-e1,<-e2,bx (Fr.refl _)];refine C3.q (xhw (hA.em Z)) λ v H3⟨f3,J⟩=>?_;have N:¬(0:Int)<0:=by decide
 have c10:(0:Int)<1:=by decide
 rcases J with rfl|⟨rfl,x0,ok,hg⟩
 .simp only[aa,bc,zg,qv c10]
 have F3:=Z.em f3;have ln:=hs.len;have hg3:=hg.em f3
 suffices rest:∀E,lk E 1=B1 lv->lk E 3=B1 (.ptr H.au 0)->lk E 5=B1 (.ptr H1.au 0)->ls.length<=100 -> ¬(20<ls.length/\ls.length<=40)->W M ⟨B5,LM⟩ (Rl LM 10) B4 (eS M [.tmp 6] (tq λ v _=>v=.bool B4)) E [] H3 by
  by_cases O:(20:Int)<((ls.length:Nat):Int)
  .by_cases c40:((ls.length:Nat):Int)<=40
   .simp only[aa,bc,zg,N,ln,qv O,qv c40]
   .by_cases r:(100:Int)<((ls.length:Nat):Int)
    .simp only[aa,bc,zg,N,ln,qv O,c40,qv r]
    .simp only[aa,bc,N,ln,qv O,c40,r];exact rest _ (by simp only[aa,bc]) (by simp only[aa,bc]) (by simp only[aa,bc]) (by omega) (by omega)
  .have r:¬(100:Int)<((ls.length:Nat):Int):=by omega
   simp only[aa,bc,N,ln,O,r];exact rest _ (by simp only[aa,bc]) (by simp only[aa,bc]) (by simp only[aa,bc]) (by omega) (by omega)
 intro E u K L l100 l2040;simp only[aa,bc,zg,u];refine C3.q (xnc (Sl.em hs F3) (by omega)) λ ov H4⟨oo,nw,f4⟩=>?_;have f24:=f3.em f4;have F4:=F3.em f4;have so:∀{Hx:ar},Fr Em H4 Hx->bI Act.enc 3 Hx ov (ls ++ [⟨77,0,0⟩]):=λ{Hx}f=>Sl.em (aO.sl oo) f;obtain⟨av,ca,_,_⟩:=bI.upto Act.len (so (Fr.refl _)) (k:=ls.length) (by rw[xe];omega) (z:=((ls.length:Nat):Int)) rfl .i64;have sa:∀{Hx:ar},Fr Em H4 Hx->bI Act.enc 3 Hx av ls:=λ{Hx}f=>by
  obtain⟨av',ca',s,_⟩:=bI.upto Act.len (so f) (k:=ls.length) (by rw[xe];omega) (z:=((ls.length:Nat):Int)) rfl .i64;rw[ca]at ca';injection ca' with e;subst e
  rw[Kh rfl]at s;exact s
 have g:=hg3.em f4;simp only[aa,bc,zg,K,L,ln,bx f24,ca];have t:(ls ++ [⟨77,0,0⟩])[ls.length]? = B1 ⟨77,0,0⟩:=by rw[z4 (qm _),Ia];rfl
 refine C3.q (WC g (sa (Fr.refl _)) (hS.em F4) y) λ v5 H5⟨A,r5⟩=>?_;have Q:=f24.em A;have F5:=F4.em A;have q0:¬ ¬(0:Int)=0:=λ q=>q rfl;obtain⟨P,eP⟩:∃P,P=PW x0 y:=⟨_,rfl⟩
 rw[<-eP]at r5
 by_cases o:xZ ok y ls.length
 case neg =>
  obtain rfl:v5=.tuple [.bool B2,.int .i64 2]:=by
   rcases r5 with⟨_,e⟩|⟨q,_⟩
   .exact e
   .exact (o q).elim
  simp only[aa,bc,zg,aw,u,K,L,ln,bx Q,ca];refine C3.q (J_ (g.em A) (sa A) (hS.em F5) y) λ v6 H6⟨D,r6⟩=>?_;have C:=Q.em D;have F6:=F5.em D;obtain rfl:v6=.tuple [.int .i64 0,.int .i64 2]:=by
   rcases r6 with⟨_,e⟩|⟨q,_⟩
   .exact e
   .exact (o q).elim
  simp only[aa,bc,zg,aw,u,K,L,ln,bx C,ca];refine C3.q (q2q (g.em (A.em D)) (sa (A.em D)) (hS.em F6) y) λ v7 H7⟨f7,r7⟩=>?_;have R:=C.em f7;have d:=(A.em D).em f7;have F7:=F6.em f7;obtain rfl:v7=.tuple [.nils,.int .i64 2]:=by
   rcases r7 with⟨n,e,h,n0⟩|⟨q,_⟩
   .rcases h with⟨_,q⟩|⟨q,_⟩|⟨q,_⟩
    .rw [e,q]
    .exact (o q).elim
    .exact (o q).elim
   .exact (o q).elim
  simp only[aa,bc,zg,aw,u,ln,ca];refine C3.q (i' (sa d) (Sl.em hs F7) (by omega)) λ v X⟨J,hh⟩=>?_;subst J;have hh:=hh.symm;subst hh;have i77:=(so d).idx t (z:=((ls.length:Nat):Int)) rfl .i64;have l77:Op.ae [.ptr (aE ov) (cK 3 ov ls.length)] H7=B1 (.int .i64 77):=(so d).ig Act.len t (by decide);have c77:¬ ¬(77:Int)=77:=λ q=>q rfl;simp only[aa,bc,zg,u,K,L,ln,i77,l77,c77,bx R];refine C3.q (xcv (g.em d) ln y) λ v8 H8⟨f8,r8⟩=>?_;obtain rfl:v8=.int .i64 2:=by
   rcases r8 with⟨_,e⟩|⟨q,_⟩
   .exact e
   .exact (o q).elim
  have t2:¬(2:Int)=0:=by decide
  have l0:Op.cG [.nils]=B1 (.int .i64 0):=rfl;simp only[aa,bc,zg,qv t2,l0]
 obtain rfl:v5=.tuple [.bool (P ls),.int .i64 0]:=by
  rcases r5 with⟨q,_⟩|⟨_,e⟩
  .exact (q o).elim
  .exact e
 simp only[aa,bc,zg,aw,u,K,L,ln,bx Q,ca];refine C3.q (J_ (g.em A) (sa A) (hS.em F5) y) λ v6 H6⟨D,r6⟩=>?_;have C:=Q.em D;have F6:=F5.em D;rw[<-eP]at r6;obtain⟨n6,e6,hv6,h6⟩:∃n6 e6:Int,v6=.tuple [.int .i64 n6,.int .i64 e6]/\((sj P ls=B5/\n6=0/\e6=280) \/ ∃m:Nat,sj P ls=B1 m/\n6=m/\e6=0):=by
  rcases r6 with⟨q,_⟩|⟨_,e⟩
  .exact (q o).elim
  .cases hf:sj P ls with
   |none=>exact⟨0,280,by rw[e,hf];rfl,.inl ⟨rfl,rfl,rfl⟩⟩
   |some m=>exact⟨m,0,by rw[e,hf];rfl,.inr ⟨m,rfl,rfl,rfl⟩⟩
 subst hv6;simp only[aa,bc,zg,aw,u,K,L,ln,bx C,ca];refine C3.q (q2q (g.em (A.em D)) (sa (A.em D)) (hS.em F6) y) λ v7 H7⟨f7,r7⟩=>?_;have R:=C.em f7;have d:=(A.em D).em f7;have F7:=F6.em f7;rw[<-eP]at r7;obtain⟨nv,e7,hv7,h7⟩:∃(nv:AV)(e7:Int),v7=.tuple [nv,.int .i64 e7]/\((P ls=B2/\nv=.nils/\e7=280)\/(P ls=B4/\e7=0/\bI Ed 1 H7 nv (iT P ls))):=by
  rcases r7 with⟨n,e,h,n0⟩|⟨_,hp,nv,e,h⟩
  .rcases h with⟨q,_⟩|⟨_,p,q⟩|⟨_,_,q⟩
   .exact (q o).elim
   .exact ⟨.nils,280,by rw[e,q],.inl ⟨p,rfl,rfl⟩⟩
   .exact (n0 q).elim
  .exact ⟨nv,0,e,.inr ⟨hp,rfl,h⟩⟩
 subst hv7;simp only[aa,bc,zg,aw,u,ln,ca];refine C3.q (i' (sa d) (Sl.em hs F7) (by omega)) λ v X⟨J,hh⟩=>?_;subst J;have hh:=hh.symm;subst hh;have i77:=(so d).idx t (z:=((ls.length:Nat):Int)) rfl .i64;have l77:Op.ae [.ptr (aE ov) (cK 3 ov ls.length)] H7=B1 (.int .i64 77):=(so d).ig Act.len t (by decide);have c77:¬ ¬(77:Int)=77:=λ q=>q rfl;simp only[aa,bc,zg,u,K,L,ln,i77,l77,c77,bx R];refine C3.q (xcv (g.em d) ln y) λ v8 H8⟨f8,r8⟩=>?_;obtain rfl:v8=.int .i64 0:=by
  rcases r8 with⟨q,_⟩|⟨_,e⟩
  .exact (q o).elim
  .exact e
 have f28:=R.em f8;have l40:=o.2.2.2;simp only[aa,bc,zg,q0,u,ln];refine cu.intro (λ n E Hx=>∃z f:Int,E=[(16,.int .i64 z),(15,.int .i64 f),(13,.int .i64 e7),(12,nv),(11,.int .i64 e6),(10,.int .i64 n6),(9,.int .i64 0),(8,.bool (P ls)),(5,.ptr H1.au 0),(3,.ptr H.au 0),(1,lv)]/\Fr Em H2 Hx/\Fr Em H8 Hx /\ -1<=z/\z<=ls.length/\n=(z+1).toNat/\((f = -1 /\ ∀j:Nat,z<j->j<=ls.length->P (ls.take j)=B2) \/ ∃m:Nat,f=m/\z<m/\m<=ls.length/\P (ls.take m)=B4 /\ ∀j:Nat,z<j->j<m->P (ls.take j)=B2)) ?_ ?_
 .exact ⟨_,_,⟨(ls.length:Int),-1,rfl,f28,Fr.refl _,by omega,by omega,rfl,.inl ⟨rfl,λ j a b=>by omega⟩⟩,by simp only[aa,bc,u,K,L]⟩
 rintro n E Hx ⟨z,f,rfl,I,S,z1,z2,rfl,hf⟩
 by_cases z0:0<=z
 .obtain ⟨k,rfl⟩:=ji z0;obtain⟨tv,ct,st,_⟩:=bI.upto Act.len (show bI Act.enc 3 Hx lv ls from Sl.em hs (Z.em I)) (k:=k) (by omega) (z:=((k:Nat):Int)) rfl .i64;have wk:aj .i64 ((k:Int)-1)=(k:Int)-1:=jc (by omega) (by omega);simp only[aa,bc,zg,qv z0,bx I,ct];refine C3.q (Xc (hg.em (f3.em (f4.em (d.em (f8.em S)))) |> λ _=>(show uh Hx sv x0 ok from hg.em I)) o.1 st (by rw[js];omega) (hS.em (Z.em I)) y) λ v H9⟨J,f9⟩=>?_;subst J;rw[<-eP];cases hp:P (ls.take k)with
  |true =>
   simp only[aa,bc,zg,wk];refine⟨_,_,⟨(k:Int)-1,(k:Int),rfl,I.em f9,S.em f9,by omega,by omega,rfl,.inr ⟨k,rfl,by omega,by omega,hp,λ j a b=>by omega⟩⟩,by simp only[aa,bc],by omega⟩
  |false =>
   simp only[aa,bc,zg,wk];refine⟨_,_,⟨(k:Int)-1,f,rfl,I.em f9,S.em f9,by omega,by omega,rfl,?_⟩,by simp only[aa,bc],by omega⟩;have low:∀j:Nat,(k:Int)-1<j->(∀_:(k:Int)<j,P (ls.take j)=B2)->P (ls.take j)=false:=λ j a b=>by
    by_cases e:j=k
    .rw [e];exact hp
    .exact b (by omega)
   rcases hf with⟨e,h⟩|⟨m,e,h1,h2,h3,h4⟩
   .exact .inl ⟨e,λ j a b=>low j a λ c=>h j c b⟩
   .exact .inr ⟨m,e,by omega,h2,h3,λ j a b=>low j a λ c=>h4 j c b⟩
 have ez:z = -1:=by omega
 subst ez;have hff:(sj P ls=B5/\f = -1) \/ ∃m:Nat,sj P ls=B1 m/\f=m:=by
  rcases hf with⟨e,h⟩|⟨m,e,h1,h2,h3,h4⟩
  .exact .inl ⟨xlq P λ k hk=>h k (by omega) hk,e⟩
  .exact .inr ⟨m,y_ P h2 h3 λ k hk=>h4 k (by omega) hk,e⟩
 simp only[aa,bc,zg,z0,bx I];refine C3.q (Xc (hg.em I) o.1 (Sl.em hs (Z.em I)) l40 (hS.em (Z.em I)) y) λ v H9⟨J,f9⟩=>?_;subst J;rw[<-eP];have eb:∀(b:Bool)(H:ar),Op.eq .bool B4 [.bool b,.bool b] H=B1 (.bool B2):=λ b _=>by cases b<;>rfl
 have hx:Fr Em H2 H9:=I.em f9;have nx:Fr Em H7 H9:=(f8.em S).em f9;have en:∀(b:Bool)(H:ar),Op.eq .bool B2 [.bool (!b),.bool b] H=B1 (.bool B2):=λ b _=>by cases b<;>rfl
 have t28:¬(0:Int)=280:=by decide
 have fin:∀{Hx:ar}{E:Env},Fr Em H2 Hx->Fr Em H7 Hx->lk E 18=B1 (.bool (P ls))->lk E 13=B1 (.int .i64 e7)->lk E 12=B1 nv->lk E 5=B1 (.ptr H1.au 0)->lk E 3=B1 (.ptr H.au 0)->lk E 1=B1 lv->W M ⟨B5,LM⟩ (Rl LM 69) B4 (eS M [.tmp 6] (tq λ v _=>v=.bool B4)) E [] Hx:=λ{Hx E}fa fb Y k13 k12 L K u=>by
  rcases h7 with⟨hp,rfl,rfl⟩|⟨hp,rfl,hn⟩
  .have l0:Op.cG [.nils]=B1 (.int .i64 0):=rfl;rw[hp]at Y;simp only[aa,bc,zg,Y,k13,k12,l0]
  .have nl:(iT P ls).length=ls.length:=by unfold iT;rw[xu,jj]
   have lnn:=hn.len;rw[nl]at lnn;rw[hp]at Y;simp only[aa,bc,zg,Y,k13,k12,u,q0,lnn,ln];refine cu.intro (λ n E Hy=>∃i:Nat,E=[(185,.int .i64 (i:Int)),(184,.int .i64 ((ls.length:Nat):Int)),(12,nv),(5,.ptr H1.au 0),(3,.ptr H.au 0),(1,lv)]/\Fr Em H2 Hy/\Fr Em H7 Hy/\n=ls.length-i/\i<=ls.length) ?_ ?_
   .exact ⟨_,_,⟨0,rfl,fa,fb,rfl,xw _⟩,by simp only[aa,bc,k12,L,K,u]⟩
   rintro n E Hy ⟨i,rfl,fy,f7y,rfl,hi⟩
   by_cases U:i<ls.length
   .have q:(i:Int)<((ls.length:Nat):Int):=by omega
    have wi:aj .i64 ((i:Int)+1)=((i+1:Nat):Int):=by rw[jc (by omega) (by omega)];omega
    simp only[aa,bc,zg,qv q];refine C3.q (xbl (Sl.em hs (Z.em fy)) U (by omega)) λ wv Ha⟨sw,fa⟩=>?_;have le:(ls.eraseIdx i).length=ls.length-1:=List.length_eraseIdx_of_lt U;have T:=fy.em fa;simp only[aa,bc,zg,bx T];refine C3.q (Xc (hg.em T) o.1 sw (by omega) (hS.em (Z.em T)) y) λ v Hc⟨J,fc⟩=>?_;subst J;rw[<-eP];have fyc:=T.em fc;have f7c:=(f7y.em fa).em fc;have hnx:(iT P ls)[i]? = B1 (!P (ls.eraseIdx i)):=by unfold iT;rw[xq,kj U];rfl
    have sn:bI Ed 1 Hc nv (iT P ls):=Sl.em hn f7c;have ix:=sn.idx hnx (z:=(i:Int)) rfl .i64;have ld:Op.ae [.ptr (aE nv) (cK 1 nv i)] Hc=B1 (.bool (!P (ls.eraseIdx i))):=sn.ig ag7 hnx (by decide);simp only[aa,bc,zg,ix,ld,en,wi];exact⟨_,_,⟨i+1,rfl,fyc,f7c,rfl,U⟩,by simp only[aa,bc],by omega⟩
   .have q:¬(i:Int)<((ls.length:Nat):Int):=by omega
    simp only[aa,bc,zg,q]
 obtain⟨-,-,-,-,-,-,-,-,-,-,-,w61,-,-,-,-,-,-,-,-,-,-⟩:=zg M ⟨B5,LM⟩;rcases h6 with⟨a1,rfl,rfl⟩|⟨m,a1,rfl,rfl⟩
 .obtain rfl:f = -1:=by
   rcases hff with⟨_,e⟩|⟨m,e,_⟩
   .exact e
   .rw [a1]at e;cases e
  have cm:(-1:Int)<0:=by decide
  have cn:¬(0:Int) <= -1:=by decide
  simp only[aa,bc,w61,q0,eb,qv cm,cn];exact fin hx nx (by simp only[aa,bc]) (by simp only[aa,bc]) (by simp only[aa,bc]) (by simp only[aa,bc]) (by simp only[aa,bc]) (by simp only[aa,bc])
 .obtain rfl:f=(m:Int):=by
   rcases hff with⟨e,_⟩|⟨m',e,e2⟩
   .rw [a1]at e;cases e
   .rw [a1]at e;injection e with e;rw[e];exact e2
  have cm:¬(m:Int)<0:=by omega
  have cn:0<=(m:Int):=by omega
  have cm2:¬ ¬((m:Int)=(m:Int)):=λ q=>q rfl;simp only[aa,bc,w61,q0,eb,cm,qv cn,t28,cm2];exact fin hx nx (by simp only[aa,bc]) (by simp only[aa,bc]) (by simp only[aa,bc]) (by simp only[aa,bc]) (by simp only[aa,bc]) (by simp only[aa,bc])
end Go.Am
