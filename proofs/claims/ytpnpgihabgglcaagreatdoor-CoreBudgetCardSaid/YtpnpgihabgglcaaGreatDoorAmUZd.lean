import Derived.Test.YtpnpgihabgglcaaGreatDoorAmUZb
import Derived.Test.YtpnpgihabgglcaaGreatDoorAmUZa
set_option linter.unusedVariables false
set_option linter.unusedSimpArgs false
set_option linter.defProp false
namespace Go.Am
def aG:Bool:=true
def bM{α:Type}(m:Bool)(o:Option α)(K:α->Prop):Prop:=match o with
 |some a=>K a
 |none=>False
def iE{α β:Type}(m:Bool)(o:Option (α×β))(K:α -> β->Prop):Prop:=match o with
 |some a=>K a.1 a.2
 |none=>False
def KP(m:Bool)(q:Bool)(A B:Prop):Prop:=match q with
 |true=>A
 |false=>B
@[congr]def Le{α:Type}{m c:Bool}{o o':Option α}{K:α->Prop}(hm:m=c)(h:o=o'):bM m o K=bM c o' K:=by rw[h,hm]
@[congr]def HI{α β:Type}{m c:Bool}{o o':Option (α×β)}{K:α -> β->Prop}(hm:m=c)(h:o=o'):iE m o K=iE c o' K:=by rw[h,hm]
@[congr]def LB{m c q d:Bool}{A B:Prop}(hm:m=c)(h:q=d):KP m q A B=KP c d A B:=by rw[h,hm]
def bM.elim{α:Type}{m:Bool}{o:Option α}{K:α->Prop}(h:bM m o K):∃a,o=some a/\K a:=by
 cases o with
 |none=>exact False.elim h
 |some a=>exact⟨a,rfl,h⟩
def iE.elim{α β:Type}{m:Bool}{o:Option (α×β)}{K:α -> β->Prop}(h:iE m o K):∃a b,o=some (a,b)/\K a b:=by
 cases o with
 |none=>exact False.elim h
 |some a=>exact⟨a.1,a.2,rfl,h⟩
def bM.intro{α:Type}{m:Bool}{o:Option α}{K:α->Prop}{a:α}(h:o=some a)(hk:K a):bM m o K:=by subst h;exact hk
def iE.intro{α β:Type}{m:Bool}{o:Option (α×β)}{K:α -> β->Prop}{a:α}{b:β}(h:o=some (a,b))(hk:K a b):iE m o K:=by subst h;exact hk
def KP.cases{m:Bool}{q:Bool}{A B:Prop}(c:q=true->A)(d:q=false->B):KP m q A B:=by
 cases q with
 |true=>exact c rfl
 |false=>exact d rfl
def asBool:AV->Option Bool
 | .bool q=>some q
 |_=>none
noncomputable section
structure ak where
 prog:jH
 told:bU
 mute:Nat->Bool
 ok:∀f vs up H,mute f=false->told f vs up H=none
def ak.call(M:ak)(n:Nat):bU:=jS M.prog M.told n
def ak.func(M:ak)(f:Nat):Option cj:=cond (M.mute f) none (M.prog.func f)
def ak.jN(M:ak):Nat->String->Option Nat:=M.prog.jN
def ak.wM{M:ak}{f:Nat}{fn:cj}(h:M.func f=some fn):M.mute f=false/\M.prog.func f=some fn:=by
 unfold ak.func at h;cases hm:M.mute f with
 |true=>rw[hm]at h;cases h
 |false=>rw[hm]at h;exact⟨rfl,h⟩
def ak.yH{M:ak}{f:Nat}(h:M.mute f=false)(n:Nat)(vs:List AV)(up:Option aE)(H:ar):M.call (n+1) f vs up H=EJ M.prog (M.call n) n f vs up H:=by
 show(match M.told f vs up H with|some r=>some r|none=>EJ M.prog (jS M.prog M.told n) n f vs up H)=_;rw[M.ok f vs up H h];rfl
variable(AP:ak)
def wU(n k:Nat)(ctx:Ctx):RT:=⟨AP.prog,AP.call n,rounds AP.prog (AP.call n) n k,n,ctx⟩
def jJ(f:Nat)(vs:List AV)(up:Option aE)(H:ar)(e:bE)(up':Option aE)(H':ar):Prop:=∃n0,∀n,n0<=n->AP.call n f vs up H=some (e,up',H')
def CALL(f:Nat)(vs:List AV)(H:ar)(e:bE)(H':ar):Prop:=jJ AP f vs none H e none H'
def rS(l:Nat)(vs:List AV)(H:ar)(e:bE)(H':ar):Prop:=∃n0,∀n k,n0<=n->n0<=k->rounds AP.prog (AP.call n) n k vs l H=some (e,H')
def tf:lJ->List AV->ar->bE->ar->Prop
 | .func g=>CALL AP g
 | .yield l=>rS AP l
def mX(m:Bool)(f:lJ)(vs:List AV)(H:ar)(K:AV->ar->Prop)(E:aE->ar->Prop):Prop :=
 ∃e H',tf AP f vs H e H'/\match e with
  | .ret v=>K v H'
  | .panic c=>E c H'
@[congr]def Im{AP:ak}{m d:Bool}{f:lJ}{vs c:List AV}{H:ar}{K:AV->ar->Prop}{E:aE->ar->Prop}(hm:m=d)(h:vs=c):mX AP m f vs H K E=mX AP d f c H K E:=by rw[h,hm]
def Lp(m:Bool)(vs:List AV)(K:lJ->List AV->Prop):Prop:=match vs with
 | .fn (.func g) first cap::args=>K (.func g) (first++(args++cap))
 | .fn (.yield l) first []::args=>K (.yield l) (first++args)
 |_=>False
@[congr]def L6{m d:Bool}{vs c:List AV}{K:lJ->List AV->Prop}(hm:m=d)(h:vs=c):Lp m vs K=Lp d c K:=by rw[h,hm]
def LA(m:Bool)(name:String)(vs:List AV)(K:lJ->List AV->Prop):Prop:=match vs with
 | .iface t v::args=>bM aG (AP.jN t name) λ g=>K (.func g) (v::args)
 |_=>False
@[congr]def LW{AP:ak}{m d:Bool}{name:String}{vs c:List AV}{K:lJ->List AV->Prop}(hm:m=d)(h:vs=c):LA AP m name vs K=LA AP d name c K:=by rw[h,hm]
def pK(tm:T AV):List bI->(List AV->Prop)->Prop
 |[],K=>K []
 | .tmp t::xs,K=>bM aG (tm.get t) λ v=>pK tm xs λ vs=>K (v::vs)
 | .const v::xs,K=>pK tm xs λ vs=>K (v::vs)
 | .d8 g::xs,K=>pK tm xs λ vs=>K (.ptr g 0::vs)
 | .func f::xs,K=>pK tm xs λ vs=>K (.fn (.func f) [] []::vs)
def pK.elim{tm:T AV}:∀{l:List bI}{K:List AV->Prop},pK tm l K -> ∃vs,lK tm l=some vs/\K vs
 |[],K,h=>⟨[],rfl,h⟩
 | .tmp t::xs,K,h=>by
  obtain⟨v,f,h⟩:=bM.elim (m:=aG) h;obtain⟨vs,c,d⟩:=pK.elim h;exact⟨v::vs,by simp[lK,qU,f,c],d⟩
 | .const v::xs,K,h=>by
  obtain⟨vs,c,d⟩:=pK.elim (l:=xs) h;exact⟨v::vs,by simp[lK,qU,c],d⟩
 | .d8 v::xs,K,h=>by
  obtain⟨vs,c,d⟩:=pK.elim (l:=xs) h;exact⟨_,by simp[lK,qU,c],d⟩
 | .func v::xs,K,h=>by
  obtain⟨vs,c,d⟩:=pK.elim (l:=xs) h;exact⟨_,by simp[lK,qU,c],d⟩
def Ec(tm:T AV)(x:bI)(K:AV->Prop):Prop:=match x with
 | .tmp t=>bM aG (tm.get t) K
 | .const v=>K v
 | .d8 g=>K (.ptr g 0)
 | .func f=>K (.fn (.func f) [] [])
def Ec.elim{tm:T AV}{x:bI}{K:AV->Prop}(h:Ec tm x K):∃v,qU tm x=some v/\K v:=by
 cases x with
 |tmp t=>exact bM.elim (m:=aG) h
 |const v=>exact⟨v,rfl,h⟩
 |d8 v=>exact⟨_,rfl,h⟩
 |func v=>exact⟨_,rfl,h⟩
abbrev cB:=aU->St->Prop
def yO(ps:Option (List Nat))(tm:T AV)(aX:List aM)(up:Option aE)(Q:cB)(c:aE)(H:ar):Prop:=match ps with
 |some ds=>Q (.panic c) ⟨forget ds tm,aX,up,H⟩
 |none=>False
def vO(m:Bool)(ctx:Ctx)(up:Option aE)(K:AV->Option aE->Prop):Prop:=ctx.round=none/\match up with
 |some ((v,false)::older)=>K v (some ((v,true)::older))
 |_=>K .nili up
@[congr]def HP{m d:Bool}{ctx:Ctx}{up c:Option aE}{K:AV->Option aE->Prop}(hm:m=d)(h:up=c):vO m ctx up K=vO d ctx c K:=by rw[h,hm]
def Fj(m:Bool)(ctx:Ctx)(vs:List AV)(aX:List aM)(K:List aM->Prop):Prop:=ctx.round=none/\match vs with
 | .fn (.func f) first cap::args=>K (.fn (.func f) (first++(args++cap))::aX)
 |_=>False
@[congr]def JF{m d:Bool}{ctx:Ctx}{vs c:List AV}{aX:List aM}{K:List aM->Prop}(hm:m=d)(h:vs=c):Fj m ctx vs aX K=Fj d ctx c aX K:=by rw[h,hm]
def fZ(vs:List AV)(H:ar)(E:aE->ar->Prop):Prop:=match vs with
 |[.iface t v]=>E [(.iface t v,false)] H
 |_=>False
@[congr]def Fa{vs c:List AV}{H:ar}{E:aE->ar->Prop}(h:vs=c):fZ vs H E=fZ c H E:=by rw[h]
def nZ(ctx:Ctx)(dst:Option Nat)(ps:Option (List Nat))(st:St)(Q:cB)(K:St->Prop)(vs:List AV):ft->Prop
 | .pure f=>bM aG (f vs) λ v=>K ⟨ey dst v st.tm,st.aX,st.up,st.H⟩
 | .read f=>bM aG (f vs st.H) λ v=>K ⟨ey dst v st.tm,st.aX,st.up,st.H⟩
 | .alloc f=>iE aG (f vs) λ o mk=>K ⟨ey dst (mk st.H.au) st.tm,st.aX,st.up,st.H.alloc o⟩
 | .gJ f=>iE aG (f vs st.H) λ v H=>K ⟨ey dst v st.tm,st.aX,st.up,H⟩
 | .gY g=>mX AP aG (.func g) vs st.H (λ v H=>K ⟨ey dst v st.tm,st.aX,st.up,H⟩) (yO ps st.tm st.aX st.up Q)
 | .gS=>Lp aG vs λ f vs=>mX AP aG f vs st.H (λ v H=>K ⟨ey dst v st.tm,st.aX,st.up,H⟩) (yO ps st.tm st.aX st.up Q)
 | .invoke name=>LA AP aG name vs λ f vs=>mX AP aG f vs st.H (λ v H=>K ⟨ey dst v st.tm,st.aX,st.up,H⟩) (yO ps st.tm st.aX st.up Q)
 | .recover=>match vs with
  |[]=>vO aG ctx st.up λ v up=>K ⟨ey dst v st.tm,st.aX,up,st.H⟩
  |_=>False
 | .defer=>Fj aG ctx vs st.aX λ aX=>K ⟨ey dst .undef st.tm,aX,st.up,st.H⟩
 | .panic=>fZ vs st.H (yO ps st.tm st.aX st.up Q)
def Ob(dst:Option Nat)(st:St)(vs:List AV):ft->Prop
 | .read f=>match dst with
  |some d=>bM aG (f vs st.H) λ v=>bM aG (st.tm.get d) λ v'=>v=v'
  |none=>False
 |_=>False
def qQ(ctx:Ctx)(s:aN)(st:St)(Q:cB)(K:St->Prop):Prop :=
 match s.gW with
 |false=>match s.guard with
  |none=>pK st.tm s.args λ vs=>nZ AP ctx s.dst s.ct st Q K vs s.op
  |some g=>bM aG (cN g.2 (st.tm.get g.1)) λ w=>KP aG w (pK st.tm s.args λ vs=>nZ AP ctx s.dst s.ct st Q K vs s.op) (K ⟨ey s.dst .undef st.tm,st.aX,st.up,st.H⟩)
 |true=>match s.guard with
  |none=>pK st.tm s.args λ vs=>Ob s.dst st vs s.op/\K st
  |some g=>bM aG (cN g.2 (st.tm.get g.1)) λ w=>KP aG w (pK st.tm s.args λ vs=>Ob s.dst st vs s.op/\K st) (s.dst.isSome=true/\K st)
def nJ(ctx:Ctx):List aN->St->cB->Prop
 |[],st,Q=>Q .normal st
 |s::rest,st,Q=>qQ AP ctx s st Q λ st'=>nJ ctx rest st' Q
def B7(W:St->cB->Prop)(Q:cB):cB:=λ e st=>match e with
 | .normal=>W st Q
 |e=>Q e st
def BLK(id:Nat)(Q:cB):cB:=λ e st=>match e with
 | .exit id'=>Q (cond (Nat.beq id id') .normal (.exit id')) st
 |e=>Q e st
def SCP(b:ai)(Q:cB):cB:=λ e st=>match e with
 | .goto l=>D5 b l=false/\Q (.goto l) st
 |e=>Q e st
def kF(ah:Option (List Nat))(st:St):St:=match ah with
 |none=>st
 |some ks=>{st with tm:=Tm st.tm ks .nil}
def Ki(W:St->cB->Prop)(ah:Option (List Nat))(st:St)(Q:cB):Prop :=
 ∃I:Nat->St->Prop,(∃n,I n st) /\ ∀n st,I n st->W (kF ah st) λ e st'=>match e with
  | .normal=>∃m,m<n/\I m st'
  |e=>Q e st'
def UQ(st:St)(aX:List aM)(l:Nat)(Q:cB)(e:bE)(H:ar):Prop:=match e with
 | .panic c=>Q (.panic c) {st with aX:=aX,H:=H}
 | .ret _=>∃s p f k tm d,H.get l=some (.loop s p f k tm d)/\s≠ .busy/\Q (qC p) {st with aX:=aX,H:=H.set l (.loop .exhausted p f k tm d)}
def lX(ctx:Ctx)(st:St)(k:Nat)(H0:ar)(aX:List aM)(d:Nat)(Q:cB):AV->Prop
 | .fn (.func g) first cap=>∃e H',CALL AP g (first++(.fn (.yield H0.au) [] []::cap)) (H0.alloc (.loop .ready none ctx.fn k st.tm d)) e H'/\UQ st aX H0.au Q e H'
 |_=>False
def IF(ctx:Ctx)(k:Nat)(st:St)(Q:cB)(v:AV):Prop:=match ctx.round with
 |none=>lX AP ctx st k (st.H.alloc (.deferred (some []))) (.iU st.H.au::st.aX) st.H.au Q v
 |some l=>bM aG (Dl st.H l) λ d=>lX AP ctx st k st.H st.aX d Q v
def WP(ctx:Ctx):ai->St->cB->Prop
 | .skip,st,Q=>Q .normal st
 | .label _,st,Q=>Q .normal st
 | .region steps,st,Q=>nJ AP ctx steps st Q
 | .seq a b,st,Q=>WP ctx a st (B7 (WP ctx b) Q)
 | .cond c a b,st,Q=>Ec st.tm c λ v=>bM aG (asBool v) λ q=>KP aG q (WP ctx a st Q) (WP ctx b st Q)
 | .block id b,st,Q=>WP ctx b st (BLK id Q)
 | .loop ah b,st,Q=>Ki (WP ctx b) ah st Q
 | .exit id,st,Q=>Q (.exit id) st
 | .goto l,st,Q=>Q (.goto l) st
 | .ret,st,Q=>Q .ret st
 | .stuck,_,_=>False
 | .scope b,st,Q=>WP ctx b st (SCP b Q)
 | .rangeFunc f k,st,Q=>Ec st.tm f λ v=>IF AP ctx k st Q v
section
variable(ctx:Ctx)(st:St)(Q:cB)
def UP(s:aN)(l:List aN):nJ AP ctx (s::l) st Q=qQ AP ctx s st Q λ c=>nJ AP ctx l c Q:=propext jx
end
def EX(ctx:Ctx)(c:ai)(st:St)(r:aU×St):Prop:=∃n0,∀n k,n0<=n->n0<=k->(bG c).run (wU AP n k ctx) st=some r
def EXS(ctx:Ctx)(l:List aN)(st:St)(r:aU×St):Prop:=∃n0,∀n k,n0<=n->n0<=k->(gQ l).run (wU AP n k ctx) st=some r
def tf.run{AP:ak}{f:lJ}{vs:List AV}{H:ar}{e:bE}{H':ar}(h:tf AP f vs H e H') :
 ∃n0,∀n k,n0<=n->n0<=k->cP (AP.call n) (rounds AP.prog (AP.call n) n k) f vs H=some (e,H'):=by
 cases f with
 |func g=>obtain⟨n0,h⟩:=h;exact⟨n0,λ n k hn _=>by simp[cP,h n hn]⟩
 |yield l=>obtain⟨n0,h⟩:=h;exact⟨n0,λ n k hn hk=>by simp[cP,h n k hn hk]⟩
def q5n:(∀v,bY v v=true)/\(∀l,eT l l=true):=by
 have c:∀n,Nat.beq n n=true:=λ n=>by simp
 have d:∀k,sJ k k=true:=λ k=>by cases k<;>rfl
 have g:∀i,tP i i=true:=λ i=>by rw[BU];simp
 have h:∀s,yV s s=true:=λ s=>by rw[J7];simp
 refine⟨λ v=>?_,λ l=>?_⟩
 .refine AV.rec (motive_1:=λ v=>bY v v=true) (motive_2:=λ l=>eT l l=true) ?_ ?_ ?_ ?_ ?_ ?_ ?_ ?_ ?_ ?_ ?_ ?_ ?_ ?_ ?_ ?_ ?_ ?_ ?_ v
  all_goals (intros;first|rfl|(simp only[bY,eT,jk,beq_self_eq_true, *];done)|(rename_i f _ _ _ _;cases f<;>simp only[bY,jk, *]))
 .refine AV.rec_1 (motive_1:=λ v=>bY v v=true) (motive_2:=λ l=>eT l l=true) ?_ ?_ ?_ ?_ ?_ ?_ ?_ ?_ ?_ ?_ ?_ ?_ ?_ ?_ ?_ ?_ ?_ ?_ ?_ l
  all_goals (intros;first|rfl|(simp only[bY,eT,jk,beq_self_eq_true, *];done)|(rename_i f _ _ _ _;cases f<;>simp only[bY,jk, *]))
def xg2(v:AV):bY v v=true:=q5n.1 v
def Ob.run{d:Option Nat}{st:St}{vs:List AV}{op:ft}(h:Ob d st vs op):∃t,d=some t/\pP (T.nO (T.path t)).run st vs op=true:=by
 cases op with
 |read f =>
  cases d with
  |none=>exact False.elim h
  |some t =>
   refine⟨t,rfl,?_⟩;obtain⟨v,g,h⟩:=bM.elim (m:=aG) h;obtain⟨j,i,h⟩:=bM.elim (m:=aG) h;subst h;have c:(T.nO (T.path t)).run st.tm=some v:=by rw[T.jL];exact i
   simp[pP,g,c,xg2]
 |_=>exact False.elim h
def nZ.run{AP:ak}{ctx:Ctx}{dst:Option Nat}{t:Option (List Nat)}{st:St}{Q:cB}{K:St->Prop}{vs:List AV}{op:ft}(h:nZ AP ctx dst t st Q K vs op)
 {kk:Nat->Nat->St->gC} (p:∀st,K st -> ∃e d,Q e d /\ ∃n0,∀n k,n0<=n->n0<=k->kk n k st=some (e,d)) :
 ∃e d,Q e d /\ ∃n0,∀n k,n0<=n->n0<=k->(qA (kZ dst).run t op).run (wU AP n k ctx) st (kk n k) vs=some (e,d):=by
 have hp:∀v tm,(kZ dst).run v tm=ey dst v tm:=TK dst;have call:∀{f vs},mX AP aG f vs st.H (λ v H=>K ⟨ey dst v st.tm,st.aX,st.up,H⟩) (yO t st.tm st.aX st.up Q) ->
  ∃e d,Q e d /\ ∃n0,∀n k,n0<=n->n0<=k->((cP (AP.call n) (rounds AP.prog (AP.call n) n k) f vs st.H).bind λ r=>fK (kZ dst).run t st (kk n k) r)=some (e,d):=by
  rintro f vs ⟨e,H',l,h⟩;obtain⟨n0,l⟩:=l.run;cases e with
  |ret v =>
   obtain⟨e,d,j,n1,i⟩:=p _ h;refine⟨e,d,j,max n0 n1,λ n k hn hk=>?_⟩;rw[l n k (by omega) (by omega)]
   simpa[fK,hp]using i n k (by omega) (by omega)
  |panic c =>
   cases t with
   |none=>exact False.elim h
   |some ds =>
    refine⟨_,_,h,n0,λ n k hn hk=>?_⟩;rw[l n k (by omega) (by omega)];simp[fK]
 cases op with
 |pure f =>
  obtain⟨v,l,h⟩:=bM.elim (m:=aG) h;obtain⟨e,d,j,n1,i⟩:=p _ h;exact⟨e,d,j,n1,λ n k hn hk=>by simp[qA,CR,l,hp,i n k hn hk]⟩
 |read f =>
  obtain⟨v,l,h⟩:=bM.elim (m:=aG) h;obtain⟨e,d,j,n1,i⟩:=p _ h;exact⟨e,d,j,n1,λ n k hn hk=>by simp[qA,DU,l,hp,i n k hn hk]⟩
 |alloc f =>
  simp only[nZ]at h;obtain⟨o,mk,l,h⟩:=iE.elim (m:=aG) h;obtain⟨e,d,j,n1,i⟩:=p _ h;exact⟨e,d,j,n1,λ n k hn hk=>by simp[qA,vB,l,hp,i n k hn hk]⟩
 |gJ f =>
  simp only[nZ]at h;obtain⟨o,mk,l,h⟩:=iE.elim (m:=aG) h;obtain⟨e,d,j,n1,i⟩:=p _ h;exact⟨e,d,j,n1,λ n k hn hk=>by simp[qA,Ja,l,hp,i n k hn hk]⟩
 |gY f=>exact call h
 |gS =>
  simp only[nZ,Lp]at h;split at h
  .exact call h
  .exact call h
  .exact False.elim h
 |invoke name =>
  simp only[nZ,LA]at h;split at h
  .obtain ⟨g,hg,h⟩:=bM.elim (m:=aG) h;obtain⟨e,d,j,n1,i⟩:=call h;exact⟨e,d,j,n1,λ n k hn hk=>by simpa[qA,sk,wU,(show AP.prog.jN _ name=some g from hg)]using i n k hn hk⟩
  .exact False.elim h
 |recover =>
  simp only[nZ]at h;split at h
  .obtain ⟨hr,h⟩:=h;split at h
   .rename_i v s q;obtain⟨e,d,j,n1,i⟩:=p _ h;exact⟨e,d,j,n1,λ n k hn hk=>by simpa[qA,Ru,wU,hr,NP,q,hp]using i n k hn hk⟩
   .rename_i q;obtain⟨e,d,j,n1,i⟩:=p _ h;refine⟨e,d,j,n1,λ n k hn hk=>?_⟩;have:NP (kZ dst).run st=⟨ey dst .nili st.tm,st.aX,st.up,st.H⟩:=by
     unfold NP;split
     .rename_i v s hu;exact(q _ _ hu).elim
     .rw [hp]
    simpa[qA,Ru,wU,hr,this]using i n k hn hk
  .exact False.elim h
 |defer =>
  obtain⟨hr,h⟩:=h;split at h
  .obtain ⟨e,d,j,n1,i⟩:=p _ h;exact⟨e,d,j,n1,λ n k hn hk=>by simpa[qA,vC,wU,hr,hp]using i n k hn hk⟩
  .exact False.elim h
 |panic =>
  simp only[nZ,fZ]at h;split at h
  .cases t with
   |none=>exact False.elim h
   |some ds=>exact⟨_,_,h,0,λ n k hn hk=>by simp[qA,vH,fK]⟩
  .exact False.elim h
def qQ.run{AP:ak}{ctx:Ctx}{s:aN}{st:St}{Q:cB}{K:St->Prop}(h:qQ AP ctx s st Q K)
 {kk:Nat->Nat->St->gC} (o:∀st,K st -> ∃e c,Q e c /\ ∃n0,∀n k,n0<=n->n0<=k->kk n k st=some (e,c)) :
 ∃e c,Q e c /\ ∃n0,∀n k,n0<=n->n0<=k->(gF s).run (wU AP n k ctx) (kk n k) st=some (e,c):=by
 obtain⟨gW,dst,guard,args,op,u⟩:=s;have hp:∀v tm,(kZ dst).run v tm=ey dst v tm:=TK dst;have p:∀g,(T.nO (T.path g)).run st.tm=st.tm.get g:=λ g=>by rw[T.jL];rfl
 cases gW with
 |false =>
  cases guard with
  |none =>
   obtain⟨vs,l,h⟩:=pK.elim h;obtain⟨e,c,j,n0,f⟩:=h.run o;exact⟨e,c,j,n0,λ n k hn hk=>by simpa[gF,Gc,l]using f n k hn hk⟩
  |some g =>
   obtain⟨w,hw,h⟩:=bM.elim (m:=aG) h;cases w with
   |true =>
    obtain⟨vs,l,h⟩:=pK.elim h;obtain⟨e,c,j,n0,f⟩:=h.run o;exact⟨e,c,j,n0,λ n k hn hk=>by simpa[gF,p,hw,Gc,l]using f n k hn hk⟩
   |false =>
    obtain⟨e,c,j,n0,f⟩:=o _ h;exact⟨e,c,j,n0,λ n k hn hk=>by simpa[gF,p,hw,hp]using f n k hn hk⟩
 |true =>
  cases guard with
  |none =>
   obtain⟨vs,l,hk,q⟩:=pK.elim h;obtain⟨t,rfl,hk⟩:=hk.run;obtain⟨e,c,j,n0,f⟩:=o _ q;exact⟨e,c,j,n0,λ n k hn i=>by simpa[gF,Gc,l,hk]using f n k hn i⟩
  |some g =>
   obtain⟨w,hw,h⟩:=bM.elim (m:=aG) h;cases w with
   |true =>
    obtain⟨vs,l,hk,q⟩:=pK.elim h;obtain⟨t,rfl,hk⟩:=hk.run;obtain⟨e,c,j,n0,f⟩:=o _ q;exact⟨e,c,j,n0,λ n k hn i=>by simpa[gF,p,hw,Gc,l,hk]using f n k hn i⟩
   |false =>
    obtain⟨r,h⟩:=h;obtain⟨e,c,j,n0,f⟩:=o _ h;cases dst with
    |none=>cases r
    |some d=>exact⟨e,c,j,n0,λ n k hn i=>by simpa[gF,p,hw]using f n k hn i⟩
def nJ.run{AP:ak}{ctx:Ctx}:∀{l:List aN}{st:St}{Q:cB},nJ AP ctx l st Q -> ∃e c,Q e c/\EXS AP ctx l st (e,c)
 |[],st,Q,h=>⟨_,_,h,0,λ _ _ _ _=>rfl⟩
 |s::rest,st,Q,h=>by
  obtain⟨e,c,d,n0,h⟩:=qQ.run (kk:=λ n k=>(gQ rest).run (wU AP n k ctx)) h λ c hs=>nJ.run hs;exact⟨e,c,d,n0,h⟩
def CO{AP:ak}{ctx:Ctx}{ah:Option (List Nat)}{b:ai}{Q:cB}{I:Nat->St->Prop}
 (hb:∀n st,I n st -> ∃e f,(match e with| .normal=>∃m,m<n/\I m f|e=>Q e f)/\EX AP ctx b (kF ah st) (e,f)) :
 ∀m n,n<=m -> ∀st,I n st -> ∃e f,Q e f /\ ∃n0 c,∀n k,n0<=n->n0<=k -> ∀d,c<=d->gE ah ((bG b).run (wU AP n k ctx)) d st=some (e,f):=by
 intro m
 induction m with
 |zero =>
  intro n hn st q;obtain⟨e,f,h,n0,g⟩:=hb n st q;cases e with
  |normal=>obtain⟨j,w,_⟩:=h;omega
  |exit id=>exact⟨_,_,h,n0,1,λ n k hn hk d i=>by obtain⟨c,rfl⟩:∃c,d=c+1:=⟨d-1,by omega⟩;have:=g n k hn hk;cases ah<;>simp[gE,kF]at this⊢<;>simp[this]⟩
  |goto l=>exact⟨_,_,h,n0,1,λ n k hn hk d i=>by obtain⟨c,rfl⟩:∃c,d=c+1:=⟨d-1,by omega⟩;have:=g n k hn hk;cases ah<;>simp[gE,kF]at this⊢<;>simp[this]⟩
  |ret=>exact⟨_,_,h,n0,1,λ n k hn hk d i=>by obtain⟨c,rfl⟩:∃c,d=c+1:=⟨d-1,by omega⟩;have:=g n k hn hk;cases ah<;>simp[gE,kF]at this⊢<;>simp[this]⟩
  |panic p=>exact⟨_,_,h,n0,1,λ n k hn hk d i=>by obtain⟨c,rfl⟩:∃c,d=c+1:=⟨d-1,by omega⟩;have:=g n k hn hk;cases ah<;>simp[gE,kF]at this⊢<;>simp[this]⟩
 |succ m ih =>
  intro n hn st q;obtain⟨e,f,h,n0,g⟩:=hb n st q;cases e with
  |normal =>
   obtain⟨j,w,r⟩:=h;obtain⟨e,s,x,n1,c,t⟩:=ih j (by omega) f r;refine⟨e,s,x,max n0 n1,c+1,λ n k hn hk d i=>?_⟩;obtain⟨o,rfl⟩:∃c,d=c+1:=⟨d-1,by omega⟩
   have:=g n k (by omega) (by omega);have u:=t n k (by omega) (by omega) o (by omega);cases ah<;>simp[gE,kF]at this⊢<;>simp[this,u]
  |exit id=>exact⟨_,_,h,n0,1,λ n k hn hk d i=>by obtain⟨c,rfl⟩:∃c,d=c+1:=⟨d-1,by omega⟩;have:=g n k hn hk;cases ah<;>simp[gE,kF]at this⊢<;>simp[this]⟩
  |goto l=>exact⟨_,_,h,n0,1,λ n k hn hk d i=>by obtain⟨c,rfl⟩:∃c,d=c+1:=⟨d-1,by omega⟩;have:=g n k hn hk;cases ah<;>simp[gE,kF]at this⊢<;>simp[this]⟩
  |ret=>exact⟨_,_,h,n0,1,λ n k hn hk d i=>by obtain⟨c,rfl⟩:∃c,d=c+1:=⟨d-1,by omega⟩;have:=g n k hn hk;cases ah<;>simp[gE,kF]at this⊢<;>simp[this]⟩
  |panic p=>exact⟨_,_,h,n0,1,λ n k hn hk d i=>by obtain⟨c,rfl⟩:∃c,d=c+1:=⟨d-1,by omega⟩;have:=g n k hn hk;cases ah<;>simp[gE,kF]at this⊢<;>simp[this]⟩
def lX.run{AP:ak}{ctx:Ctx}{st:St}{j:Nat}{H0:ar}{aX:List aM}{d:Nat}{Q:cB}{v:AV}(h:lX AP ctx st j H0 aX d Q v) :
 ∃e g,Q e g /\ ∃n0,∀n k,n0<=n->n0<=k->iT (AP.call n) (rounds AP.prog (AP.call n) n k) ctx st j H0 aX d v=some (e,g):=by
 unfold lX at h;split at h
 .obtain ⟨e,H',⟨n0,i⟩,h⟩:=h;cases e with
  |panic c=>exact⟨_,_,h,n0,λ n k hn hk=>by simp[iT,cP,i n hn,LV]⟩
  |ret v =>
   obtain⟨s,p,f,k,tm,d,hg,hs,h⟩:=h;refine⟨_,_,h,n0,λ n k hn hk=>?_⟩;simp only[iT,cP,i n hn,LV,qm,hg]
 .exact False.elim h
def WP.run{AP:ak}{ctx:Ctx}:∀{c:ai}{st:St}{Q:cB},WP AP ctx c st Q -> ∃e j,Q e j/\EX AP ctx c st (e,j)
 | .skip,st,Q,h=>⟨_,_,h,0,λ _ _ _ _=>rfl⟩
 | .label _,st,Q,h=>⟨_,_,h,0,λ _ _ _ _=>rfl⟩
 | .exit _,st,Q,h=>⟨_,_,h,0,λ _ _ _ _=>rfl⟩
 | .goto _,st,Q,h=>⟨_,_,h,0,λ _ _ _ _=>rfl⟩
 | .ret,st,Q,h=>⟨_,_,h,0,λ _ _ _ _=>rfl⟩
 | .stuck,st,Q,h=>False.elim h
 | .region steps,st,Q,h=>nJ.run h
 | .seq a b,st,Q,h=>by
  obtain⟨e,cS,i,n0,g⟩:=WP.run (c:=a) h;cases e with
  |normal =>
   obtain⟨e,u,o,n1,y⟩:=WP.run (c:=b) i;exact⟨e,u,o,max n0 n1,λ n k hn hk=>by simp[bG,g n k (by omega) (by omega),ta,y n k (by omega) (by omega)]⟩
  |exit id=>exact⟨_,_,i,n0,λ n k hn hk=>by simp[bG,g n k hn hk,ta]⟩
  |goto id=>exact⟨_,_,i,n0,λ n k hn hk=>by simp[bG,g n k hn hk,ta]⟩
  |ret=>exact⟨_,_,i,n0,λ n k hn hk=>by simp[bG,g n k hn hk,ta]⟩
  |panic p=>exact⟨_,_,i,n0,λ n k hn hk=>by simp[bG,g n k hn hk,ta]⟩
 | .cond c a b,st,Q,h=>by
  obtain⟨v,r,h⟩:=Ec.elim h;obtain⟨q,o,h⟩:=bM.elim (m:=aG) h;have t:v=.bool q:=by
   unfold asBool at o;split at o
   .injection o with o;rw[o]
   .cases o
  subst t;cases q with
  |true =>
   obtain⟨e,cS,i,n0,g⟩:=WP.run (c:=a) h;exact⟨e,cS,i,n0,λ n k hn hk=>by simp[bG,IW,r,tG,g n k hn hk]⟩
  |false =>
   obtain⟨e,cS,i,n0,g⟩:=WP.run (c:=b) h;exact⟨e,cS,i,n0,λ n k hn hk=>by simp[bG,IW,r,tG,g n k hn hk]⟩
 | .block id b,st,Q,h=>by
  obtain⟨e,cS,i,n0,g⟩:=WP.run (c:=b) h;cases e with
  |exit id'=>exact⟨_,_,i,n0,λ n k hn hk=>by simp[bG,g n k hn hk,jP]⟩
  |normal=>exact⟨_,_,i,n0,λ n k hn hk=>by simp[bG,g n k hn hk,jP]⟩
  |goto id=>exact⟨_,_,i,n0,λ n k hn hk=>by simp[bG,g n k hn hk,jP]⟩
  |ret=>exact⟨_,_,i,n0,λ n k hn hk=>by simp[bG,g n k hn hk,jP]⟩
  |panic p=>exact⟨_,_,i,n0,λ n k hn hk=>by simp[bG,g n k hn hk,jP]⟩
 | .scope b,st,Q,h=>by
  obtain⟨e,cS,i,n0,g⟩:=WP.run (c:=b) h;cases e with
  |exit id'=>exact⟨_,_,i,n0,λ n k hn hk=>by simp[bG,g n k hn hk,kU]⟩
  |normal=>exact⟨_,_,i,n0,λ n k hn hk=>by simp[bG,g n k hn hk,kU]⟩
  |goto id=>exact⟨_,_,i.2,n0,λ n k hn hk=>by simp[bG,g n k hn hk,kU,i.1]⟩
  |ret=>exact⟨_,_,i,n0,λ n k hn hk=>by simp[bG,g n k hn hk,kU]⟩
  |panic p=>exact⟨_,_,i,n0,λ n k hn hk=>by simp[bG,g n k hn hk,kU]⟩
 | .loop ah b,st,Q,⟨I,⟨n,s⟩,h⟩=>by
  obtain⟨e,j,o,n0,c,g⟩:=CO (AP:=AP) (ctx:=ctx) (ah:=ah) (b:=b) (Q:=Q) (I:=I) (λ n st s=>by
   obtain⟨e,j,i,w⟩:=WP.run (c:=b) (h n st s);exact⟨e,j,i,w⟩) n n (qg n) st s
  exact⟨e,j,o,max n0 c,λ n k hn hk=>g n k (by omega) (by omega) n (by omega)⟩
 | .rangeFunc f k0,st,Q,h=>by
  obtain⟨v,r,h⟩:=Ec.elim h;unfold IF at h;cases hr:ctx.round with
  |none =>
   rw[hr]at h;obtain⟨e,j,o,n0,g⟩:=lX.run h;exact⟨e,j,o,n0,λ n k hn hk=>by simpa[bG,IW,r,qP,wU,hr]using g n k hn hk⟩
  |some l =>
   rw[hr]at h;obtain⟨d,x,h⟩:=bM.elim (m:=aG) h;obtain⟨e,j,o,n0,g⟩:=lX.run h;exact⟨e,j,o,n0,λ n k hn hk=>by simpa[bG,IW,r,qP,wU,hr,x]using g n k hn hk⟩
def yF(AP:ak)(rs:List dX)(tm:T AV)(Q:bE->ar->Prop):List aM->Option aE->ar->Prop
 |[],none,H=>bM aG (dQ H tm rs) λ l=>Q (.ret (iR l)) H
 |[],some c,H=>Q (.panic c) H
 | .iU b::ds,m,H=>H.get b=some (.deferred (some []))/\yF AP rs tm Q ds m (H.set b (.deferred none))
 | .fn (.func f) args::ds,m,H=>∃v up' H',jJ AP f args (some (m.getD [])) H (.ret v) (some up') H'/\bM aG (nD m up') λ m'=>yF AP rs tm Q ds m' H'
 | .fn (.yield _) _::_,_,_=>False
def yF.run{AP:ak}{rs:List dX}{tm:T AV}{Q:bE->ar->Prop}:∀{ds:List aM}{m:Option aE}{H:ar},yF AP rs tm Q ds m H ->
 ∃e H',Q e H' /\ ∃n0,∀n,n0<=n->bW (AP.call n) rs tm ds m H=some (e,H')
 |[],none,H,h=>by
  obtain⟨l,hl,h⟩:=bM.elim (m:=aG) h;exact⟨_,_,h,0,λ n _=>by simp[bW,hl]⟩
 |[],some c,H,h=>⟨_,_,h,0,λ n _=>by simp[bW]⟩
 | .iU b::ds,m,H,⟨hb,h⟩=>by
  obtain⟨e,H',d,n0,g⟩:=yF.run h;exact⟨e,H',d,n0,λ n hn=>by simp[bW,hb,g n hn]⟩
 | .fn (.func f) args::ds,m,H,⟨v,up',H',⟨n0,hc⟩,h⟩=>by
  obtain⟨j,hm,h⟩:=bM.elim (m:=aG) h;obtain⟨e,i,d,n1,g⟩:=yF.run h;exact⟨e,i,d,max n0 n1,λ n hn=>by simp[bW,hc n (by omega),hm,g n (by omega)]⟩
 | .fn (.yield _) _::_,_,_,h=>False.elim h
def XN(AP:ak)(rs:List dX)(Q:bE->Option aE->ar->Prop):cB:=λ e st=>match e with
 | .normal=>yF AP rs st.tm (λ e H=>Q e st.up H) st.aX none st.H
 | .ret=>yF AP rs st.tm (λ e H=>Q e st.up H) st.aX none st.H
 | .panic c=>yF AP rs st.tm (λ e H=>Q e st.up H) st.aX (some c) st.H
 |_=>False
def q14{AP:ak}{f:Nat}{fn:cj}(i:AP.func f=some fn){vs:List AV}{up:Option aE}{H:ar}{Q:bE->Option aE->ar->Prop}
 (h:WP AP ⟨none,f⟩ fn.body ⟨jK 0 vs .nil,[],up,H⟩ (XN AP fn.results Q)):∃e d H',jJ AP f vs up H e d H'/\Q e d H':=by
 obtain⟨l,i⟩:=ak.wM i;obtain⟨e,st,g,n0,p⟩:=h.run;have key:∀m,yF AP fn.results st.tm (λ e H=>Q e st.up H) st.aX m st.H->(∀call,pJ call fn (e,st)=(bW call fn.results st.tm st.aX m st.H).bind λ q=>some (q.1,st.up,q.2)) ->
  ∃e d H',jJ AP f vs up H e d H'/\Q e d H':=by
  intro m g he;obtain⟨e',H',o,n1,r⟩:=g.run;refine⟨e',st.up,H',⟨max n0 n1+1,λ n hn=>?_⟩,o⟩;obtain⟨n,rfl⟩:∃j,n=j+1:=⟨n-1,by omega⟩
  have:=p n n (by omega) (by omega);simp only[wU]at this;rw[ak.yH l];simp only[EJ,i,qm,exec,this,he,r n (by omega)]
 cases e with
 |normal=>exact key none g λ _=>rfl
 |ret=>exact key none g λ _=>rfl
 |panic c=>exact key (some c) g λ _=>rfl
 |exit _=>exact False.elim g
 |goto _=>exact False.elim g
def qp{AP:ak}{f:Nat}{fn:cj}(g:AP.func f=some fn){vs:List AV}{H:ar}{Q:bE->ar->Prop}
 (h:WP AP ⟨none,f⟩ fn.body ⟨jK 0 vs .nil,[],none,H⟩ (XN AP fn.results λ e up H=>up=none/\Q e H)):∃e H',CALL AP f vs H e H'/\Q e H':=by
 obtain⟨e,i,H',c,rfl,d⟩:=q14 g h;exact⟨e,H',c,d⟩
def RE(l:Nat)(Q:bE->ar->Prop):cB:=λ e st=>st.aX=[]/\match e with
 | .panic c=>Q (.panic c) st.H
 |e=>bM aG (cM st.H l (cond (yM e) .ready .done) (jW e)) λ H=>Q (.ret (.bool (yM e))) H
def RB(W:St->cB->Prop)(l:Nat)(Q:bE->ar->Prop):cB:=λ e st=>match e with
 | .normal=>bM aG (beginRound st.H l) λ H=>W {st with H:=H} (RE l Q)
 |_=>False
def Zd{AP:ak}{l:Nat}{H:ar}{s:mC}{p:Option gU}{f k:Nat}{tm:T AV}{d:Nat}{fn:cj}{lp:dZ}{vs:List AV}{u:T AV}{Q:bE->ar->Prop}
 (hl:H.get l=some (.loop s p f k tm d)) (y:AP.func f=some fn) (hk:nth fn.loops k=some lp) (hb:Ju tm lp.params vs=some u)
 (h:WP AP ⟨some l,f⟩ lp.assign ⟨u,[],none,H⟩ (RB (WP AP ⟨some l,f⟩ lp.body) l Q)):∃e H',rS AP l vs H e H'/\Q e H':=by
 obtain⟨F,y⟩:=ak.wM y;obtain⟨e,st,o,n0,J⟩:=h.run;cases e with
 |normal =>
  obtain⟨N,x,o⟩:=bM.elim (m:=aG) o;obtain⟨e,z,⟨C,g⟩,n1,L⟩:=WP.run o;have key:∀e' H',Q e' H'->Gw l (e,z)=some (e',H') -> ∃e H',rS AP l vs H e H'/\Q e H':=by
   intro e' H' G he;refine⟨e',H',⟨max n0 n1+1,λ n j hn O=>?_⟩,G⟩;obtain⟨j,rfl⟩:∃i,j=i+1:=⟨j-1,by omega⟩
   have r:=J n j (by omega) (by omega);have t:=L n j (by omega) (by omega);simp only[wU]at r t;simp only[rounds,roundOf,hl,y,qm,hk,hb,exec,r,x,t,C,roundOf.noDefs,xm,he]
  cases e with
  |panic c=>exact key _ _ g rfl
  |normal=>obtain⟨w,q,g⟩:=bM.elim (m:=aG) g;exact key _ _ g (by simp[Gw,q])
  |exit id=>obtain⟨w,q,g⟩:=bM.elim (m:=aG) g;exact key _ _ g (by simp[Gw,q])
  |goto id=>obtain⟨w,q,g⟩:=bM.elim (m:=aG) g;exact key _ _ g (by simp[Gw,q])
  |ret=>obtain⟨w,q,g⟩:=bM.elim (m:=aG) g;exact key _ _ g (by simp[Gw,q])
 |exit _=>exact False.elim o
 |goto _=>exact False.elim o
 |ret=>exact False.elim o
 |panic _=>exact False.elim o
def CALL.Av{AP:ak}{f:Nat}{vs:List AV}{H:ar}{e:bE}{H':ar}(h:CALL AP f vs H e H'):∃n,AP.call n f vs none H=some (e,none,H'):=by
 obtain⟨n,h⟩:=h;exact⟨n,h n (qg n)⟩
end
end Go.Am
namespace Go.Am
abbrev Env:=List (Nat×AV)
def kT(dst:Option Nat)(v:AV)(E:Env):Env:=match dst with
 |some d=>(d,v)::E
 |none=>E
def sF{α β:Type}(m:Bool)(o:Option (α×β))(K:Bool -> α -> β->Prop):Prop:=match o with
 |some a=>K aG a.1 a.2
 |none=>False
def LK{α:Type}(m:Bool)(o:Option α)(K:Bool -> α->Prop):Prop:=match o with
 |some a=>K m a
 |none=>False
def EP{α:Type}(a:α)(K:Bool -> α->Prop):LK true (some a) K=K true a:=propext jx
@[congr]def PF{α:Type}{m c:Bool}{o o':Option α}{K:Bool -> α->Prop}(hm:m=c)(h:o=o'):LK m o K=LK c o' K:=by subst hm;subst h;rfl
@[congr]def MH{α β:Type}{m c:Bool}{o o':Option (α×β)}{K:Bool -> α -> β->Prop}(hm:m=c)(h:o=o'):sF m o K=sF c o' K:=by subst hm;subst h;rfl
def sF.intro{α β:Type}{m:Bool}{o:Option (α×β)}{K:Bool -> α -> β->Prop}{a:α}{b:β}(h:o=some (a,b))(hk:K aG a b):sF m o K:=by subst h;exact hk
noncomputable section
variable(AP:ak)
end
end Go.Am
namespace Go.Am
def xku(n:Int):aj .i64 n=(n+9223372036854775808) % 18446744073709551616-9223372036854775808:=by
 simp[aj,IntKind.wrap,IntKind.bits,IntKind.signed];split<;>omega
def xbj(n:Int):aj .u64 n=n % 18446744073709551616:=by simp[aj,IntKind.wrap,IntKind.bits,IntKind.signed]
def js{n:Int}(h:-9223372036854775808<=n)(c:n<9223372036854775808):aj .i64 n=n:=by rw[xku];omega
def xe6{n:Int}(h:0<=n)(c:n<18446744073709551616):aj .u64 n=n:=by rw[xbj];omega
section
variable(k:IntKind)(a b:Int)
def KH(v:AV):Op.move [v]=some v:=rfl
def Kz(q:Bool)(a b:AV):Op.pick [.bool q,a,b]=some (cond q a b):=rfl
def Pb:Op.bin .add [.int k a,.int k b]=some (.int k (aj k (a+b))):=by cases k<;>rfl
def NV:Op.bin .sub [.int k a,.int k b]=some (.int k (aj k (a-b))):=by cases k<;>rfl
def OT:Op.bin .mul [.int k a,.int k b]=some (.int k (aj k (a*b))):=by cases k<;>rfl
def Px(hb:b≠0):Op.bin .quo [.int k a,.int k b]=some (.int k (aj k (a.tdiv b))):=by
 have:tP b 0=false:=by rw[BU];simpa using hb
 cases k<;>simp[Op.bin,mS,dR,sJ,kE,gf,this]
def tq(hb:b≠0):Op.bin .rem [.int k a,.int k b]=some (.int k (a.tmod b)):=by
 have:tP b 0=false:=by rw[BU];simpa using hb
 cases k<;>simp[Op.bin,mS,dR,sJ,kE,gf,this]
def Od:Op.bin .eql [.int k a,.int k b]=some (.bool (decide (a=b))):=by
 have:tP a b=decide (a=b):=by rw[BU];rfl
 cases k<;>simp[Op.bin,mS,dR,sJ,kE,gf,this]
def OY:Op.bin .neq [.int k a,.int k b]=some (.bool (decide (a≠b))):=by
 have:tP a b=decide (a=b):=by rw[BU];rfl
 cases k<;>simp[Op.bin,mS,dR,sJ,kE,gf,this]
def NN:Op.bin .lss [.int k a,.int k b]=some (.bool (decide (a<b))):=by
 cases k<;>simp[Op.bin,mS,dR,sJ,kE,gf,Mx]
def PJ:Op.bin .leq [.int k a,.int k b]=some (.bool (decide (a<=b))):=by
 cases k<;>simp[Op.bin,mS,dR,sJ,kE,gf,GZ]
def Qm:Op.bin .gtr [.int k a,.int k b]=some (.bool (decide (b<a))):=by
 cases k<;>simp[Op.bin,mS,dR,sJ,kE,gf,Mx]
def Nw:Op.bin .geq [.int k a,.int k b]=some (.bool (decide (b<=a))):=by
 cases k<;>simp[Op.bin,mS,dR,sJ,kE,gf,GZ]
def Lk(k':IntKind):Op.wrap k [.int k' a]=some (.int k (aj k a)):=rfl
def Nr(q:Bool):Op.un .not [.bool q]=some (.bool (!q)):=rfl
def xiz(a b:List UInt8):yV a b=decide (a=b):=by
 by_cases h:a=b
 .subst h;simp[J7]
 .simp [J7,h]
def Ku(a b:List UInt8):Op.bin .eql [.str a,.str b]=some (.bool (decide (a=b))):=by
 simp only[Op.bin,mS,qE,xiz]
def Lb(a b:List UInt8):Op.bin .neq [.str a,.str b]=some (.bool (decide (a≠b))):=by
 simp[Op.bin,mS,qE,xiz]
def Aq(s:List UInt8):Op.fg [.str s]=some (.int .i64 s.length):=by simp[Op.fg,eK,FQ]
def xjx(i:Nat)(l:List AV):Op.extract i [.tuple l]=l[i]?:=by simp[Op.extract,lR]
def BD(f n:Nat)(l:List AV):Op.bD f n l=some (.fn (.func f) (l.take n) (l.drop n)):=rfl
def xjz(t:Nat)(v:AV):Op.dp t [v]=some (.iface t v):=rfl
def xcx(off b o:Nat):Op.fieldAddr off [.ptr b o]=some (.ptr b (o+off)):=rfl
def CB(off:Nat)(l:List AV):Op.field off none [.agg l]=l[off]?:=by simp[Op.field,partAt,lR]
def Kq(q:Bool):cN true (some (.bool q))=some q:=by cases q<;>rfl
def Fb(q:Bool):cN false (some (.bool q))=some (!q):=by cases q<;>rfl
def Fm(b:Bool):cN b (some .undef)=some false:=rfl
end
structure Fr(W:Nat->Prop)(H H':ar):Prop where
 au:H.au<=H'.au
 ah:∀b,b<H.au -> ¬W b->H'.get b=H.get b
def Em:Nat->Prop:=λ _=>False
def On(b:Nat):Nat->Prop:=λ x=>x=b
def Fr.refl{W:Nat->Prop}(H:ar):Fr W H H:=⟨qg _,λ _ _ _=>rfl⟩
def Fr.trans{W W':Nat->Prop}{H H1 d:ar}(a:Fr W H H1)(b:Fr W' H1 d)(h:∀x,W' x->W x\/H.au<=x):Fr W H d :=
 ⟨xu a.au b.au,λ x f hw=>by
  rw[b.ah x (qj f a.au) (λ c=>(h x c).elim hw (λ q=>by omega)),a.ah x f hw]⟩
def Fr.em{W:Nat->Prop}{H H1 c:ar}(a:Fr W H H1)(b:Fr Em H1 c):Fr W H c:=a.trans b λ _ h=>h.elim
def Fr.mono{W W':Nat->Prop}{H H':ar}(a:Fr W H H')(h:∀x,x<H.au->W x->W' x):Fr W' H H':=⟨a.au,λ x c hw=>a.ah x c λ q=>hw (h x c q)⟩
def xx(H:ar)(o:bH):(H.alloc o).au=H.au+1:=rfl
def su(H:ar)(b:Nat)(o:bH):(H.set b o).au=H.au:=rfl
def FK(H:ar)(b:Nat):(H.kill b).au=H.au:=rfl
def Fr.alloc{W:Nat->Prop}{H H1:ar}(a:Fr W H H1)(o:bH):Fr W H (H1.alloc o) :=
 ⟨Nat.le_succ_of_le a.au,λ x c hw=>by rw[ar.bJ,qo (by have:=a.au;omega),a.ah x c hw]⟩
def Fr.set{W:Nat->Prop}{H H1:ar}(a:Fr W H H1){b:Nat}(h:W b\/H.au<=b)(o:bH):Fr W H (H1.set b o) :=
 ⟨a.au,λ x c hw=>by rw[ar.aI,qo (by rintro rfl;exact h.elim hw (λ q=>by omega)),a.ah x c hw]⟩
def Fr.kill{W:Nat->Prop}{H H1:ar}(a:Fr W H H1){b:Nat}(h:W b\/H.au<=b):Fr W H (H1.kill b) :=
 ⟨a.au,λ x c hw=>by rw[ar.qR,qo (by rintro rfl;exact h.elim hw (λ q=>by omega)),a.ah x c hw]⟩
def qy{H:ar}{b:Nat}{c:List AV}{e:Nat}{fz:Nat×Nat}{ow:Bool}(h:H.get b=some (.row c e fz ow)):H.bT b=some c:=by simp[ar.bT,h]
def UH{H:ar}{b m s:Nat}{c:List AV}{e:Nat}{fz:Nat×Nat}(h:H.get b=some (.grown m s c e fz)):H.bT b=some c:=by simp[ar.bT,h]
def Z3{H H':ar}{b:Nat}(h:H'.get b=H.get b):H'.bT b=H.bT b:=by simp[ar.bT,h]
def Fr.cells{W:Nat->Prop}{H H':ar}(a:Fr W H H'){b:Nat}(hb:b<H.au)(hw:¬W b):H'.bT b=H.bT b:=Z3 (a.ah b hb hw)
def xz{H:ar}{b:Nat}{c:List AV}(h:H.bT b=some c)(o:Nat):Op.ae [.ptr b o] H=c[o]?:=by simp[Op.ae,ar.ae,h,lR]
def rq{H:ar}{b:Nat}{c:List AV}(h:H.bT b=some c){o n:Nat}(hn:o+n<=c.length):Op.aq n [.ptr b o] H=some (.agg ((c.drop o).take n)):=by
 simp only[Op.aq,ar.aq,h,qm,u4];rw[qr (by omega)];rfl
def Sl(H:ar)(size:Nat)(v:AV)(n:Nat)(cells:List AV):Prop :=
 cells.length=n*size/\match v with
 | .nils=>n=0
 | .slice b o m c=>m=n/\n<=c/\(n=0\/b<H.au /\ ∃all,H.bT b=some all/\fG all o (n*size)=some cells)
 | .gslice b i m s alt k=>k=n/\s=size/\i+n<=m/\(n=0\/b<H.au /\ ∃all,H.bT b=some all/\fG all (i*size) (n*size)=some cells)
 | .eslice b=>n=0/\b<H.au
 |_=>False
def aH:AV->Nat
 | .slice b _ _ _=>b
 | .gslice b _ _ _ _ _=>b
 | .eslice b=>b
 |_=>0
def cG(size:Nat):AV->Nat->Nat
 | .slice _ o _ _,j=>o+j*size
 | .gslice _ i _ s _ _,j=>i*s+j*s
 |_,_=>0
def Sl.eY{H:ar}{size:Nat}{v:AV}{n:Nat}{cells:List AV}(h:Sl H size v n cells):eY v=some n:=by
 obtain⟨_,h⟩:=h;split at h
 .subst h;rfl
 .obtain ⟨rfl,_⟩:=h;rfl
 .obtain ⟨rfl,_⟩:=h;rfl
 .obtain ⟨rfl,_⟩:=h;rfl
 .exact h.elim
def Sl.len{H:ar}{size:Nat}{v:AV}{n:Nat}{cells:List AV}(h:Sl H size v n cells):Op.dc [v]=some (.int .i64 n):=by
 obtain⟨_,h⟩:=h;split at h
 .subst h;rfl
 .obtain ⟨rfl,_⟩:=h;rfl
 .obtain ⟨rfl,_⟩:=h;rfl
 .obtain ⟨rfl,_⟩:=h;rfl
 .exact h.elim
def Jj{z:Int}{i n:Nat}(c:z=i)(h:i<n):within z n=some i:=by
 subst c;show cond (Nat.blt i n) (some i) none=some i;have:Nat.blt i n=true:=by simpa[sX]using h
 rw[this];rfl
def KE{i j:Nat}(h:i≠j):Nat.beq i j=false:=by
 cases q:Nat.beq i j with
 |false=>rfl
 |true=>exact(h (wg q)).elim
def Ei{i n:Nat}(h:i<n):Nat.blt i n=true:=by simpa[sX]using h
def y9{i n:Nat}(h:i<=n):Nat.ble i n=true:=by simpa using h
def Sl.idx{H:ar}{size:Nat}{v:AV}{n:Nat}{cells:List AV}(h:Sl H size v n cells){i:Nat}(d:i<n){z:Int}(g:z=i)(k:IntKind) :
 Op.aO size [v,.int k z]=some (.ptr (aH v) (cG size v i)):=by
 obtain⟨hl,h⟩:=h;split at h
 .omega
 .rename_i b o m c;obtain⟨rfl,p,h⟩:=h;have f:=Ei d;simp[Op.aO,Am.eY,Jj g d,elemAt,f,aH,cG]
 .rename_i b j m s alt k;obtain⟨rfl,rfl,hm,h⟩:=h;have f:=Ei d;have l:=Ei (show j+i<m by omega);simp[Op.aO,Am.eY,Jj g d,elemAt,f,l,aH,cG]
 .omega
 .exact h.elim
def RQ{α:Type}{l r:List α}{o n:Nat}(h:fG l o n=some r):n<=l.length-o/\r=(l.drop o).take n:=by
 rw[u4]at h;split at h
 .rename_i hn;injection h with h;exact⟨hn,h.symm⟩
 .cases h
def Sl.at{H:ar}{size:Nat}{v:AV}{n:Nat}{cells:List AV}(g:0<size)(h:Sl H size v n cells){i:Nat}(p:i<n) :
 aH v<H.au /\ ∃all,H.bT (aH v)=some all/\cG size v i+size<=all.length /\ ∀j,j<size->all[cG size v i+j]? = cells[i*size+j]?:=by
 obtain⟨hl,h⟩:=h;have t:0<n*size:=Nat.mul_pos (by omega) g;have u:i*size+size<=n*size:=by rw[<-wL];exact jv _ p
 split at h
 .omega
 .rename_i b o m c;obtain⟨rfl,w,h⟩:=h;rcases h with h|⟨hb,all,d,f⟩
  .omega
  obtain⟨l,rfl⟩:=RQ f;refine⟨hb,all,d,?_,λ j r=>?_⟩
  .simp only[cG];simp at hl;omega
  .simp only[cG];rw[yf,qr (by omega),yo];congr 1;omega
 .rename_i b q m s alt k;obtain⟨rfl,rfl,hm,h⟩:=h;rcases h with h|⟨hb,all,d,f⟩
  .omega
  obtain⟨l,rfl⟩:=RQ f;refine⟨hb,all,d,?_,λ j r=>?_⟩
  .simp only[cG];simp at hl;omega
  .simp only[cG];rw[yf,qr (by omega),yo];congr 1;omega
 .omega
 .exact h.elim
def Sl.fr{H H':ar}{W:Nat->Prop}{size:Nat}{v:AV}{n:Nat}{cells:List AV}(h:Sl H size v n cells)(f:Fr W H H')(hw:n=0 \/ ¬W (aH v)):Sl H' size v n cells:=by
 obtain⟨hl,h⟩:=h;refine⟨hl,?_⟩;split at h
 .exact h
 .obtain ⟨d,g,c⟩:=h;refine⟨d,g,?_⟩;rcases c with c|⟨hb,all,c,i⟩
  .exact .inl c
  .rcases hw with hw|hw
   .exact .inl hw
   .exact .inr ⟨qj hb f.au,all,by rw[f.cells hb hw];exact c,i⟩
 .obtain ⟨d,g,j,c⟩:=h;refine⟨d,g,j,?_⟩;rcases c with c|⟨hb,all,c,i⟩
  .exact .inl c
  .rcases hw with hw|hw
   .exact .inl hw
   .exact .inr ⟨qj hb f.au,all,by rw[f.cells hb hw];exact c,i⟩
 .exact ⟨h.1,qj h.2 f.au⟩
 .exact h.elim
def Sl.em{H H':ar}{size:Nat}{v:AV}{n:Nat}{cells:List AV}(h:Sl H size v n cells)(f:Fr Em H H'):Sl H' size v n cells:=h.fr f (.inr id)
def Sl.first{H:ar}{size:Nat}{v:AV}{n:Nat}{cells:List AV}(h:Sl H size v n cells):firstCells H size n v=some cells:=by
 obtain⟨hl,h⟩:=h;split at h
 .subst h;simp at hl;subst hl;rfl
 .rename_i b o m c;obtain⟨rfl,j,h⟩:=h;rcases h with rfl|⟨hb,all,d,f⟩
  .simp at hl;subst hl;rfl
  .by_cases hn:m=0
   .subst hn;simp at hl;subst hl;rfl
   .have:Nat.beq m 0=false:=KE hn;simp only[firstCells,this,zj,ar.aq,d,qm,f]
 .rename_i b i m s alt k;obtain⟨rfl,rfl,hm,h⟩:=h;rcases h with rfl|⟨hb,all,d,f⟩
  .simp at hl;subst hl;rfl
  .by_cases hn:k=0
   .subst hn;simp at hl;subst hl;rfl
   .have:Nat.beq k 0=false:=KE hn;have g:=Ei (show i<m by omega);simp[firstCells,this,g,ar.aq,d,f]
 .obtain ⟨rfl,_⟩:=h;simp at hl;subst hl;rfl
 .exact h.elim
def dU{α:Type}(enc:α->List AV)(size:Nat)(H:ar)(v:AV)(xs:List α):Prop:=Sl H size v xs.length (xs.flatMap enc)
section
variable{α:Type}{enc:α->List AV}{size:Nat}{H H':ar}{v:AV}{xs:List α}
def dU.len(h:dU enc size H v xs):Op.dc [v]=some (.int .i64 xs.length):=Sl.len h
def dU.fr{W:Nat->Prop}(h:dU enc size H v xs)(f:Fr W H H')(hw:¬W (aH v)):dU enc size H' v xs:=Sl.fr h f (.inr hw)
def dU.em(h:dU enc size H v xs)(f:Fr Em H H'):dU enc size H' v xs:=Sl.em h f
def Hl(hs:∀x,(enc x).length=size):∀(xs:List α){i:Nat}{x:α},xs[i]? = some x -> ∀{j:Nat},j<size->(xs.flatMap enc)[i*size+j]? = (enc x)[j]?
 |[],i,x,h,j,hj=>by simp at h
 |y::ys,0,x,h,j,hj=>by
  simp at h;subst h;rw[ju,jd (by rw[hs];omega)];simp
 |y::ys,i+1,x,h,j,hj=>by
  simp only[zq]at h;rw[ju,zh (by rw[hs,wL];omega),hs,<-Hl hs ys h hj];congr 1;rw[wL];omega
def Eu{i:Nat}{x:α}(h:xs[i]? = some x):i<xs.length:=(qk.1 h).1
def dU.idx(h:dU enc size H v xs){i:Nat}{x:α}(c:xs[i]? = some x){z:Int}(d:z=i)(k:IntKind):Op.aO size [v,.int k z]=some (.ptr (aH v) (cG size v i)) :=
 Sl.idx h (Eu c) d k
def dU.ae(hs:∀x,(enc x).length=size)(h:dU enc size H v xs){i:Nat}{x:α}(d:xs[i]? = some x){j:Nat}(c:j<size):Op.ae [.ptr (aH v) (cG size v i+j)] H=(enc x)[j]?:=by
 obtain⟨_,all,f,l,g⟩:=Sl.at (by omega) h (Eu d);rw[xz f,g j c,Hl hs xs d c]
def dU.lT(hs:∀x,(enc x).length=size)(h:dU enc size H v xs){i:Nat}{x:α}(d:xs[i]? = some x)(c:0<size):Op.ae [.ptr (aH v) (cG size v i)] H=(enc x)[0]?:=h.ae hs d c
def dU.aq(hs:∀x,(enc x).length=size)(d:0<size)(h:dU enc size H v xs){i:Nat}{x:α}(f:xs[i]? = some x):Op.aq size [.ptr (aH v) (cG size v i)] H=some (.agg (enc x)):=by
 obtain⟨_,all,g,l,m⟩:=Sl.at d h (Eu f);rw[rq g l];congr 2;refine jz λ j=>?_
 by_cases c:j<size
 .rw [yf,qr c,yo,m j c,Hl hs xs f c]
 .rw [zz (by simp;omega),zz (by rw[hs];omega)]
end
def Own(H:ar)(e size:Nat)(v:AV)(n:Nat)(cells:List AV):Prop :=
 cells.length=n*size/\(n=0/\(v=.nils \/ ∃b,v=.slice b 0 0 0/\b<H.au) \/ ∃b,v=.gslice b 0 n size 0 n/\b<H.au/\H.get b=some (.grown n size cells e (0,0)))
def aW(v:AV):Nat->Prop:=λ x=>v≠ .nils/\x=aH v
def Own.nil(H:ar)(e size:Nat):Own H e size .nils 0 []:=⟨by simp,.inl ⟨rfl,.inl rfl⟩⟩
def Own.sl{H:ar}{e size:Nat}{v:AV}{n:Nat}{cells:List AV}(h:Own H e size v n cells):Sl H size v n cells:=by
 obtain⟨hl,⟨rfl,rfl|⟨b,rfl,hb⟩⟩|⟨b,rfl,c,d⟩⟩:=h
 .exact ⟨hl,rfl⟩
 .exact ⟨hl,rfl,qg _,.inl rfl⟩
 .refine ⟨hl,rfl,rfl,by omega,.inr ⟨c,cells,UH d,?_⟩⟩;rw[u4,qr (by simp[hl])];simp[<-hl]
def Own.fr{H H':ar}{W:Nat->Prop}{e size:Nat}{v:AV}{n:Nat}{cells:List AV}(h:Own H e size v n cells)(f:Fr W H H')(hw:∀x,aW v x -> ¬W x):Own H' e size v n cells:=by
 obtain⟨hl,⟨c,h|⟨b,rfl,hb⟩⟩|⟨b,rfl,d,g⟩⟩:=h
 .exact ⟨hl,.inl ⟨c,.inl h⟩⟩
 .exact ⟨hl,.inl ⟨c,.inr ⟨b,rfl,qj hb f.au⟩⟩⟩
 .exact ⟨hl,.inr ⟨b,rfl,qj d f.au,by rw[f.ah b d (hw b ⟨by simp,rfl⟩)];exact g⟩⟩
def Own.em{H H':ar}{e size:Nat}{v:AV}{n:Nat}{cells:List AV}(h:Own H e size v n cells)(f:Fr Em H H'):Own H' e size v n cells:=h.fr f λ _ _ h=>h
def Own.lt{H:ar}{e size:Nat}{v:AV}{n:Nat}{cells:List AV}(h:Own H e size v n cells):∀x,aW v x->x<H.au:=by
 rintro x ⟨c,rfl⟩;obtain⟨hl,⟨d,h|⟨b,rfl,hb⟩⟩|⟨b,rfl,c,f⟩⟩:=h
 .exact (c h).elim
 .exact hb
 .exact c
def Sl.one{H:ar}{size:Nat}{v:AV}{n:Nat}{cells:List AV}(h:Sl H size v n cells):av v=true:=by
 obtain⟨_,h⟩:=h;cases v<;>first|rfl|exact h.elim
def Q9{n bytes:Nat}(c:n*bytes<=140737488355328)(d:n<=140737488355328):fits n bytes=true:=by
 simp[fits,c,d]
def Yw{H:ar}{e size bytes:Nat}{v:AV}{n:Nat}{cells:List AV}(h:Own H e size v n cells){x:AV}{k:Nat}{new:List AV}(q:Sl H size x k new)(g:aJ new=true)(hs:0<size)
 (w:(n+k)*bytes<=140737488355328) (o:n+k<=140737488355328) {K:Bool->AV->ar->Prop} {m:Bool}
 (hk:∀r H',Own H' e size r (n+k) (cells++new)->Fr (aW v) H H'->(∀b,aW r b->aW v b\/H.au<=b)->K aG r H'):sF m (Op.append e size bytes [v,x] H) K:=by
 have c:=Q9 w o;have hlen:new.length=k*size:=q.1;have f:=Ei hs;have l:∀n,Nat.beq n n=true:=λ n=>by simp
 simp only[Op.append,q.eY,q.first,qm,g,xm];obtain⟨hl,⟨rfl,rfl|⟨b,rfl,hb⟩⟩|⟨b,rfl,t,s⟩⟩:=h
 .simp only[wh,jt]at hl;subst hl
  by_cases d:k=0
  .subst d;simp at hlen;subst hlen;exact hk .nils H (Own.nil H e size) (Fr.refl H) λ b hb=>.inl hb
  .have i:Nat.beq k 0=false:=KE d;simp only[cV,i,zj,jy]at c⊢;simp only[c,f,jk,xm,dk,sF];refine hk _ _ ⟨by simpa using hlen,.inr ⟨H.au,by simp,by rw[xx];omega,?_⟩⟩ ((Fr.refl H).alloc _) λ b hb=>.inr (by rw[hb.2];exact qg _);rw[ar.bJ,qr rfl];simp
 .simp only[wh,jt]at hl;subst hl
  by_cases d:k=0
  .subst d;simp at hlen;subst hlen;simp only[cV,vf,y9 (qg 0),xm,l,sF];exact hk _ H ⟨by simp,.inl ⟨rfl,.inr ⟨b,rfl,hb⟩⟩⟩ (Fr.refl H) λ b hb=>.inl hb
  .have i:Nat.beq k 0=false:=KE d;have j:Nat.ble k 0=false:=by cases p:Nat.ble k 0 with|false=>rfl|true=>rw[ww]at p;omega
   have u:firstCells H size 0 (.slice b 0 0 0)=some []:=rfl;simp only[cV,jy,j,zj]at c⊢;simp only[c,y9 (xy k),f,jk,xm,u,qm,oJ,zw,dk,sF];refine hk _ _ ⟨by simpa using hlen,.inr ⟨H.au,by simp,by rw[xx];omega,?_⟩⟩ ((Fr.refl H).alloc _) λ b hb=>.inr (by rw[hb.2];exact qg _);rw[ar.bJ,qr rfl];simp
 .by_cases d:k=0
  .subst d;simp at hlen;subst hlen;simp only[cV,Nat.beq,xm,jy,y9 (qg n),sF];refine hk _ _ ⟨by simpa using hl,.inr ⟨b,rfl,t,by simpa using s⟩⟩ (Fr.refl H) λ b hb=>.inl hb
  .have i:Nat.beq k 0=false:=KE d;have j:Nat.ble (0+n+k) n=false:=by cases p:Nat.ble (0+n+k) n with|false=>rfl|true=>rw[ww]at p;omega
   simp only[cV,i,zj,l,jy,y9 (qg n),f,jk,xm]at j⊢;simp only[j,zj,c,xm,s,l,jk,Nat.beq,y9 (xy (n*size)),dk,sF];refine hk _ _ ⟨by simp[hl,hlen,yd],.inr ⟨H.au,by simp[FK],by rw[xx,FK];omega,?_⟩⟩ (((Fr.refl H).kill (.inl ⟨by simp,rfl⟩)).alloc _) λ b hb=>.inr (by rw[hb.2];exact qg _);rw[ar.bJ,FK,qr rfl,oJ]
def XA(e n:Nat)(zero:List AV)(v:AV)(f:zero.length=n)(d:v.cells.length=n):Op.buildSlice e 1 zero [(0,n)] [v]=some (.row v.cells e (0,0) true,Op.sliceTo 1 1):=by
 have c:∀n,Nat.beq n n=true:=λ n=>by simp
 simp only[Op.buildSlice,fq,oJ,ze,iP,FQ,d,c,xm,Ep,jy,f,qr (qg n),yz,zw,qm];rw[je (by omega)];simp
def Bc{H:ar}{size e:Nat}{cells:List AV}(c:cells.length=size):Sl (H.alloc (.row cells e (0,0) true)) size (Op.sliceTo 1 1 H.au) 1 cells:=by
 refine⟨by simp[c],rfl,qg 1,.inr ⟨by rw[xx];omega,cells,qy (by rw[ar.bJ,qr rfl]),?_⟩⟩;rw[u4,qr (by simp[c])];simp[<-c]
def Fw{H:ar}{e size bytes:Nat}{v:AV}{n:Nat}{cells:List AV}(h:Own H e size v n cells){zero:List AV}{x:AV}(t:zero.length=size)(l:x.cells.length=size)(d:aJ x.cells=true)(hs:0<size)
 (s:(n+1)*bytes<=140737488355328) (i:n+1<=140737488355328) {K:bH->(Nat->AV)->Bool->AV->ar->Prop} {m:Bool}
 (hk:∀f H',Own H' e size f (n+1) (cells++x.cells)->Fr (aW v) H H'->(∀b,aW f b->aW v b\/H.au<=b)->K (.row x.cells e (0,0) true) (Op.sliceTo 1 1) aG f H') :
 sF m (Op.buildSlice e 1 zero [(0,size)] [x]) λ g o mk=>sF g (Op.append e size bytes [v,mk H.au] (H.alloc o)) (K o mk):=by
 rw[XA e size zero x t l];have c:Fr Em H (H.alloc (.row x.cells e (0,0) true)):=(Fr.refl H).alloc _;refine sF.intro rfl ?_;refine Yw (m:=aG) (h.em c) (Bc l) d hs s i λ f H' p j r=>hk f H' p ?_ λ b hb=>?_
 .exact ⟨xu c.au j.au,λ b hb hw=>by rw[j.ah b (qj hb c.au) hw,c.ah b hb (λ q=>q)]⟩
 .exact (r b hb).imp id λ q=>xu c.au q
def Ki.intro{W:St->cB->Prop}{ah:Option (List Nat)}{st:St}{Q:cB}(I:Nat->St->Prop)(n:Nat)(d:I n st)
 (h:∀n st,I n st->W (kF ah st) λ e c=>match e with
  | .normal=>∃m,m<n/\I m c
  |e=>Q e c):Ki W ah st Q:=⟨I,⟨n,d⟩,h⟩
end Go.Am
namespace Go.Am
def Hf(H:ar)(tm:T AV)(t:Nat)(rs:List dX):dQ H tm (.tmp t::rs)=(tm.get t).bind λ v=>(dQ H tm rs).bind λ vs=>some (v::vs):=rfl
def xke(H:ar)(tm:T AV)(t:Nat)(rs:List dX):dQ H tm (.kA t::rs)=(((tm.get t).bind λ v=>Op.ae [v] H)).bind λ v=>(dQ H tm rs).bind λ vs=>some (v::vs):=by
 simp only[dQ,Mu];congr 1;cases tm.get t with
 |none=>rfl
 |some v=>cases v<;>rfl
def xkf(H:ar)(tm:T AV)(n t:Nat)(rs:List dX):dQ H tm (.cL n t::rs)=(((tm.get t).bind λ v=>Op.aq n [v] H)).bind λ v=>(dQ H tm rs).bind λ vs=>some (v::vs):=by
 simp only[dQ,Mu];congr 1;cases tm.get t with
 |none=>rfl
 |some v=>cases v<;>rfl
def WO(v:AV):iR [v]=v:=rfl
def Xz:iR []=.tuple []:=rfl
def WW(a b:AV)(l:List AV):iR (a::b::l)=.tuple (a::b::l):=rfl
def Qr(b:Nat):Op.ptrTo b=.ptr b 0:=rfl
def Ax(t:aP)(x y:AV)(H:ar)(q:Bool)(h:bj t x y=some q):Op.eq (.agg t) true [x,y] H=some (.bool (!q)):=by simp[Op.eq,Ho,h]
def yC(t:aP)(x y:AV)(H:ar)(q:Bool)(h:bj t x y=some q):Op.eq (.agg t) false [x,y] H=some (.bool q):=by simp[Op.eq,Ho,h]
structure iq where
 kind:Int
 time:Int
 core:Int
 block:Int
 Tr:Int
 lane:Int
 addr:Int
 value:Int
 code:Int
deriving DecidableEq
def iq.enc(x:iq):List AV:=[.int .i64 x.kind,.int .i64 x.time,.int .i64 x.core,.int .i64 x.block,.int .i64 x.Tr,.int .i64 x.lane,.int .i64 x.addr,.int .u64 x.value,.int .i64 x.code]
def iq.len(x:iq):x.enc.length=9:=rfl
def yh(a b:Int):tP a b=decide (a=b):=by rw[BU];rfl
end Go.Am
namespace Go.Am
def T.wJ{α:Type}(v c:Option α):∀(p:List Bool)(t:T α),T.fk v p (T.fk c p t)=T.fk v p t
 |[],t=>rfl
 |b::p,t=>by cases b<;>simp[T.fk,T.l,T.r,T.val,T.wJ v c p]
def Iy(H:ar)(o o':bH):(H.alloc o).set H.au o'=H.alloc o':=by
 simp only[ar.alloc,ar.set,T.set,T.put,T.wJ]
def xf(H:ar)(o:bH):(H.alloc o).get H.au=some o:=by rw[ar.bJ,qr rfl]
def bX(H:ar)(o:bH):∃Z,Z=H.alloc o/\Fr Em H Z/\Z.au=H.au+1/\Z.get H.au=some o:=⟨_,rfl,(Fr.refl H).alloc _,xx ..,xf ..⟩
def wo{H:ar}{b:Nat}(h:b<H.au)(o:bH):(H.alloc o).get b=H.get b:=by rw[ar.bJ,qo (by omega)]
def xc(H:ar)(b:Nat)(o:bH):(H.set b o).get b=some o:=by rw[ar.aI,qr rfl]
def yk{H:ar}{b c:Nat}(h:b≠c)(o:bH):(H.set b o).get c=H.get c:=by rw[ar.aI,qo h]
def t9{H:ar}{b:Nat}{c:List AV}{e:Nat}(h:H.get b=some (.row c e (0,0) true)){o n:Nat}{v:AV}(d:v.cells.length=n)(hn:o+n<=c.length)(g:aJ v.cells=true) :
 Op.store n [.ptr b o,v] H=some (.undef,H.set b (.row (c.take o++v.cells++c.drop (o+n)) e (0,0) true)):=by
 have f:∀n,Nat.beq n n=true:=λ n=>by simp
 simp only[Op.store,FQ,d,f,xm,ar.store,g,h];have:dY (0,0) o n=true:=by simp[dY]
 simp only[this,xm,Ep,d,qr hn,qm]
def q4h{H:ar}{b m s:Nat}{c:List AV}{e:Nat}(h:H.get b=some (.grown m s c e (0,0))){o n:Nat}{v:AV}(d:v.cells.length=n)(hn:o+n<=c.length)(g:aJ v.cells=true) :
 Op.store n [.ptr b o,v] H=some (.undef,H.set b (.grown m s (c.take o++v.cells++c.drop (o+n)) e (0,0))):=by
 have f:∀n,Nat.beq n n=true:=λ n=>by simp
 simp only[Op.store,FQ,d,f,xm,ar.store,g,h];have:dY (0,0) o n=true:=by simp[dY]
 simp only[this,xm,Ep,d,qr hn,qm]
def J8(H:ar)(c:List AV)(e:Nat)(fz:Nat×Nat)(ow:Bool)(o:Nat):Op.ae [.ptr H.au o] (H.alloc (.row c e fz ow))=c[o]?:=xz (qy (xf H _)) o
def og(H:ar)(c:List AV)(e:Nat)(fz:Nat×Nat)(ow:Bool)(n:Nat)(hn:c.length=n):Op.aq n [.ptr H.au 0] (H.alloc (.row c e fz ow))=some (.agg c):=by
 rw[rq (qy (xf H _)) (by omega)];simp[<-hn]
def a9{α:Type}(enc:α->List AV)(e size:Nat)(H:ar)(v:AV)(xs:List α):Prop:=Own H e size v xs.length (xs.flatMap enc)
structure yS{α:Type}(enc:α->List AV)(e size:Nat)(H0 H:ar)(v:AV)(xs:List α):Prop where
 own:a9 enc e size H v xs
 fr:Fr Em H0 H
 fresh:∀b,aW v b->H0.au<=b
section
variable{α:Type}{enc:α->List AV}{e size:Nat}{H0 H H':ar}{v:AV}{xs:List α}
def dU.one(h:dU enc size H v xs):av v=true:=Sl.one h
def yS.nil(H:ar):yS enc e size H H .nils ([]:List α):=⟨Own.nil H e size,Fr.refl H,λ b h=>(h.1 rfl).elim⟩
def yS.sl(h:yS enc e size H0 H v xs):dU enc size H v xs:=Own.sl h.own
def a9.sl(h:a9 enc e size H v xs):dU enc size H v xs:=Own.sl h
def yS.em(h:yS enc e size H0 H v xs)(f:Fr Em H H'):yS enc e size H0 H' v xs:=⟨Own.em h.own f,h.fr.em f,h.fresh⟩
def yS.len(h:yS enc e size H0 H v xs):Op.dc [v]=some (.int .i64 xs.length):=h.sl.len
def yS.step(h:yS enc e size H0 H v xs){c:AV}{ys:List α}(d:a9 enc e size H' c ys)(f:Fr (aW v) H H')(g:∀b,aW c b->aW v b\/H.au<=b):yS enc e size H0 H' c ys :=
 ⟨d,h.fr.trans f λ x i=>.inr (h.fresh x i),λ b hb=>(g b hb).elim (h.fresh b) λ q=>xu h.fr.au q⟩
def Ro{f:α->List AV}(hs:∀x,(f x).length=size):∀(xs:List α){i:Nat}{x:α},xs[i]? = some x -> ∀(y:α),(xs.set i y).flatMap f=(xs.flatMap f).take (i*size)++f y++(xs.flatMap f).drop (i*size+size)
 |[],i,x,h,y=>by simp at h
 |z::zs,0,x,h,y=>by
  simp at h;subst h;simp only[List.set_cons_zero,ju,wh,yz,zw,jy];rw[yn (by rw[hs];omega),je (by rw[hs];omega),zw]
 |z::zs,i+1,x,h,y=>by
  simp only[zq]at h;have c:(f z++zs.flatMap f).take ((i+1)*size)=f z++(zs.flatMap f).take (i*size):=by
   rw[show(i+1)*size=(f z).length+i*size from by rw[hs,wL];omega,List.take_length_add_append]
  have d:(f z++zs.flatMap f).drop ((i+1)*size+size)=(zs.flatMap f).drop (i*size+size):=by
   rw[show(i+1)*size+size=(f z).length+(i*size+size)from by rw[hs,wL];omega,Ot]
  rw[List.set_cons_succ,ju,ju,Ro hs zs h y,c,d];simp only[zm]
def GY(hs:∀x,(enc x).length=size)(l:List α):(l.flatMap enc).length=l.length*size:=by
 induction l with
 |nil=>simp
 |cons a l ih=>rw[ju,qv,hs,ih,z6,wL];omega
def xkk{L E:List AV}{c j:Nat}{u:AV}(i:E.length=size)(l:j<size)(hk:c+size<=L.length)(h:∀r,r<size->L[c+r]? = E[r]?) :
 L.take c++E.set j u++L.drop (c+size)=L.set (c+j) u:=by
 refine jz λ k=>?_;have g:(L.take c).length=c:=by rw[j6];omega
 rw[zm,List.getElem?_set];rcases xq k c with q|q
 .rw [jd (by omega),yf,qr q,qo (by omega)]
 .rw [zh (by omega),g];obtain⟨r,rfl⟩:∃r,k=c+r:=⟨k-c,by omega⟩
  rw[show c+r-c=r from by omega];rcases xq r size with f|f
  .rw [jd (by rw[xg];omega),List.getElem?_set]
   by_cases d:j=r
   .subst d;rw[qr rfl,qr rfl,qr (by omega),qr (by omega)]
   .rw [qo d,qo (by omega),h r f]
  .rw [zh (by rw[xg];omega),xg,yo,qo (by omega)];congr 1;omega
def a9.yK(hs:∀x,(enc x).length=size)(h:a9 enc e size H v xs){i:Nat}{x y:α}(c:xs[i]? = some x){j:Nat}(p:j<size){u:AV}(hu:av u=true)(q:enc y=(enc x).set j u) :
 ∃H',Op.store 1 [.ptr (aH v) (cG size v i+j),u] H=some (.undef,H')/\a9 enc e size H' v (xs.set i y)/\Fr (aW v) H H':=by
 obtain⟨hl,h|⟨b,rfl,g,l⟩⟩:=h
 .rw [jt.1 h.1]at c;simp at c
 .have m:=Eu c;have hb:(i+1)*size<=xs.length*size:=jv _ m;rw[wL]at hb;have d:u.cells=[u]:=by cases u<;>first|rfl|cases hu
  have f:=q4h l (o:=i*size+j) (n:=1) (v:=u) (by rw[d];rfl) (by omega) (by rw[d,yj];simpa using hu);have ho:cG size (AV.gslice b 0 xs.length size 0 xs.length) i=i*size:=by simp[cG]
  rw[ho];refine⟨_,f,⟨?_,.inr ⟨b,?_,g,?_⟩⟩,(Fr.refl H).set (.inl ⟨by simp,rfl⟩) _⟩
  .rw [xg,GY hs,xg]
  .rw [xg]
  .rw [xg,xc,Ro hs xs c,q,d,xkk (L:=xs.flatMap enc) (E:=enc x) (hs x) p (by omega) (λ r hr=>Hl hs xs c hr),List.set_eq_take_append_cons_drop,qr (by omega)];simp
end
abbrev OR(c:List AV)(e:Nat):bH:=.row c e (0,0) true
end Go.Am
namespace Go.Am
def wA{k c d:Nat}{z:Int}(f:z=k)(h:k<=c)(kk:IntKind):bound (some (.int kk z)) d c=some k:=by
 subst f;show cond (Nat.ble k c) (some k) none=some k;rw[y9 h];rfl
def Sl.from{H:ar}{size:Nat}{v:AV}{n:Nat}{cells:List AV}(h:Sl H size v n cells){k:Nat}(hk:k<=n){z:Int}(l:z=k)(kk:IntKind) :
 ∃p,Op.aL size [some 0,none,none] [v,.int kk z]=some p/\Sl H size p (n-k) (cells.drop (k*size))/\(p=.nils\/aH p=aH v):=by
 obtain⟨hl,h⟩:=h;have hlen:(cells.drop (k*size)).length=(n-k)*size:=by rw[kr,hl,Nat.sub_mul]
 have y:k*size<=n*size:=jv _ hk;have f:(n-k)*size=n*size-k*size:=Nat.sub_mul n k size;split at h
 .subst h;have:k=0:=by omega
  subst this;refine⟨.nils,?_,⟨hlen,rfl⟩,.inl rfl⟩;have j:bound none 0 0=some 0:=rfl;simp[Op.aL,arg,lR,eN,j,wA l (qg 0)]
 .rename_i b o m c;obtain⟨rfl,F,h⟩:=h;have g:∀d m,bound none d m=some d:=λ _ _=>rfl;refine⟨.slice b (cond (Nat.beq c k) o (o+k*size)) (m-k) (c-k),by simp[Op.aL,arg,lR,eN,g,wA l hk],⟨hlen,rfl,by omega,?_⟩,.inr rfl⟩;rcases h with h|⟨hb,all,r,t⟩
  .left;omega
  .by_cases he:c=k
   .left;omega
   .right;obtain⟨x,rfl⟩:=RQ t;refine⟨hb,all,r,?_⟩;rw[KE he,zj,u4,qr (by omega),List.drop_take,Ib];simp[f]
 .rename_i b i m s alt q;obtain⟨rfl,rfl,hm,h⟩:=h;have w:∀n,Nat.beq n n=true:=λ n=>by simp
  have g:∀d m,bound none d m=some d:=λ _ _=>rfl;have C:=y9 (show q<=m-i by omega);have u:=y9 (show i<=m by omega);refine⟨.gslice b (i+k) m s (cond (Nat.beq k 0) alt (i*s)) (q-k),by simp only[Op.aL,arg,lR,jm,qm,eN,g,wA l hk,w,u,C,jk,xm],⟨hlen,rfl,rfl,by omega,?_⟩,.inr rfl⟩;rcases h with h|⟨hb,all,r,t⟩
  .left;omega
  .right;obtain⟨x,rfl⟩:=RQ t;refine⟨hb,all,r,?_⟩;rw[u4,qr (by rw[yd];omega),List.drop_take,Ib,yd];simp[f]
 .rename_i b;obtain⟨rfl,hb⟩:=h;have:k=0:=by omega
  subst this;have j:bound none 0 0=some 0:=rfl;refine⟨.eslice b,?_,⟨hlen,rfl,hb⟩,.inr rfl⟩;simp[Op.aL,arg,lR,eN,j,wA l (qg 0)]
 .exact h.elim
section
variable{α:Type}{enc:α->List AV}{size:Nat}{H H':ar}{v:AV}{xs:List α}
def S1(hs:∀x,(enc x).length=size):∀(xs:List α)(k:Nat),(xs.flatMap enc).drop (k*size)=(xs.drop k).flatMap enc
 |[],k=>by simp
 |x::xs,0=>by simp
 |x::xs,k+1=>by
  rw[ju,show(k+1)*size=(enc x).length+k*size from by rw[hs,wL];omega,Ot,S1 hs xs k];rfl
def dU.from(hs:∀x,(enc x).length=size)(h:dU enc size H v xs){k:Nat}(hk:k<=xs.length){z:Int}(i:z=k)(kk:IntKind) :
 ∃c,Op.aL size [some 0,none,none] [v,.int kk z]=some c/\dU enc size H c (xs.drop k)/\(c=.nils\/aH c=aH v):=by
 obtain⟨c,d,f,g⟩:=Sl.from h hk i kk
 refine⟨c,d,?_,g⟩;unfold dU;rw[kr,<-S1 hs];exact f
def gB(enc:α->List AV)(e size:Nat)(H:ar)(v:AV)(xs:List α):Prop:=∃b,v=.slice b 0 xs.length xs.length/\b<H.au/\H.get b=some (.row (xs.flatMap enc) e (0,0) true)
def gB.sl{e:Nat}(hs:∀x,(enc x).length=size)(h:gB enc e size H v xs):dU enc size H v xs:=by
 obtain⟨b,rfl,c,d⟩:=h;refine⟨GY hs xs,rfl,qg _,.inr ⟨c,_,qy d,?_⟩⟩;rw[u4,qr (by rw[GY hs];omega),ym,zg (by rw[GY hs];omega)]
def gB.fr{e:Nat}{W:Nat->Prop}(h:gB enc e size H v xs)(f:Fr W H H')(hw:¬W (aH v)):gB enc e size H' v xs:=by
 obtain⟨b,rfl,c,d⟩:=h;exact⟨b,rfl,qj c f.au,by rw[f.ah b c hw];exact d⟩
def gB.lt{e:Nat}(h:gB enc e size H v xs):aH v<H.au:=by
 obtain⟨b,rfl,c,d⟩:=h;exact c
def gB.yK{e:Nat}(hs:∀x,(enc x).length=size)(h:gB enc e size H v xs){i:Nat}{x y:α}(f:xs[i]? = some x){j:Nat}(p:j<size){u:AV}(hu:av u=true)(q:enc y=(enc x).set j u) :
 ∃H',Op.store 1 [.ptr (aH v) (cG size v i+j),u] H=some (.undef,H')/\gB enc e size H' v (xs.set i y)/\Fr (On (aH v)) H H':=by
 obtain⟨b,rfl,g,l⟩:=h;have m:=Eu f;have hl:=GY hs xs;have hb:(i+1)*size<=xs.length*size:=jv _ m;rw[wL]at hb;have c:u.cells=[u]:=by cases u<;>first|rfl|cases hu
 have d:=t9 l (o:=i*size+j) (n:=1) (v:=u) (by rw[c];rfl) (by omega) (by rw[c,yj];simpa using hu);have ho:cG size (AV.slice b 0 xs.length xs.length) i=i*size:=by simp[cG]
 rw[ho];refine⟨_,d,⟨b,?_,g,?_⟩,(Fr.refl H).set (W:=On b) (.inl rfl) _⟩
 .rw [xg]
 .rw [xc,Ro hs xs f,q,c,xkk (L:=xs.flatMap enc) (E:=enc x) (hs x) p (by omega) (λ r hr=>Hl hs xs f hr),List.set_eq_take_append_cons_drop,qr (by omega)];simp
end
def OH(e bytes:Nat)(z:List AV)(n:Nat)(k k':IntKind)(h:n*bytes<=140737488355328)(i:n<=140737488355328) :
 Op.mkSlice e bytes z [.int k n,.int k' n]=some (.row (fq n z) e (0,0) true,Op.sliceTo n n):=by
 have c:rI 0 (n:Int)=true:=by rw[GZ];simp
 have d:rI (n:Int) n=true:=by rw[GZ];simp
 have f:rI ((n:Int)*(bytes:Int)) 140737488355328=true:=by rw[GZ];simp;omega
 have g:rI (n:Int) 140737488355328=true:=by rw[GZ];simp;omega
 simp[Op.mkSlice,c,d,f,g]
end Go.Am
namespace Go.Am
def xdq{tm:T AV}{x:bI}{K K':AV->Prop}(h:Ec tm x K)(hk:∀v,K v->K' v):Ec tm x K':=by
 obtain⟨v,d,f⟩:=h.elim;cases x with
 |tmp t=>simp only[qU]at d;simp only[Ec,bM,d];exact hk v f
 |const c=>injection d with d;subst d;exact hk _ f
 |d8 c=>injection d with d;subst d;exact hk _ f
 |func c=>injection d with d;subst d;exact hk _ f
def HW{tm:T AV}:∀{l:List bI}{K K':List AV->Prop},pK tm l K->(∀v,K v->K' v)->pK tm l K'
 |[],K,K',h,hk=>hk _ h
 | .tmp t::xs,K,K',h,hk=>by
  simp only[pK]at h⊢;unfold bM at h⊢;split at h
  .exact HW h λ vs=>hk _
  .exact h.elim
 | .const v::xs,K,K',h,hk=>HW (l:=xs) h λ vs=>hk _
 | .d8 v::xs,K,K',h,hk=>HW (l:=xs) h λ vs=>hk _
 | .func v::xs,K,K',h,hk=>HW (l:=xs) h λ vs=>hk _
def Eg{α:Type}{m:Bool}{o:Option α}{K K':α->Prop}(h:bM m o K)(hk:∀a,K a->K' a):bM m o K':=by
 cases o with
 |none=>exact h
 |some a=>exact hk a h
def q5p{α β:Type}{m:Bool}{o:Option (α×β)}{K K':α -> β->Prop}(h:iE m o K)(hk:∀a b,K a b->K' a b):iE m o K':=by
 cases o with
 |none=>exact h
 |some a=>exact hk a.1 a.2 h
section
variable{AP:ak}
def Q2{m:Bool}{f:lJ}{vs:List AV}{H:ar}{K K':AV->ar->Prop}{E d:aE->ar->Prop}(h:mX AP m f vs H K E)(hk:∀v H,K v H->K' v H)(he:∀c H,E c H->d c H):mX AP m f vs H K' d:=by
 obtain⟨e,H',i,g⟩:=h;refine⟨e,H',i,?_⟩;cases e with
 |ret v=>exact hk _ _ g
 |panic c=>exact he _ _ g
def Oa{d:Option (List Nat)}{tm:T AV}{aX:List aM}{up:Option aE}{Q Q':cB}(f:∀e st,Q e st->Q' e st)(c:aE)(H:ar)(h:yO d tm aX up Q c H):yO d tm aX up Q' c H:=by
 cases d with
 |none=>exact h
 |some ds=>exact f _ _ h
def xn{ctx:Ctx}{dst:Option Nat}{g:Option (List Nat)}{st:St}{Q Q':cB}{K K':St->Prop}{vs:List AV}{op:ft}(h:nZ AP ctx dst g st Q K vs op)(d:∀e st,Q e st->Q' e st)(hk:∀st,K st->K' st):nZ AP ctx dst g st Q' K' vs op:=by
 cases op with
 |pure f=>exact Eg (m:=aG) h λ _=>hk _
 |read f=>exact Eg (m:=aG) h λ _=>hk _
 |alloc f=>simp only[nZ]at h⊢;exact q5p h λ _ _=>hk _
 |gJ f=>simp only[nZ]at h⊢;exact q5p h λ _ _=>hk _
 |gY f=>exact Q2 (m:=aG) h (λ _ _=>hk _) (Oa d)
 |gS =>
  simp only[nZ,Lp]at h⊢;split at h
  .exact Q2 h (λ _ _=>hk _) (Oa d)
  .exact Q2 h (λ _ _=>hk _) (Oa d)
  .exact h.elim
 |invoke n =>
  simp only[nZ,LA]at h⊢;split at h
  .exact Eg h λ _ q=>Q2 q (λ _ _=>hk _) (Oa d)
  .exact h.elim
 |recover =>
  simp only[nZ,vO]at h⊢;split at h
  .refine ⟨h.1,?_⟩;have c:=h.2;split at c<;>exact hk _ c
  .exact h.elim
 |defer =>
  simp only[nZ,Fj]at h⊢;refine⟨h.1,?_⟩;have c:=h.2;split at c
  .exact hk _ c
  .exact c.elim
 |panic =>
  simp only[nZ,fZ]at h⊢;split at h
  .exact Oa d _ _ h
  .exact h.elim
def q9a{ctx:Ctx}{s:aN}{st:St}{Q Q':cB}{K K':St->Prop}(h:qQ AP ctx s st Q K)(c:∀e st,Q e st->Q' e st)(hk:∀st,K st->K' st):qQ AP ctx s st Q' K':=by
 obtain⟨gW,dst,guard,args,op,d⟩:=s;cases gW with
 |false =>
  cases guard with
  |none=>exact HW h λ _ q=>xn q c hk
  |some g =>
   refine Eg (m:=aG) h λ w q=>?_;cases w with
   |true=>exact HW (K:=_) q λ _ q=>xn q c hk
   |false=>exact hk _ q
 |true =>
  cases guard with
  |none=>exact HW h λ _ q=>⟨q.1,hk _ q.2⟩
  |some g =>
   refine Eg (m:=aG) h λ w q=>?_;cases w with
   |true=>exact HW (K:=_) q λ _ q=>⟨q.1,hk _ q.2⟩
   |false=>exact⟨q.1,hk _ q.2⟩
def ZF{ctx:Ctx}:∀{l:List aN}{st:St}{Q Q':cB},nJ AP ctx l st Q->(∀e st,Q e st->Q' e st)->nJ AP ctx l st Q'
 |[],st,Q,Q',h,hq=>hq _ _ h
 |s::rest,st,Q,Q',h,hq=>q9a h hq λ d c=>ZF c hq
def MV{ctx:Ctx}{st:St}{k:Nat}{H0:ar}{aX:List aM}{d:Nat}{Q Q':cB}{v:AV}(h:lX AP ctx st k H0 aX d Q v)(i:∀e st,Q e st->Q' e st):lX AP ctx st k H0 aX d Q' v:=by
 unfold lX at h⊢;split at h
 .obtain ⟨e,H',j,g⟩:=h;refine⟨e,H',j,?_⟩;cases e with
  |panic c=>exact i _ _ g
  |ret v=>obtain⟨s,p,f,k,tm,d,l,m,o⟩:=g;exact⟨s,p,f,k,tm,d,l,m,i _ _ o⟩
 .exact h.elim
def pF{ctx:Ctx}:∀{c:ai}{st:St}{Q Q':cB},WP AP ctx c st Q->(∀e st,Q e st->Q' e st)->WP AP ctx c st Q'
 | .skip,st,Q,Q',h,hq=>hq _ _ h
 | .label _,st,Q,Q',h,hq=>hq _ _ h
 | .exit _,st,Q,Q',h,hq=>hq _ _ h
 | .goto _,st,Q,Q',h,hq=>hq _ _ h
 | .ret,st,Q,Q',h,hq=>hq _ _ h
 | .stuck,st,Q,Q',h,hq=>h.elim
 | .region l,st,Q,Q',h,hq=>ZF h hq
 | .seq a b,st,Q,Q',h,hq=>pF (c:=a) h λ e i g=>by
  cases e with
  |normal=>exact pF (c:=b) g hq
  |exit _=>exact hq _ _ g
  |goto _=>exact hq _ _ g
  |ret=>exact hq _ _ g
  |panic _=>exact hq _ _ g
 | .cond c a b,st,Q,Q',h,hq=>xdq h λ v q=>Eg (m:=aG) q λ w q=>by
  cases w with
  |true=>exact pF (c:=a) q hq
  |false=>exact pF (c:=b) q hq
 | .block id b,st,Q,Q',h,hq=>pF (c:=b) h λ e i g=>by cases e<;>exact hq _ _ g
 | .scope b,st,Q,Q',h,hq=>pF (c:=b) h λ e i g=>by
  cases e with
  |goto l=>exact⟨g.1,hq _ _ g.2⟩
  |normal=>exact hq _ _ g
  |exit _=>exact hq _ _ g
  |ret=>exact hq _ _ g
  |panic _=>exact hq _ _ g
 | .loop ah b,st,Q,Q',⟨I,h0,h⟩,hq=>⟨I,h0,λ n st j=>pF (c:=b) (h n st j) λ e i g=>by cases e<;>first|exact g|exact hq _ _ g⟩
 | .rangeFunc f k,st,Q,Q',h,hq=>xdq h λ v q=>by
  unfold IF at q⊢;split at q
  .exact MV q hq
  .exact Eg (m:=aG) q λ d q=>MV q hq
def gn:aU->Prop
 | .exit _=>True
 | .goto _=>True
 | .ret=>True
 |_=>False
end
end Go.Am
namespace Go.Am
noncomputable section
abbrev aF:=aU->Env->List aM->ar->Prop
def lk(E:Env)(t:Nat):Option AV:=List.rec (motive:=λ _=>Option AV) none (λ p _ ih=>cond (Nat.beq p.1 t) (some p.2) ih) E
def Cj(t:Nat):lk [] t=none:=rfl
def u5(k t:Nat)(v:AV)(E:Env):lk ((k,v)::E) t=if k=t then some v else lk E t:=by
 show cond (Nat.beq k t) (some v) (lk E t)=_;cases hb:Nat.beq k t with
 |true=>rw[qr (wg hb)];rfl
 |false=>rw[qo (PW hb)];rfl
def bC(t:Nat)(l:List Nat):Bool:=List.rec (motive:=λ _=>Bool) false (λ x _ ih=>cond (Nat.beq x t) true ih) l
def fQ(ks:List Nat)(E:Env)(tm:T AV):Prop:=∀t v,lk E t=some v->tm.get t=some v/\bC t ks=true
def uT:Env->Env->Prop
 |[],_=>True
 |(k,v)::r,E=>lk E k=some v/\uT r E
def GJ(E:Env):uT [] E=True:=rfl
def Aw(k:Nat)(v:AV)(r E:Env):uT ((k,v)::r) E=(lk E k=some v/\uT r E):=rfl
def uT.look:∀{A E:Env},uT A E -> ∀{t:Nat}{v:AV},lk A t=some v->lk E t=some v
 |[],E,_,t,v,h=>by cases h
 |(k,w)::r,E,h,t,v,hl=>by
  rw[u5]at hl;split at hl
  .rename_i e;subst e;injection hl with hl;subst hl;exact h.1
  .exact uT.look h.2 hl
def uT.sub{ks:List Nat}{A E:Env}(h:uT A E){tm:T AV}(he:fQ ks E tm):fQ ks A tm:=λ t v hl=>he t v (h.look hl)
def SS(A E:Env):Prop:=∀t v,lk A t=some v->lk E t=some v
def uT.ss{A E:Env}(h:uT A E):SS A E:=λ t v hl=>h.look hl
def SS.sub{ks:List Nat}{A E:Env}(h:SS A E){tm:T AV}(he:fQ ks E tm):fQ ks A tm:=λ t v hl=>he t v (h t v hl)
def B3{α:Type}(m:Bool)(o:Option α)(K:Bool -> α->Prop):Prop:=match o with
 |some a=>K m a
 |none=>False
def iS{α β:Type}(m:Bool)(o:Option (α×β))(K:Bool -> α -> β->Prop):Prop:=match o with
 |some a=>K m a.1 a.2
 |none=>False
def mH(m:Bool)(v:AV)(A B:Bool->Prop):Prop:=match v with
 | .bool q=>match q with
  |true=>A m
  |false=>B m
 |_=>False
def uF(m:Bool)(q:Bool)(A B:Bool->Prop):Prop:=match q with
 |true=>A m
 |false=>B m
def LF(m:Bool)(o o':Option AV)(K:Bool->Prop):Prop:=(∃v,o=some v/\o'=some v)/\K m
def A3(m:Bool)(e:Nat)(z:List AV)(H:ar)(K:Bool->AV->ar->Prop):Prop:=K m (.ptr H.au 0) (H.alloc (.row z e (0,0) true))
def JN{α:Type}(F:α->Prop)(K:α):Prop:=F K
def pT(m:Bool)(Q:aF)(e:aU)(E:Env)(D:List aM)(H:ar):Prop:=Q e E D H
def G4{α:Type}(a:α)(K:Bool -> α->Prop):B3 true (some a) K=K true a:=propext jx
def Ce{α β:Type}(a:α)(b:β)(K:Bool -> α -> β->Prop):iS true (some (a,b)) K=K true a b:=propext jx
def Ar(A B:Bool->Prop):mH true (.bool true) A B=A true:=propext jx
def xhk(A B:Bool->Prop):mH true (.bool false) A B=B true:=propext jx
def AB(A B:Bool->Prop):uF true true A B=A true:=propext jx
def xhl(A B:Bool->Prop):uF true false A B=B true:=propext jx
def Ah(v:AV)(K:Bool->Prop):LF true (some v) (some v) K=K true:=propext ⟨λ h=>h.2,λ h=>⟨⟨v,rfl,rfl⟩,h⟩⟩
def Oq(e:Nat)(z:List AV)(H:ar)(K:Bool->AV->ar->Prop):A3 true e z H K=K true (.ptr H.au 0) (H.alloc (.row z e (0,0) true)):=propext jx
def Io{α:Type}(F:α->Prop)(K:α):JN F K=F K:=propext jx
def AX(Q:aF)(e:aU)(E:Env)(D:List aM)(H:ar):pT true Q e E D H=Q e E D H:=propext jx
@[congr]def Oh{α:Type}{F:α->Prop}{K:α}:JN F K=JN F K:=rfl
@[congr]def O6{α:Type}{m c:Bool}{o o':Option α}{K:Bool -> α->Prop}(hm:m=c)(h:o=o'):B3 m o K=B3 c o' K:=by subst hm;subst h;rfl
@[congr]def LZ{α β:Type}{m c:Bool}{o o':Option (α×β)}{K:Bool -> α -> β->Prop}(hm:m=c)(h:o=o'):iS m o K=iS c o' K:=by subst hm;subst h;rfl
@[congr]def LL{m c:Bool}{v d:AV}{A B:Bool->Prop}(hm:m=c)(h:v=d):mH m v A B=mH c d A B:=by subst hm;subst h;rfl
@[congr]def LQ{m c:Bool}{v d:Bool}{A B:Bool->Prop}(hm:m=c)(h:v=d):uF m v A B=uF c d A B:=by subst hm;subst h;rfl
@[congr]def LI{m c:Bool}{o o' p p':Option AV}{K:Bool->Prop}(hm:m=c)(h:o=o')(d:p=p'):LF m o p K=LF c o' p' K:=by subst hm;subst h;subst d;rfl
@[congr]def P4{m c:Bool}{e:Nat}{z d:List AV}{H H':ar}{K:Bool->AV->ar->Prop}(hm:m=c)(h:z=d)(f:H=H'):A3 m e z H K=A3 c e d H' K:=by subst hm;subst h;subst f;rfl
def B3.elim{α:Type}{m:Bool}{o:Option α}{K:Bool -> α->Prop}(h:B3 m o K):∃a,o=some a/\K m a:=by
 cases o with
 |none=>exact False.elim h
 |some a=>exact⟨a,rfl,h⟩
def iS.elim{α β:Type}{m:Bool}{o:Option (α×β)}{K:Bool -> α -> β->Prop}(h:iS m o K):∃a b,o=some (a,b)/\K m a b:=by
 cases o with
 |none=>exact False.elim h
 |some a=>exact⟨a.1,a.2,rfl,h⟩
def LK.elim{α:Type}{m:Bool}{o:Option α}{K:Bool -> α->Prop}(h:LK m o K):∃a,o=some a/\K m a:=by
 cases o with
 |none=>exact False.elim h
 |some a=>exact⟨a,rfl,h⟩
def B3.intro{α:Type}{m:Bool}{o:Option α}{K:Bool -> α->Prop}{a:α}(h:o=some a)(hk:K m a):B3 m o K:=by subst h;exact hk
def iS.intro{α β:Type}{m:Bool}{o:Option (α×β)}{K:Bool -> α -> β->Prop}{a:α}{b:β}(h:o=some (a,b))(hk:K m a b):iS m o K:=by subst h;exact hk
def mH.cases{m:Bool}{q:Bool}{A B:Bool->Prop}(c:q=true->A m)(d:q=false->B m):mH m (.bool q) A B:=by
 cases q with
 |true=>exact c rfl
 |false=>exact d rfl
def uF.cases{m:Bool}{q:Bool}{A B:Bool->Prop}(c:q=true->A m)(d:q=false->B m):uF m q A B:=by
 cases q with
 |true=>exact c rfl
 |false=>exact d rfl
def mH.elim{m:Bool}{v:AV}{A B:Bool->Prop}(h:mH m v A B):∃q,v=.bool q/\(match q with|true=>A m|false=>B m):=by
 unfold mH at h;split at h
 .exact ⟨_,rfl,h⟩
 .exact h.elim
section
variable(M:ak)
structure Kp where
 ah:List Nat
 cR:Bool
 named:List Nat
def du(K:List Nat)(E L:Env):Env:=List.rec (motive:=λ _=>Env) E (λ p _ ih=>cond (bC p.1 K) (p::ih) ih) L
def rO(ds:List Nat)(E:Env):Env:=List.rec (motive:=λ _=>Env) [] (λ p _ ih=>cond (bC p.1 ds) ih (p::ih)) E
def kQ(L:Env):List Nat:=List.rec (motive:=λ _=>List Nat) [] (λ p _ ih=>p.1::ih) L
abbrev KR:=Bool->Env->Env->ar->Prop
def TV(E L R:Env)(t:Nat)(g:Bool)(K:Bool->Env->AV->Prop):Prop :=
 Option.rec (motive:=λ _=>Prop) (Option.rec (motive:=λ _=>Prop) (LK g (lk E t) λ g v=>K g ((t,v)::R) v) (λ v=>K g R v) (lk R t)) (λ v=>K g R v) (lk L t)
def vP(E L:Env)(l:List bI):Bool->Env->(Bool->Env->List AV->Prop)->Prop:=List.rec (motive:=λ _=>Bool->Env->(Bool->Env->List AV->Prop)->Prop) (λ g R K=>K g R [])
 (λ x _ ih g R K=>bI.casesOn x (λ t=>TV E L R t g λ g R v=>ih g R λ g R vs=>K g R (v::vs)) (λ v=>ih g R λ g R vs=>K g R (v::vs)) (λ b=>ih g R λ g R vs=>K g R (.ptr b 0::vs)) (λ f=>ih g R λ g R vs=>K g R (.fn (.func f) [] []::vs))) l
def C3(m:Bool)(f:lJ)(vs:List AV)(H:ar)(K:Bool->AV->ar->Prop):Prop:=∃v H',tf M f vs H (.ret v) H'/\K m v H'
def P3(m:Bool)(X:aE->ar->Prop)(f:lJ)(vs:List AV)(H:ar)(K:Bool->AV->ar->Prop):Prop:=∃e H',tf M f vs H e H'/\match e with
 | .ret v=>K m v H'
 | .panic c=>X c H'
@[congr]def PE{M:ak}{m d:Bool}{f f':lJ}{vs c:List AV}{H H':ar}{K:Bool->AV->ar->Prop}(hm:m=d)(i:f=f')(h:vs=c)(g:H=H'):C3 M m f vs H K=C3 M d f' c H' K:=by subst hm;subst h;subst i;subst g;rfl
@[congr]def ND{M:ak}{m d:Bool}{X:aE->ar->Prop}{f f':lJ}{vs c:List AV}{H H':ar}{K:Bool->AV->ar->Prop}(hm:m=d)(i:f=f')(h:vs=c)(g:H=H'):P3 M m X f vs H K=P3 M d X f' c H' K:=by subst hm;subst h;subst i;subst g;rfl
def V3(m:Bool)(vs:List AV)(K:Bool->lJ->List AV->Prop):Prop:=match vs with
 | .fn (.func g) first cap::args=>K m (.func g) (first++(args++cap))
 | .fn (.yield l) first []::args=>K m (.yield l) (first++args)
 |_=>False
@[congr]def Qi{m d:Bool}{vs c:List AV}{K:Bool->lJ->List AV->Prop}(hm:m=d)(h:vs=c):V3 m vs K=V3 d c K:=by subst hm;subst h;rfl
def FF(g:Nat)(first cap args:List AV)(K:Bool->lJ->List AV->Prop):V3 true (.fn (.func g) first cap::args) K=K true (.func g) (first++(args++cap)):=propext jx
def Bg(l:Nat)(first args:List AV)(K:Bool->lJ->List AV->Prop):V3 true (.fn (.yield l) first []::args) K=K true (.yield l) (first++args):=propext jx
def N3(m:Bool)(name:String)(vs:List AV)(K:Bool->lJ->List AV->Prop):Prop:=match vs with
 | .iface t v::args=>B3 m (M.jN t name) λ m g=>K m (.func g) (v::args)
 |_=>False
@[congr]def PB{M:ak}{m d:Bool}{name:String}{vs c:List AV}{K:Bool->lJ->List AV->Prop}(hm:m=d)(h:vs=c):N3 M m name vs K=N3 M d name c K:=by subst hm;subst h;rfl
def Bw(name:String)(t:Nat)(v:AV)(args:List AV)(K:Bool->lJ->List AV->Prop):N3 M true name (.iface t v::args) K=B3 true (M.jN t name) λ m g=>K m (.func g) (v::args):=propext jx
def PX(ps:Option (List Nat))(ks:List Nat)(Q:aF)(E:Env)(D:List aM)(c:aE)(H:ar):Prop:=match ps with
 |some ds=>Q (.panic c) (rO ds (rO ks E)) D H
 |none=>False
def DJ(cR:Bool)(ps:Option (List Nat))(L:Env)(Q:aF)(E:Env)(D:List aM)(g:Bool)(f:lJ)(vs:List AV)(H:ar)(K:Bool->AV->ar->Prop):Prop :=
 cond cR (P3 M g (PX ps (kQ L) Q E D) f vs H K) (C3 M g f vs H K)
def ud(cR:Bool)(dst:Option Nat)(ps:Option (List Nat))(Q:aF)(E:Env)(D:List aM)(L R:Env)(H:ar)(K:KR)(g:Bool)(vs:List AV):ft->Prop
 | .pure f=>B3 g (f vs) λ g v=>K g (kT dst v L) R H
 | .read f=>B3 g (f vs H) λ g v=>K g (kT dst v L) R H
 | .alloc f=>iS g (f vs) λ g o mk=>K g (kT dst (mk H.au) L) R (H.alloc o)
 | .gJ f=>iS g (f vs H) λ g v H=>K g (kT dst v L) R H
 | .gY f=>DJ M cR ps L Q E D g (.func f) vs H (λ g v H=>K g (kT dst v L) R H)
 | .gS=>V3 g vs λ g f vs=>DJ M cR ps L Q E D g f vs H (λ g v H=>K g (kT dst v L) R H)
 | .invoke name=>N3 M g name vs λ g f vs=>DJ M cR ps L Q E D g f vs H (λ g v H=>K g (kT dst v L) R H)
 | .panic=>cond cR (fZ vs H (PX ps (kQ L) Q E D)) False
 |_=>False
def Wc(L E:Env)(d:Nat):Option AV:=Option.rec (motive:=λ _=>Option AV) (lk E d) (λ v=>some v) (lk L d)
def Rh(dst:Option Nat)(E L R:Env)(H:ar)(K:KR)(g:Bool)(vs:List AV):ft->Prop
 | .read f=>match dst with
  |some d=>LF g (f vs H) (Wc L E d) λ g=>K g L R H
  |none=>False
 |_=>False
def Et(cR:Bool)(s:aN)(Q:aF)(E:Env)(D:List aM)(K:KR):KR:=λ g L R H =>
 vP E L s.args g R λ g R vs=>match s.gW with
  |false=>ud M cR s.dst s.ct Q E D L R H K g vs s.op
  |true=>Rh s.dst E L R H K g vs s.op
def pB(cR:Bool)(Q:aF)(E:Env)(D:List aM)(K:KR)(l:List aN):KR:=List.rec (motive:=λ _=>KR) K (λ s _ ih=>Et M cR s Q E D ih) l
abbrev Ed:=Option (Nat×Bool)×List aN
def rG:Option (Nat×Bool)->Option (Nat×Bool)->Bool
 |none,none=>true
 |some (t,b),some (u,c)=>cond (Nat.beq t u) (cond b c (!c)) false
 |_,_=>false
def Hn(l:List aN):List Ed:=List.rec (motive:=λ _=>List Ed) [] (λ s _ ih=>List.casesOn (motive:=λ _=>List Ed) ih [(s.guard,[s])] λ g r=>cond (rG g.1 s.guard) ((g.1,s::g.2)::r) ((s.guard,[s])::g::r)) l
def K3(o:Option Nat)(t:Nat):Bool:=Option.rec (motive:=λ _=>Bool) false (λ d=>Nat.beq d t) o
def ue(t:Nat)(l:List aN):Bool:=List.rec (motive:=λ _=>Bool) true (λ s _ ih=>cond (K3 s.dst t) false (cond s.gW (cond s.dst.isSome ih false) ih)) l
def CT(n:Nat):Type:=Nat.rec (motive:=λ _=>Type) (ar->Prop) (λ _ T=>AV->T) n
def pY(n:Nat):(List AV->ar->Prop)->CT n:=Nat.rec (motive:=λ n=>(List AV->ar->Prop)->CT n) (λ f=>f []) (λ _ ih f v=>ih λ l=>f (v::l)) n
def py(n:Nat):CT n->List AV->ar->Prop:=Nat.rec (motive:=λ n=>CT n->List AV->ar->Prop) (λ k _=>k) (λ _ ih k l=>List.casesOn (motive:=λ _=>ar->Prop) l (λ _=>False) λ v l=>ih (k v) l) n
def bn(l:List aN):List Nat->List Nat:=List.rec (motive:=λ _=>List Nat->List Nat) (λ acc=>acc) (λ s _ ih acc=>ih (cond s.gW acc (Option.rec (motive:=λ _=>List Nat) acc (λ d=>d::acc) s.dst))) l
def kK(ks:List Nat)(L:Env):List AV->Env:=List.rec (motive:=λ _=>List AV->Env) (λ _=>L) (λ k _ ih l=>List.casesOn (motive:=λ _=>Env) l L λ v l=>(k,v)::ih l) ks
def qH(n:Nat):Env->List AV:=Nat.rec (motive:=λ _=>Env->List AV) (λ _=>[]) (λ _ ih L=>List.casesOn (motive:=λ _=>List AV) L [] λ p L=>p.2::ih L) n
def rz(n:Nat):List AV:=Nat.rec (motive:=λ _=>List AV) [] (λ _ ih=>.undef::ih) n
def Nm(cR:Bool)(Q:aF)(E:Env)(D:List aM)(x:Ed)(K:KR):KR:=λ g L R H=>match x.1 with
 |none=>pB M cR Q E D K x.2 g L R H
 |some q=>cond (ue q.1 x.2) (TV E L R q.1 g λ g R v=>JN (α:=Bool->CT (cQ (bn x.2 [])))
  (λ k=>B3 g (cN q.2 (some v)) λ g w=>uF g w (λ g=>pB M cR Q E D (λ g L _ H=>py (cQ (bn x.2 [])) (k g) (qH (cQ (bn x.2 [])) L) H) x.2 g L R H) (λ g=>py (cQ (bn x.2 [])) (k g) (rz (cQ (bn x.2 []))) H))
  (λ g=>pY (cQ (bn x.2 [])) λ vs H=>K g (kK (bn x.2 []) L vs) R H)) False
def vQ(cR:Bool)(Q:aF)(E:Env)(D:List aM)(K:KR)(l:List Ed):KR:=List.rec (motive:=λ _=>KR) K (λ x _ ih=>Nm M cR Q E D x ih) l
def qS(cR:Bool)(Q:aF)(E:Env)(D:List aM)(l:List aN)(g:Bool)(H:ar)(K:KR):Prop:=vQ M cR Q E D K (Hn l) g [] [] H
abbrev WX:=Bool->aF->Env->List aM->ar->Prop
def eP(X:WX)(Q:aF):aF:=λ e E D H=>match e with
 | .normal=>X true Q E D H
 |e=>Q e E D H
def eM(id:Nat)(Q:aF):aF:=λ e E D H=>match e with
 | .exit id'=>Q (cond (Nat.beq id id') .normal (.exit id')) E D H
 |e=>Q e E D H
def jR(b:ai)(Q:aF):aF:=λ e E D H=>match e with
 | .goto l=>D5 b l=false/\Q (.goto l) E D H
 |e=>Q e E D H
abbrev KV:=Nat->Env->List aM->ar->Prop
def LP3(I:KV)(n:Nat)(Q:aF):aF:=λ e E D H=>match e with
 | .normal=>∃m E',I m E' D H/\SS E' E/\m<n
 |e=>Q e E D H
def de(X:WX)(Q:aF)(E:Env)(D:List aM)(H:ar):Prop :=
 ∃I:KV,(∃n E0,I n E0 D H/\SS E0 E) /\ ∀n E D H,I n E D H->X true (LP3 I n Q) E D H
def jB(ks:List Nat)(ctx:Ctx)(k:Nat)(E:Env)(D:List aM)(H:ar)(Q:aF)(v:AV):Prop :=
 ∀tm up,fQ ks E tm->IF M ctx k ⟨tm,D,up,H⟩ (λ e st=>st.up=up/\st.tm=tm/\Q e E st.aX st.H) v
def OV(E:Env)(x:bI)(g:Bool)(K:Bool->AV->Prop):Prop:=match x with
 | .tmp t=>LK g (lk E t) K
 | .const v=>K g v
 | .d8 b=>K g (.ptr b 0)
 | .func f=>K g (.fn (.func f) [] [])
def CV(E L R:Env)(x:bI)(g:Bool)(K:Bool->AV->Prop):Prop:=match x with
 | .tmp t=>TV E L R t g λ g _ v=>K g v
 | .const v=>K g v
 | .d8 b=>K g (.ptr b 0)
 | .func f=>K g (.fn (.func f) [] [])
def W3(ctx:Ctx)(K:Kp):ai->Bool->aF->Env->List aM->ar->Prop
 | .skip,g,Q,E,D,H=>pT g Q .normal E D H
 | .label _,g,Q,E,D,H=>pT g Q .normal E D H
 | .exit id,g,Q,E,D,H=>pT g Q (.exit id) E D H
 | .goto l,g,Q,E,D,H=>pT g Q (.goto l) E D H
 | .ret,g,Q,E,D,H=>pT g Q .ret E D H
 | .stuck,_,_,_,_,_=>False
 | .region l,g,Q,E,D,H=>qS M K.cR Q E D l g H λ g L _ H=>pT g Q .normal (du K.ah E L) D H
 | .seq a b,g,Q,E,D,H=>match a,b with
  | .region l,.cond c x y=>qS M K.cR Q E D l g H λ g L R H=>CV E L R c g λ g v=>mH g v (λ g=>W3 ctx K x g Q (du K.ah E L) D H) (λ g=>W3 ctx K y g Q (du K.ah E L) D H)
  | .region l,.seq (.cond c x y) r=>qS M K.cR Q E D l g H λ g L R H=>CV E L R c g λ g v=>mH g v (λ g=>W3 ctx K x g (eP (W3 ctx K r) Q) (du K.ah E L) D H) (λ g=>W3 ctx K y g (eP (W3 ctx K r) Q) (du K.ah E L) D H)
  | .region l,b=>qS M K.cR Q E D l g H λ g L _ H=>W3 ctx K b g Q (du K.ah E L) D H
  |a,b=>W3 ctx K a g (eP (W3 ctx K b) Q) E D H
 | .cond c x y,g,Q,E,D,H=>OV E c g λ g v=>mH g v (λ g=>W3 ctx K x g Q E D H) (λ g=>W3 ctx K y g Q E D H)
 | .block id b,g,Q,E,D,H=>W3 ctx K b g (eM id Q) E D H
 | .scope b,g,Q,E,D,H=>W3 ctx K b g (jR b Q) E D H
 | .loop (some _) _,_,_,_,_,_=>False
 | .loop none b,g,Q,E,D,H=>de (W3 ctx K b) Q E D H
 | .rangeFunc f k,g,Q,E,D,H=>OV E f g λ g v=>jB M K.ah ctx k E D H Q v
end
structure lC(E L R:Env)(tm:T AV):Prop where
 l:∀t v,lk L t=some v->tm.get t=some v
 r:∀t v,lk L t=none->lk R t=some v->tm.get t=some v
 e:∀t v,lk L t=none->lk E t=some v->tm.get t=some v
def lC.first{ks:List Nat}{E:Env}{tm:T AV}(h:fQ ks E tm):lC E [] [] tm:=⟨λ _ _ h=>(by cases h),λ _ _ _ h=>(by cases h),λ t v _ c=>(h t v c).1⟩
def lC.put{E L R:Env}{tm:T AV}(h:lC E L R tm)(dst:Option Nat)(v:AV):lC E (kT dst v L) R (ey dst v tm):=by
 cases dst with
 |none=>exact h
 |some d =>
  show lC E ((d,v)::L) R (tm.set d v);refine⟨λ t w hw=>?_,λ t w hn hw=>?_,λ t w hn hw=>?_⟩
  .rw [u5]at hw;rw[T.aI];split at hw
   .rename_i e;rw[qr e];exact hw
   .rename_i e;rw[qo e];exact h.l t w hw
  .rw [u5]at hn;rw[T.aI];split at hn
   .cases hn
   .rename_i e;rw[qo e];exact h.r t w hn hw
  .rw [u5]at hn;rw[T.aI];split at hn
   .cases hn
   .rename_i e;rw[qo e];exact h.e t w hn hw
def TV.elim{E L R:Env}{t:Nat}{g:Bool}{K:Bool->Env->AV->Prop}{tm:T AV}(hr:lC E L R tm)(h:TV E L R t g K):∃v d,tm.get t=some v/\lC E L d tm/\K g d v:=by
 unfold TV at h;cases hl:lk L t with
 |some v=>rw[hl]at h;exact⟨v,R,hr.l t v hl,hr,h⟩
 |none =>
  rw[hl]at h;cases c:lk R t with
  |some v=>rw[c]at h;exact⟨v,R,hr.r t v hl c,hr,h⟩
  |none =>
   rw[c]at h;obtain⟨v,f,h⟩:=LK.elim h;refine⟨v,_,hr.e t v hl f,⟨hr.l,λ u w hn hw=>?_,hr.e⟩,h⟩;rw[u5]at hw;split at hw
   .rename_i e;subst e;injection hw with hw;subst hw;exact hr.e t v hl f
   .exact hr.r u w hn hw
def Mb{tm:T AV}:∀{l:List bI}{vs:List AV}{K:List AV->Prop},lK tm l=some vs->K vs->pK tm l K
 |[],vs,K,h,hk=>by injection h with h;subst h;exact hk
 |x::xs,vs,K,h,hk=>by
  simp only[lK,qd]at h;obtain⟨v,d,ws,f,g⟩:=h;injection g with g;subst g
  cases x with
  |tmp t=>exact bM.intro (m:=aG) d (Mb f hk)
  |const c=>injection d with d;subst d;exact Mb (K:=λ vs=>K (c::vs)) f hk
  |d8 c=>injection d with d;subst d;exact Mb (K:=λ vs=>K (_::vs)) f hk
  |func c=>injection d with d;subst d;exact Mb (K:=λ vs=>K (_::vs)) f hk
def vP.elim{E L:Env}{tm:T AV}{g:Bool}:∀{l:List bI}{R:Env}{K:Bool->Env->List AV->Prop},lC E L R tm->vP E L l g R K -> ∃vs j,lK tm l=some vs/\lC E L j tm/\K g j vs
 |[],R,K,hr,h=>⟨[],R,rfl,hr,h⟩
 | .tmp t::xs,R,K,hr,h=>by
  obtain⟨v,o,m,i,h⟩:=TV.elim hr (show TV E L R t g (λ g R v=>vP E L xs g R λ g R vs=>K g R (v::vs))from h);obtain⟨vs,d,f,c,h⟩:=vP.elim i h;exact⟨v::vs,d,by simp[lK,qU,m,f],c,h⟩
 | .const v::xs,R,K,hr,h=>by
  obtain⟨vs,d,f,c,h⟩:=vP.elim (l:=xs) hr h;exact⟨v::vs,d,by simp[lK,qU,f],c,h⟩
 | .d8 v::xs,R,K,hr,h=>by
  obtain⟨vs,d,f,c,h⟩:=vP.elim (l:=xs) hr h;exact⟨_,d,by simp[lK,qU,f],c,h⟩
 | .func v::xs,R,K,hr,h=>by
  obtain⟨vs,d,f,c,h⟩:=vP.elim (l:=xs) hr h;exact⟨_,d,by simp[lK,qU,f],c,h⟩
def SM(ds:List Nat):∀(E:Env)(t:Nat),lk (rO ds E) t=if bC t ds then none else lk E t
 |[],t=>by simp[rO,Cj]
 |(k,v)::r,t=>by
  show lk (cond (bC k ds) (rO ds r) ((k,v)::rO ds r)) t=_;cases hm:bC k ds with
  |true =>
   rw[xm,SM ds r,u5]
   by_cases e:k=t
   .subst e;rw[hm];rfl
   .rw [qo e]
  |false =>
   rw[zj,u5,SM ds r,u5]
   by_cases e:k=t
   .subst e;rw[hm];simp
   .rw [qo e,qo e]
def xai:∀(L:Env)(t:Nat),bC t (kQ L)=false->lk L t=none
 |[],t,_=>rfl
 |(k,v)::r,t,h=>by
  have h:cond (Nat.beq k t) true (bC t (kQ r))=false:=h;rw[u5];cases hb:Nat.beq k t with
  |true=>rw[hb]at h;cases h
  |false=>rw[hb,zj]at h;rw[qo (PW hb)];exact xai r t h
def Yr{t:Nat}:∀{l:List Nat},t∈l->bC t l=true
 |x::r,h=>by
  show cond (Nat.beq x t) true (bC t r)=true;cases hb:Nat.beq x t with
  |true=>rfl
  |false =>
   rw[zj];rcases jf.1 h with e|h
   .exact (PW hb e.symm).elim
   .exact Yr h
def Zl:∀(ds:List Nat)(tm:T AV)(t:Nat),t∉ds->(forget ds tm).get t=tm.get t
 |[],tm,t,_=>rfl
 |d::ds,tm,t,h=>by
  show(forget ds (tm.put d none)).get t=_;rw[Zl ds _ t (λ q=>h (vq _ q)),T.jM,qo (λ e=>h (by rw[e];exact IA ..))]
def QQ(ks:List Nat)(Q:aF)(up:Option aE):cB:=λ e st=>st.up=up /\ ∃E',fQ ks E' st.tm/\Q e E' st.aX st.H
section
variable{M:ak}{ctx:Ctx}{cR:Bool}{Q:aF}{E:Env}{D:List aM}{up:Option aE}
def PX.Hm{Z:cB}(hp:∀c tm H g,(∀t v,lk g t=some v->tm.get t=some v/\lk E t=some v)->Q (.panic c) g D H->Z (.panic c) ⟨tm,D,up,H⟩){f:Option (List Nat)}{L R:Env}{tm:T AV}(hr:lC E L R tm){c:aE}{H:ar}(h:PX f (kQ L) Q E D c H):yO f tm D up Z c H:=by
 cases f with
 |none=>exact h
 |some ds =>
  refine hp _ _ _ _ (λ t v d=>?_) h;rw[SM,SM]at d;split at d
  .cases d
  .rename_i i;split at d
   .cases d
   .rename_i j;rw[Zl ds tm t (λ q=>i (Yr q))];exact⟨hr.e t v (xai L t (by simpa using j)) d,d⟩
def DJ.vT{Z:cB}(hp:∀c tm H l,(∀t v,lk l t=some v->tm.get t=some v/\lk E t=some v)->Q (.panic c) l D H->Z (.panic c) ⟨tm,D,up,H⟩){j:Option (List Nat)}{L R:Env}{tm:T AV}(hr:lC E L R tm){g:Bool}{f:lJ}{vs:List AV}{H:ar}{K:Bool->AV->ar->Prop}{K':AV->ar->Prop}
 (h:DJ M cR j L Q E D g f vs H K) (hk:∀v H,K g v H->K' v H):mX M aG f vs H K' (yO j tm D up Z):=by
 cases cR with
 |false =>
  obtain⟨v,H',i,d⟩:=(show C3 M g f vs H K from h)
  exact⟨_,H',i,hk _ _ d⟩
 |true =>
  obtain⟨e,H',i,d⟩:=(show P3 M g (PX j (kQ L) Q E D) f vs H K from h)
  refine⟨_,H',i,?_⟩;cases e with
  |ret v=>exact hk _ _ d
  |panic c=>exact PX.Hm hp hr d
def Et.body{Z:cB}(hp:∀c tm H y,(∀t v,lk y t=some v->tm.get t=some v/\lk E t=some v)->Q (.panic c) y D H->Z (.panic c) ⟨tm,D,up,H⟩){s:aN}{K:KR}{g:Bool}{L R R0:Env}{tm:T AV}{H:ar}(hr:lC E L R tm)(u:lC E L R0 tm)(h:Et M cR s Q E D K g L R H){KK:St->Prop}
 (F:∀r z j H',(s.gW=true/\r=L/\j=tm \/ ∃v,s.gW=false/\r=kT s.dst v L/\j=ey s.dst v tm)->lC E r z j->lC E r R0 j->K g r z H'->KK ⟨j,D,up,H'⟩) :
 match s.gW with
 |false=>pK tm s.args λ vs=>nZ M ctx s.dst s.ct ⟨tm,D,up,H⟩ Z KK vs s.op
 |true=>pK tm s.args λ vs=>Ob s.dst ⟨tm,D,up,H⟩ vs s.op/\KK ⟨tm,D,up,H⟩:=by
 obtain⟨gW,dst,guard,args,op,x⟩:=s;obtain⟨vs,q,C,i,h⟩:=vP.elim hr h;cases gW with
 |true =>
  refine Mb C ?_;have h:Rh dst E L q H K g vs op:=h;cases op with
  |read f =>
   cases dst with
   |none=>exact h.elim
   |some d =>
    have h:LF g (f vs H) (Wc L E d) (λ g=>K g L q H):=h;obtain⟨⟨v,G,p⟩,h⟩:=h;refine⟨?_,F L q tm H (.inl ⟨rfl,rfl,rfl⟩) i u h⟩;refine bM.intro (m:=aG) G (bM.intro (m:=aG) (a:=v) ?_ rfl);unfold Wc at p;cases hl:lk L d with
    |some w=>rw[hl]at p;injection p with p;subst p;exact hr.l d w hl
    |none=>rw[hl]at p;exact hr.e d v hl p
  |_=>exact h.elim
 |false =>
  have put:∀v H',K g (kT dst v L) q H'->KK ⟨ey dst v tm,D,up,H'⟩:=λ v H' hk=>F _ q _ H' (.inr ⟨v,rfl,rfl,rfl⟩) (i.put dst v) (u.put dst v) hk;refine Mb C ?_;have h:ud M cR dst x Q E D L q H K g vs op:=h;cases op with
  |pure f=>simp only[ud]at h;obtain⟨v,e,h⟩:=B3.elim h;exact bM.intro (m:=aG) e (put _ _ h)
  |read f=>simp only[ud]at h;obtain⟨v,e,h⟩:=B3.elim h;exact bM.intro (m:=aG) e (put _ _ h)
  |alloc f=>simp only[ud]at h;simp only[nZ];obtain⟨o,mk,e,h⟩:=iS.elim h;exact iE.intro (m:=aG) e (put _ _ h)
  |gJ f=>simp only[ud]at h;simp only[nZ];obtain⟨v,H',e,h⟩:=iS.elim h;exact iE.intro (m:=aG) e (put _ _ h)
  |gY f=>exact DJ.vT hp i h λ v H' hk=>put v H' hk
  |gS =>
   simp only[ud,V3]at h;simp only[nZ,Lp];split at h
   .exact DJ.vT hp i h λ v H' hk=>put v H' hk
   .exact DJ.vT hp i h λ v H' hk=>put v H' hk
   .exact h.elim
  |invoke n =>
   simp only[ud,N3]at h;simp only[nZ,LA];split at h
   .obtain ⟨f,e,h⟩:=B3.elim h;exact bM.intro (m:=aG) e (DJ.vT hp i h λ v H' hk=>put v H' hk)
   .exact h.elim
  |recover=>exact False.elim h
  |defer=>exact False.elim h
  |panic =>
   cases cR with
   |false=>exact False.elim h
   |true =>
    have h:fZ vs H (PX x (kQ L) Q E D):=h;show fZ vs H (yO x tm D up Z);unfold fZ at h⊢;split at h
    .exact PX.Hm hp i h
    .exact h.elim
def MJ(g:Option (Nat×Bool))(l:List aN):Prop:=∀s∈l,s.guard=g
def pB.free{Z:cB}(hp:∀c tm H f,(∀t v,lk f t=some v->tm.get t=some v/\lk E t=some v)->Q (.panic c) f D H->Z (.panic c) ⟨tm,D,up,H⟩){K:KR}{g:Bool}{R0:Env}{rest:List aN}(i:∀L R tm H,lC E L R tm->lC E L R0 tm->K g L R H->nJ M ctx rest ⟨tm,D,up,H⟩ Z) :
 ∀{l:List aN}{L R:Env}{tm:T AV}{H:ar},MJ none l->lC E L R tm->lC E L R0 tm->pB M cR Q E D K l g L R H->nJ M ctx (l++rest) ⟨tm,D,up,H⟩ Z
 |[],L,R,tm,H,_,hr,hr0,h=>i _ _ _ _ hr hr0 h
 |s::l,L,R,tm,H,hg,hr,hr0,h=>by
  rw[Ht,UP];have hs:s.guard=none:=hg s (IA ..);have:=Et.body hp (ctx:=ctx) (up:=up) (KK:=λ d=>nJ M ctx (l++rest) d Z) hr hr0 (show Et M cR s Q E D (pB M cR Q E D K l) g L R H from h)
   λ r u q H' _ m o p=>pB.free hp i (λ x j=>hg x (vq _ j)) m o p
  obtain⟨gW,dst,guard,args,op,w⟩:=s;subst hs;cases gW<;>exact this
def TJ:∀(n:Nat)(f:List AV->ar->Prop)(l:List AV)(H:ar),l.length=n->py n (pY n f) l H=f l H
 |0,f,[],H,_=>rfl
 |n+1,f,v::l,H,h=>TJ n (λ l=>f (v::l)) l H (by simpa using h)
 |0,f,_::_,H,h=>by cases h
 |n+1,f,[],H,h=>by cases h
def Cz{α:Type}(l:List α):cQ l=l.length:=by
 induction l with
 |nil=>rfl
 |cons x l ih=>show cQ l+1=_;rw[ih];rfl
def xe4:∀(ks:List Nat)(L:Env)(vs:List AV),vs.length=ks.length->qH ks.length (kK ks L vs)=vs
 |[],L,[],_=>rfl
 |k::ks,L,v::vs,h=>by
  show v::qH ks.length (kK ks L vs)=_;rw[xe4 ks L vs (by simpa using h)]
 |[],L,_::_,h=>by cases h
 |_::_,L,[],h=>by cases h
def xkp:∀n,(rz n).length=n
 |0=>rfl
 |n+1=>by show(rz n).length+1=_;rw[xkp n]
def pB.under{Z:cB}(hp:∀c tm H C,(∀t v,lk C t=some v->tm.get t=some v/\lk E t=some v)->Q (.panic c) C D H->Z (.panic c) ⟨tm,D,up,H⟩){K:KR}{g:Bool}{R0:Env}{rest:List aN}{t:Nat}{b:Bool}{v:AV}(hw:cN b (some v)=some true){kf:List Nat}{L0:Env}(F:∀vs R tm H,vs.length=kf.length->lC E (kK kf L0 vs) R tm->lC E (kK kf L0 vs) R0 tm->K g (kK kf L0 vs) R H->nJ M ctx rest ⟨tm,D,up,H⟩ Z) :
 ∀{l:List aN}{acc:List Nat}{us:List AV}{L R:Env}{tm:T AV}{H:ar},bn l acc=kf->us.length=acc.length->L=kK acc L0 us->MJ (some (t,b)) l->ue t l=true->tm.get t=some v->lC E L R tm->lC E L R0 tm->pB M cR Q E D K l g L R H->nJ M ctx (l++rest) ⟨tm,D,up,H⟩ Z
 |[],acc,us,L,R,tm,H,f,e2,e3,_,_,_,hr,hr0,h=>by
  have f:acc=kf:=f;subst f;subst e3;exact F _ _ _ _ e2 hr hr0 h
 |s::l,acc,us,L,R,tm,H,f,e2,e3,hg,ho,ht,hr,hr0,h=>by
  rw[Ht,UP];have hs:s.guard=some (t,b):=hg s (IA ..);have ho:cond (K3 s.dst t) false (cond s.gW (cond s.dst.isSome (ue t l) false) (ue t l))=true:=ho;have o:K3 s.dst t=false:=by cases q:K3 s.dst t with
   |true=>rw[q]at ho;cases ho
   |false=>rfl
  rw[o,zj]at ho;have y:ue t l=true:=by
   cases j:s.gW with
   |false=>rw[j]at ho;exact ho
   |true=>rw[j]at ho;cases o:s.dst.isSome with
    |true=>rw[o]at ho;exact ho
    |false=>rw[o]at ho;cases ho
  have:=Et.body hp (ctx:=ctx) (up:=up) (KK:=λ z=>nJ M ctx (l++rest) z Z) hr hr0 (show Et M cR s Q E D (pB M cR Q E D K l) g L R H from h)
   λ J W V H' G O S U=>by
    have f:bn l (cond s.gW acc (Option.rec (motive:=λ _=>List Nat) acc (λ d=>d::acc) s.dst))=kf:=f;obtain⟨i,p,r⟩:∃i,i.length=(cond s.gW acc (Option.rec (motive:=λ _=>List Nat) acc (λ d=>d::acc) s.dst)).length/\J=kK (cond s.gW acc (Option.rec (motive:=λ _=>List Nat) acc (λ d=>d::acc) s.dst)) L0 i:=by
     rcases G with⟨j,rfl,_⟩|⟨w,j,rfl,_⟩
     .rw [j];exact⟨us,e2,e3⟩
     .rw [j];cases s.dst with
      |none=>exact⟨us,e2,e3⟩
      |some d=>exact⟨w::us,by simpa using e2,by rw[e3];rfl⟩
    exact pB.under hp hw F f p r (λ x N=>hg x (vq _ N)) y (by
     rcases G with⟨_,_,rfl⟩|⟨w,_,_,rfl⟩
     .exact ht
     .cases u:s.dst with
      |none=>exact ht
      |some d =>
       rw[u]at o;show(tm.set d w).get t=_;rw[T.aI,qo (PW o)];exact ht) O S U
  obtain⟨gW,dst,guard,args,op,Y⟩:=s;subst hs;have e:cN b (tm.get t)=some true:=by rw[ht];exact hw
  cases gW with
  |false=>exact bM.intro (m:=aG) e this
  |true=>exact bM.intro (m:=aG) e this
def pB.over{Z:cB}{R0:Env}{rest:List aN}{t:Nat}{b:Bool}{v:AV}(hw:cN b (some v)=some false){kf:List Nat}{L0:Env}{H:ar}(j:∀tm,lC E (kK kf L0 (rz kf.length)) R0 tm->nJ M ctx rest ⟨tm,D,up,H⟩ Z) :
 ∀{l:List aN}{acc:List Nat}{tm:T AV},bn l acc=kf->MJ (some (t,b)) l->ue t l=true->tm.get t=some v->lC E (kK acc L0 (rz acc.length)) R0 tm->nJ M ctx (l++rest) ⟨tm,D,up,H⟩ Z
 |[],acc,tm,c,_,_,_,hr0=>by
  have c:acc=kf:=c;subst c;exact j _ hr0
 |s::l,acc,tm,c,hg,ho,ht,hr0=>by
  rw[Ht,UP];have hs:s.guard=some (t,b):=hg s (IA ..);have ho:cond (K3 s.dst t) false (cond s.gW (cond s.dst.isSome (ue t l) false) (ue t l))=true:=ho;have o:K3 s.dst t=false:=by cases q:K3 s.dst t with
   |true=>rw[q]at ho;cases ho
   |false=>rfl
  rw[o,zj]at ho;have e:cN b (tm.get t)=some false:=by rw[ht];exact hw
  have h:MJ (some (t,b)) l:=λ x p=>hg x (vq _ p);have c:bn l (cond s.gW acc (Option.rec (motive:=λ _=>List Nat) acc (λ d=>d::acc) s.dst))=kf:=c;cases i:s.gW with
  |true =>
   rw[i]at ho c;cases g:s.dst.isSome with
   |false=>rw[g]at ho;cases ho
   |true =>
    rw[g]at ho;have:=pB.over hw j c h ho ht hr0;obtain⟨gW,dst,guard,args,op,r⟩:=s;subst hs;subst i;exact bM.intro (m:=aG) e ⟨g,this⟩
  |false =>
   rw[i]at ho c;have:=pB.over hw j (tm:=ey s.dst .undef tm) c h ho (by
    cases f:s.dst with
     |none=>exact ht
     |some d =>
      rw[f]at o;show(tm.set d _).get t=_;rw[T.aI,qo (PW o)];exact ht) (by
    have:=hr0.put s.dst .undef;cases f:s.dst with
     |none=>rw[f]at this;exact this
     |some d=>rw[f]at this;exact this)
   obtain⟨gW,dst,guard,args,op,r⟩:=s;subst hs;subst i;exact bM.intro (m:=aG) e this
def Aa{a b:Option (Nat×Bool)}(h:rG a b=true):a=b:=by
 cases a with
 |none=>cases b with
  |none=>rfl
  |some _=>cases h
 |some p=>cases b with
  |none=>cases h
  |some q =>
   obtain⟨t,x⟩:=p;obtain⟨u,y⟩:=q;have h:cond (Nat.beq t u) (cond x y (!y)) false=true:=h;cases hb:Nat.beq t u with
   |false=>rw[hb]at h;cases h
   |true =>
    rw[hb]at h;rw[wg hb];cases x<;>cases y<;>first|rfl|cases h
def A5:∀(l:List aN),(Hn l).flatMap (·.2)=l /\ ∀x∈Hn l,MJ x.1 x.2
 |[]=>⟨rfl,λ x c=>by cases c⟩
 |s::l=>by
  obtain⟨f,h⟩:=A5 l;have e:Hn (s::l)=List.casesOn (motive:=λ _=>List Ed) (Hn l) [(s.guard,[s])] λ g r=>cond (rG g.1 s.guard) ((g.1,s::g.2)::r) ((s.guard,[s])::g::r):=rfl;rw[e];cases hg:Hn l with
  |nil =>
   rw[hg]at f;exact⟨by simpa using f,λ x c=>by simp at c;subst c;intro y d;simp at d;subst d;rfl⟩
  |cons g r =>
   rw[hg]at f h;show(cond (rG g.1 s.guard) ((g.1,s::g.2)::r) ((s.guard,[s])::g::r)).flatMap _=_ /\ ∀x∈cond (rG g.1 s.guard) ((g.1,s::g.2)::r) ((s.guard,[s])::g::r),_;cases hs:rG g.1 s.guard with
   |true =>
    refine⟨by simpa using f,λ x c=>?_⟩;rcases jf.1 c with rfl|c
    .intro y d;rcases jf.1 d with rfl|d
     .exact (Aa hs).symm
     .exact h g (IA ..) y d
    .exact h x (vq _ c)
   |false =>
    refine⟨by simpa using f,λ x c=>?_⟩;rcases jf.1 c with rfl|c
    .intro y d;simp at d;subst d;rfl
    .exact h x c
def vQ.P6{Z:cB}(hp:∀c tm H o,(∀t v,lk o t=some v->tm.get t=some v/\lk E t=some v)->Q (.panic c) o D H->Z (.panic c) ⟨tm,D,up,H⟩){K:KR}{g:Bool}(p:∀L R tm H,lC E L R tm->K g L R H->Z .normal ⟨tm,D,up,H⟩):∀{gs:List Ed}{L R:Env}{tm:T AV}{H:ar},(∀x∈gs,MJ x.1 x.2)->lC E L R tm->vQ M cR Q E D K gs g L R H ->
 nJ M ctx (gs.flatMap (·.2)) ⟨tm,D,up,H⟩ Z
 |[],L,R,tm,H,_,hr,h=>p _ _ _ _ hr h
 |x::gs,L,R,tm,H,hg,hr,h=>by
  rw[ju];have m:∀L R tm H,lC E L R tm->vQ M cR Q E D K gs g L R H->nJ M ctx (gs.flatMap (·.2)) ⟨tm,D,up,H⟩ Z:=λ L R tm H hr h=>vQ.P6 hp p (λ x i=>hg x (vq _ i)) hr h;have i:=hg x (IA ..);obtain⟨q,l⟩:=x;cases q with
  |none=>exact pB.free hp (R0:=R) (λ L R tm H s _ j=>m L R tm H s j) i hr hr (show pB M cR Q E D (vQ M cR Q E D K gs) l g L R H from h)
  |some q =>
   obtain⟨t,b⟩:=q;cases ho:ue t l with
   |false =>
    have h:cond (ue t l) _ False:=h;rw[ho]at h;exact h.elim
   |true =>
    have h:cond (ue t l) _ False:=h;rw[ho,xm]at h;obtain⟨v,d,r,f,h⟩:=TV.elim hr h;have kl:cQ (bn l [])=(bn l []).length:=Cz _;have h:B3 g (cN b (some v)) λ g w=>uF g w (λ g=>pB M cR Q E D (λ g u _ H=>py (cQ (bn l [])) (pY (cQ (bn l [])) λ vs H=>vQ M cR Q E D K gs g (kK (bn l []) L vs) d H) (qH (cQ (bn l [])) u) H) l g L d H)
     (λ g=>py (cQ (bn l [])) (pY (cQ (bn l [])) λ vs H=>vQ M cR Q E D K gs g (kK (bn l []) L vs) d H) (rz (cQ (bn l []))) H):=h
    obtain⟨w,hw,h⟩:=B3.elim h;cases w with
    |true =>
     refine pB.under hp (R0:=d) hw (kf:=bn l []) (L0:=L) (λ vs R tm H q s z j=>?_) (acc:=[]) (us:=[]) rfl rfl rfl i ho r f f h;rw[kl,xe4 _ _ _ q,TJ _ _ _ _ q]at j;exact m _ d tm H z j
    |false =>
     have h:py (cQ (bn l [])) (pY (cQ (bn l [])) λ vs H=>vQ M cR Q E D K gs g (kK (bn l []) L vs) d H) (rz (cQ (bn l []))) H:=h;rw[kl,TJ _ _ _ _ (xkp _)]at h;exact pB.over hw (kf:=bn l []) (L0:=L) (λ tm y=>m _ d tm H y h) (acc:=[]) rfl i ho r f
def qS.P6{Z:cB}(hp:∀c tm H d,(∀t v,lk d t=some v->tm.get t=some v/\lk E t=some v)->Q (.panic c) d D H->Z (.panic c) ⟨tm,D,up,H⟩){l:List aN}{g:Bool}{H:ar}{K:KR}{tm:T AV}{ks:List Nat}(he:fQ ks E tm)(h:qS M cR Q E D l g H K)(j:∀L R tm H,lC E L R tm->K g L R H->Z .normal ⟨tm,D,up,H⟩):nJ M ctx l ⟨tm,D,up,H⟩ Z:=by
 obtain⟨f,i⟩:=A5 l;have:=vQ.P6 hp (ctx:=ctx) j i (lC.first he) h
 rwa [f]at this
end
end
end Go.Am
namespace Go.Am
noncomputable section
variable{M:ak}{ctx:Ctx}{K:Kp}
def XS(ks:List Nat)(E:Env):∀(L:Env)(t:Nat)(v:AV),bC t ks=true->lk (du ks E L) t=some v->lk L t=some v\/lk L t=none/\lk E t=some v
 |[],t,v,_,h=>.inr ⟨rfl,h⟩
 |(k,w)::r,t,v,ht,h=>by
  have h:lk (cond (bC k ks) ((k,w)::du ks E r) (du ks E r)) t=some v:=h;rw[u5];cases hm:bC k ks with
  |true =>
   rw[hm,xm,u5]at h;split at h
   .rename_i e;rw[qr e];exact .inl h
   .rename_i e;rw[qo e];exact XS ks E r t v ht h
  |false =>
   rw[hm,zj]at h
   by_cases e:k=t
   .subst e;rw[hm]at ht;cases ht
   .rw [qo e];exact XS ks E r t v ht h
def Uj(ks:List Nat)(E:Env)(c:∀t v,lk E t=some v->bC t ks=true):∀(L:Env)(t:Nat)(v:AV),lk (du ks E L) t=some v->bC t ks=true
 |[],t,v,h=>c t v h
 |(k,w)::r,t,v,h=>by
  have h:lk (cond (bC k ks) ((k,w)::du ks E r) (du ks E r)) t=some v:=h;cases hm:bC k ks with
  |true =>
   rw[hm,xm,u5]at h;split at h
   .rename_i e;subst e;exact hm
   .exact Uj ks E c r t v h
  |false=>rw[hm,zj]at h;exact Uj ks E c r t v h
def lC.ah{E L R:Env}{tm:T AV}(h:lC E L R tm){ks:List Nat}(d:∀t v,lk E t=some v->bC t ks=true):fQ ks (du ks E L) tm:=λ t v c=>by
 have hm:=Uj ks E d L t v c;refine⟨?_,hm⟩;rcases XS ks E L t v hm c with q|⟨f,g⟩
 .exact h.l t v q
 .exact h.e t v f g
def fQ.keys{ks:List Nat}{E:Env}{tm:T AV}(h:fQ ks E tm):∀t v,lk E t=some v->bC t ks=true:=λ t v c=>(h t v c).2
def fQ.cR{ks:List Nat}{E d:Env}{tm c:T AV}(h:fQ ks E tm)(f:∀t v,lk d t=some v->c.get t=some v/\lk E t=some v):fQ ks d c:=λ t v g=>⟨(f t v g).1,(h t v (f t v g).2).2⟩
def TV.cv{E L R:Env}{x:bI}{g:Bool}{P:Bool->AV->Prop}{tm:T AV}(hr:lC E L R tm)(h:CV E L R x g P):∃v,qU tm x=some v/\P g v:=by
 cases x with
 |tmp t=>obtain⟨v,_,c,_,d⟩:=TV.elim hr (show TV E L R t g (λ g _ v=>P g v)from h);exact⟨v,c,d⟩
 |const v=>exact⟨v,rfl,h⟩
 |d8 v=>exact⟨_,rfl,h⟩
 |func v=>exact⟨_,rfl,h⟩
def OV.elim{ks:List Nat}{E:Env}{x:bI}{g:Bool}{P:Bool->AV->Prop}{tm:T AV}(hr:fQ ks E tm)(h:OV E x g P):∃v,qU tm x=some v/\P g v:=by
 cases x with
 |tmp t=>obtain⟨v,c,d⟩:=LK.elim (show LK g (lk E t) P from h);exact⟨v,(hr t v c).1,d⟩
 |const v=>exact⟨v,rfl,h⟩
 |d8 v=>exact⟨_,rfl,h⟩
 |func v=>exact⟨_,rfl,h⟩
def Yx{tm:T AV}{x:bI}{v:AV}{P:AV->Prop}(h:qU tm x=some v)(hp:P v):Ec tm x P:=by
 cases x with
 |tmp t=>exact bM.intro (m:=aG) h hp
 |const c=>injection h with h;subst h;exact hp
 |d8 c=>injection h with h;subst h;exact hp
 |func c=>injection h with h;subst h;exact hp
def mH.wp{a b:ai}{g:Bool}{v:AV}{A B:Bool->Prop}{tm:T AV}{c:bI}{st:St}{Q:cB}(d:qU st.tm c=some v)(h:mH g v A B)(ha:A g->WP M ctx a st Q)(hb:B g->WP M ctx b st Q):WP M ctx (.cond c a b) st Q:=by
 obtain⟨q,rfl,h⟩:=h.elim;refine Yx d ?_;cases q with
 |true=>exact ha h
 |false=>exact hb h
def eR:ai->Nat
 | .seq a b=>eR a+eR b+1
 | .cond _ a b=>eR a+eR b+1
 | .block _ b=>eR b+1
 | .loop _ b=>eR b+1
 | .scope b=>eR b+1
 |_=>0
def W3.wp:∀(n:Nat)(c:ai),eR c<=n -> ∀{g:Bool}{Q:aF}{E:Env}{D:List aM}{H:ar}{tm:T AV}{up:Option aE},W3 M ctx K c g Q E D H->fQ K.ah E tm->WP M ctx c ⟨tm,D,up,H⟩ (QQ K.ah Q up):=by
 intro n
 induction n with
 |zero =>
  intro c s g Q E D H tm up h he;cases c with
  |skip=>exact⟨rfl,E,he,h⟩
  |label _=>exact⟨rfl,E,he,h⟩
  |exit _=>exact⟨rfl,E,he,h⟩
  |goto _=>exact⟨rfl,E,he,h⟩
  |ret=>exact⟨rfl,E,he,h⟩
  |stuck=>exact False.elim h
  |region l=>exact qS.P6 (λ c F H' j p i=>⟨rfl,j,he.cR p,i⟩) he (show qS M K.cR Q E D l g H _ from h) λ L R tm H hr hk=>⟨rfl,_,hr.ah he.keys,hk⟩
  |rangeFunc f k =>
   obtain⟨v,t,h⟩:=OV.elim he (show OV E f g _ from h);exact Yx t (by
    have:=h tm up he;unfold IF at this⊢;split
    .rename_i hr;rw[hr]at this;exact MV this λ e st⟨p,i,o⟩=>⟨p,E,by rw[i];exact he,o⟩
    .rename_i l hr;rw[hr]at this;exact Eg (m:=aG) this λ d q=>MV q λ e st⟨p,i,o⟩=>⟨p,E,by rw[i];exact he,o⟩)
  |seq _ _=>simp[eR]at s
  |cond _ _ _=>simp[eR]at s
  |block _ _=>simp[eR]at s
  |loop _ _=>simp[eR]at s
  |scope _=>simp[eR]at s
 |succ n ih =>
  intro c s g Q E D H tm up h he;have u:∀{a b:ai}{tm:T AV}{H:ar},eR b<=n->WP M ctx a ⟨tm,D,up,H⟩ (QQ K.ah (eP (W3 M ctx K b) Q) up)->WP M ctx a ⟨tm,D,up,H⟩ (B7 (WP M ctx b) (QQ K.ah Q up)):=λ{a b tm H}hb h=>pF h λ e st⟨p,j,i,o⟩=>by
   obtain⟨F,D',V,H'⟩:=st;subst p;cases e with
   |normal=>exact ih b hb o i
   |exit _=>exact⟨rfl,j,i,o⟩
   |goto _=>exact⟨rfl,j,i,o⟩
   |ret=>exact⟨rfl,j,i,o⟩
   |panic _=>exact⟨rfl,j,i,o⟩
  have w:∀{c:bI}{x y:ai}{E:Env}{tm:T AV}{v:AV}{g:Bool}{Q:aF}{H:ar},eR x<=n->eR y<=n->qU tm c=some v->fQ K.ah E tm->mH g v (λ g=>W3 M ctx K x g Q E D H) (λ g=>W3 M ctx K y g Q E D H)->WP M ctx (.cond c x y) ⟨tm,D,up,H⟩ (QQ K.ah Q up) :=
   λ{c x y E tm v g Q H}hx hy t he h=>mH.wp (tm:=tm) (st:=⟨tm,D,up,H⟩) t h (λ h=>ih x hx h he) (λ h=>ih y hy h he)
  cases c with
  |seq a b =>
   have z:eR a+eR b<=n:=by simp only[eR]at s;omega
   have gen:W3 M ctx K a g (eP (W3 M ctx K b) Q) E D H->WP M ctx (.seq a b) ⟨tm,D,up,H⟩ (QQ K.ah Q up):=λ h=>u (a:=a) (b:=b) (by omega) (ih a (by omega) h he);have nQ:∀(l:List aN)(S:KR),a=.region l->qS M K.cR Q E D l g H S->(∀L R tm H,lC E L R tm->S g L R H->WP M ctx b ⟨tm,D,up,H⟩ (QQ K.ah Q up))->WP M ctx (.seq a b) ⟨tm,D,up,H⟩ (QQ K.ah Q up):=λ l S e h' hk=>by
    subst e;exact qS.P6 (Z:=B7 (WP M ctx b) (QQ K.ah Q up)) (λ c F H' j p i=>⟨rfl,j,he.cR p,i⟩) he h' hk
   cases a with
   |region l =>
    have plain:(qS M K.cR Q E D l g H λ g L _ H=>W3 M ctx K b g Q (du K.ah E L) D H)->WP M ctx (.seq (.region l) b) ⟨tm,D,up,H⟩ (QQ K.ah Q up):=λ h=>nQ l _ rfl h λ L R tm H hr hk=>ih b (by omega) hk (hr.ah he.keys);cases b with
    |cond c x y =>
     have U:eR x+eR y+1<=n:=by simp only[eR]at z;omega
     refine nQ l _ rfl h λ L R tm H hr hk=>?_;obtain⟨v,t,hk⟩:=TV.cv hr hk;exact w (by omega) (by omega) t (hr.ah he.keys) hk
    |seq b1 r =>
     cases b1 with
     |cond c x y =>
      have U:eR x+eR y+1+eR r+1<=n:=by simp only[eR]at z;omega
      refine nQ l _ rfl h λ L R tm H hr hk=>?_;obtain⟨v,t,hk⟩:=TV.cv hr hk;exact u (by omega) (w (by omega) (by omega) t (hr.ah he.keys) hk)
     |_=>exact plain h
    |_=>exact plain h
   |_=>exact gen h
  |cond c x y =>
   have z:eR x+eR y<=n:=by simp only[eR]at s;omega
   obtain⟨v,t,h⟩:=OV.elim he (show OV E c g _ from h);exact w (by omega) (by omega) t he h
  |block id b =>
   have hb:eR b<=n:=by simp only[eR]at s;omega
   exact pF (c:=b) (ih b hb (show W3 M ctx K b g (eM id Q) E D H from h) he) λ e st⟨p,j,i,o⟩=>by cases e<;>exact⟨p,j,i,o⟩
  |scope b =>
   have hb:eR b<=n:=by simp only[eR]at s;omega
   refine pF (c:=b) (ih b hb (show W3 M ctx K b g (jR b Q) E D H from h) he) λ e st⟨p,j,i,o⟩=>?_;cases e with
   |goto l=>exact⟨o.1,p,j,i,o.2⟩
   |normal=>exact⟨p,j,i,o⟩
   |exit _=>exact⟨p,j,i,o⟩
   |ret=>exact⟨p,j,i,o⟩
   |panic _=>exact⟨p,j,i,o⟩
  |loop ah b =>
   have hb:eR b<=n:=by simp only[eR]at s;omega
   cases ah with
   |some _=>exact False.elim h
   |none =>
    obtain⟨I,⟨n0,W,h0,hs⟩,C⟩:=(show de (W3 M ctx K b) Q E D H from h)
    refine⟨λ n st=>st.up=up /\ ∃j,fQ K.ah j st.tm/\I n j st.aX st.H,⟨n0,rfl,W,hs.sub he,h0⟩,λ n st⟨p,j,i,o⟩=>?_⟩;obtain⟨F,D',V,H'⟩:=st;subst p;refine pF (c:=b) (ih b hb (C n j D' H' o) i) λ e st⟨G,O,J,N⟩=>?_;cases e with
    |normal=>obtain⟨m,Y,q1,q2,q3⟩:=N;exact⟨m,q3,G,Y,q2.sub J,q1⟩
    |exit _=>exact⟨G,O,J,N⟩
    |goto _=>exact⟨G,O,J,N⟩
    |ret=>exact⟨G,O,J,N⟩
    |panic _=>exact⟨G,O,J,N⟩
  |skip=>exact⟨rfl,E,he,h⟩
  |label _=>exact⟨rfl,E,he,h⟩
  |exit _=>exact⟨rfl,E,he,h⟩
  |goto _=>exact⟨rfl,E,he,h⟩
  |ret=>exact⟨rfl,E,he,h⟩
  |stuck=>exact False.elim h
  |region l=>exact ih _ (xy _) h he
  |rangeFunc f k=>exact ih _ (xy _) h he
def iQ(E:Env)(H:ar):List dX->(List AV->Prop)->Prop
 |[],P=>P []
 | .tmp t::rs,P=>LK true (lk E t) λ _ v=>iQ E H rs λ vs=>P (v::vs)
 | .kA a::rs,P=>LK true (lk E a) λ _ v=>B3 true (Op.ae [v] H) λ _ v=>iQ E H rs λ vs=>P (v::vs)
 | .cL n a::rs,P=>LK true (lk E a) λ _ v=>B3 true (Op.aq n [v] H) λ _ v=>iQ E H rs λ vs=>P (v::vs)
def mB(M:ak)(rs:List dX)(E:Env)(Q:bE->ar->Prop):List aM->Option aE->ar->Prop
 |[],none,H=>iQ E H rs λ l=>Q (.ret (iR l)) H
 |[],some c,H=>Q (.panic c) H
 | .iU b::ds,m,H=>H.get b=some (.deferred (some []))/\mB M rs E Q ds m (H.set b (.deferred none))
 | .fn (.func f) args::ds,m,H=>∃v up' H',jJ M f args (some (m.getD [])) H (.ret v) (some up') H'/\bM aG (nD m up') λ m'=>mB M rs E Q ds m' H'
 | .fn (.yield _) _::_,_,_=>False
def iQ.elim{ks:List Nat}{E:Env}{tm:T AV}(he:fQ ks E tm){H:ar}:∀{rs:List dX}{P:List AV->Prop},iQ E H rs P -> ∃l,dQ H tm rs=some l/\P l
 |[],P,h=>⟨[],rfl,h⟩
 | .tmp t::rs,P,h=>by
  obtain⟨v,c,h⟩:=LK.elim (show LK true (lk E t) _ from h);obtain⟨l,d,h⟩:=iQ.elim he h;exact⟨v::l,by rw[Hf,(he t v c).1,d];rfl,h⟩
 | .kA t::rs,P,h=>by
  obtain⟨v,c,h⟩:=LK.elim (show LK true (lk E t) _ from h);obtain⟨w,d,h⟩:=B3.elim h;obtain⟨l,f,h⟩:=iQ.elim he h;exact⟨w::l,by rw[xke,(he t v c).1,qm,d,qm,f];rfl,h⟩
 | .cL n t::rs,P,h=>by
  obtain⟨v,c,h⟩:=LK.elim (show LK true (lk E t) _ from h);obtain⟨w,d,h⟩:=B3.elim h;obtain⟨l,f,h⟩:=iQ.elim he h;exact⟨w::l,by rw[xkf,(he t v c).1,qm,d,qm,f];rfl,h⟩
def mB.Rl{ks:List Nat}{E:Env}{tm:T AV}(he:fQ ks E tm){rs:List dX}{Q:bE->ar->Prop}:∀{D:List aM}{m:Option aE}{H:ar},mB M rs E Q D m H->yF M rs tm Q D m H
 |[],none,H,h=>by obtain⟨l,d,g⟩:=iQ.elim he h;exact bM.intro (m:=aG) d g
 |[],some c,H,h=>h
 | .iU b::ds,m,H,⟨d,g⟩=>⟨d,mB.Rl he g⟩
 | .fn (.func f) args::ds,m,H,⟨v,up',H',d,g⟩=>⟨v,up',H',d,Eg g λ i h=>mB.Rl he h⟩
 | .fn (.yield _) _::_,_,_,h=>h
def fj(M:ak)(rs:List dX)(Q:bE->ar->Prop):aF:=λ e E D H=>match e with
 | .normal=>mB M rs E Q D none H
 | .ret=>mB M rs E Q D none H
 | .panic c=>mB M rs E Q D (some c) H
 |_=>False
def D4(M:ak)(f:Nat)(vs:List AV)(H:ar)(Q:bE->ar->Prop):Prop:=∃e H',CALL M f vs H e H'/\Q e H'
def ug(Q:AV->ar->Prop)(e:bE)(H:ar):Prop:=match e with
 | .ret v=>Q v H
 | .panic _=>False
def za(M:ak)(f:Nat)(vs:List AV)(H:ar)(Q:AV->ar->Prop):Prop:=D4 M f vs H (ug Q)
def za.elim{f:Nat}{vs:List AV}{H:ar}{Q:AV->ar->Prop}(h:za M f vs H Q):∃v H',CALL M f vs H (.ret v) H'/\Q v H':=by
 obtain⟨e,H',d,c⟩:=h;cases e with
 |ret v=>exact⟨v,H',d,c⟩
 |panic _=>exact c.elim
def za.intro{f:Nat}{vs:List AV}{H:ar}{Q:AV->ar->Prop}{v:AV}{H':ar}(h:CALL M f vs H (.ret v) H')(c:Q v H'):za M f vs H Q:=⟨_,H',h,c⟩
def za.mono{f:Nat}{vs:List AV}{H:ar}{Q Q':AV->ar->Prop}(h:za M f vs H Q)(g:∀v H',Q v H'->Q' v H'):za M f vs H Q':=by
 obtain⟨v,H',c,d⟩:=h.elim;exact⟨_,H',c,g _ _ d⟩
def C3.q{m:Bool}{f:Nat}{vs:List AV}{H:ar}{R:AV->ar->Prop}{P:Bool->AV->ar->Prop}(h:za M f vs H R)(hk:∀v H',R v H'->P m v H'):C3 M m (.func f) vs H P:=by
 obtain⟨v,H',c,d⟩:=h.elim;exact⟨v,H',c,hk v H' d⟩
def C3.ret{m:Bool}{f:Nat}{vs:List AV}{H:ar}{P:Bool->AV->ar->Prop}{v:AV}{H':ar}(h:CALL M f vs H (.ret v) H')(hk:P m v H'):C3 M m (.func f) vs H P:=⟨v,H',h,hk⟩
def C3.xV{m:Bool}{l:Nat}{vs:List AV}{H:ar}{P:Bool->AV->ar->Prop}{v:AV}{H':ar}(h:rS M l vs H (.ret v) H')(hk:P m v H'):C3 M m (.yield l) vs H P:=⟨v,H',h,hk⟩
def P3.q{m:Bool}{X:aE->ar->Prop}{f:Nat}{vs:List AV}{H:ar}{R:bE->ar->Prop}{P:Bool->AV->ar->Prop}(h:D4 M f vs H R)(hk:∀v H',R (.ret v) H'->P m v H')(i:∀c H',R (.panic c) H'->X c H'):P3 M m X (.func f) vs H P:=by
 obtain⟨e,H',g,d⟩:=h;refine⟨e,H',g,?_⟩;cases e with
 |ret v=>exact hk _ _ d
 |panic c=>exact i _ _ d
def jT:Nat->List AV->Env
 |_,[]=>[]
 |i,v::vs=>(i,v)::jT (i+1) vs
def i7:Nat->Nat->List Nat->Bool
 |_,0,_=>true
 |i,n+1,ks=>bC i ks && i7 (i+1) n ks
def Z6:∀(vs:List AV)(i t:Nat)(tm:T AV),(jK i vs tm).get t=if i<=t then(match vs[t-i]? with|some v=>some v|none=>tm.get t)else tm.get t
 |[],i,t,tm=>by simp[jK]
 |v::vs,i,t,tm=>by
  rw[jK,Z6 vs (i+1) t,T.aI]
  by_cases h:i=t
  .subst h;simp;intro h;omega
  .by_cases c:i<=t
   .have e:t-i=(t-(i+1))+1:=by omega
    rw[qr (show i+1<=t by omega),qr c,qo h,e,zq]
   .rw [qo (by omega),qo c,qo h]
def ZN:∀(vs:List AV)(i t:Nat)(v:AV),lk (jT i vs) t=some v->i<=t/\vs[t-i]? = some v
 |[],i,t,v,h=>by cases h
 |w::vs,i,t,v,h=>by
  rw[jT,u5]at h;split at h
  .rename_i e;subst e;injection h with h;subst h;simp
  .obtain ⟨d,c⟩:=ZN vs (i+1) t v h;refine⟨by omega,?_⟩;have e:t-i=(t-(i+1))+1:=by omega
   rw[e,zq,c]
def q97:∀(n i:Nat)(ks:List Nat),i7 i n ks=true -> ∀t,i<=t->t<i+n->bC t ks=true
 |0,i,ks,_,t,h1,h2=>by omega
 |n+1,i,ks,h,t,h1,h2=>by
  simp only[i7,xt]at h
  by_cases e:i=t
  .subst e;exact h.1
  .exact q97 n (i+1) ks h.2 t (by omega) (by omega)
def VU{ks:List Nat}{vs:List AV}(h:i7 0 vs.length ks=true):fQ ks (jT 0 vs) (jK 0 vs .nil):=λ t v d=>by
 obtain⟨_,c⟩:=ZN vs 0 t v d;rw[HA]at c;refine⟨by rw[Z6,qr (xy _),HA,c],q97 _ 0 ks h t (xy _) ?_⟩;rw[jy];exact(qk.1 c).1
structure Fn3 where
 n:Nat
 F:cj
 K:Kp
def pre:ai->List ai
 | .seq a b=>.seq a b::jU (pre a) (pre b)
 | .cond c a b=>.cond c a b::jU (pre a) (pre b)
 | .block i b=>.block i b::pre b
 | .loop k b=>.loop k b::pre b
 | .scope b=>.scope b::pre b
 |c=>[c]
def part(c:ai)(k:Nat):ai:=Option.rec (motive:=λ _=>ai) .stuck (λ c=>c) (nth (pre c) k)
def di:ai->Nat
 | .seq a b=>di a+di b+1
 | .cond _ a b=>di a+di b+1
 | .block _ b=>di b+1
 | .loop _ b=>di b+1
 | .scope b=>di b+1
 |_=>1
def Gd:∀(c:ai),(pre c).length=di c
 | .seq a b=>by simp[pre,di,oJ,Gd a,Gd b]
 | .cond _ a b=>by simp[pre,di,oJ,Gd a,Gd b]
 | .block _ b=>by simp[pre,di,Gd b]
 | .loop _ b=>by simp[pre,di,Gd b]
 | .scope b=>by simp[pre,di,Gd b]
 | .skip=>rfl
 | .label _=>rfl
 | .exit _=>rfl
 | .goto _=>rfl
 | .ret=>rfl
 | .stuck=>rfl
 | .region _=>rfl
 | .rangeFunc _ _=>rfl
def Vh(c:ai):∃l,pre c=c::l:=by cases c<;>exact⟨_,rfl⟩
def TE{α:Type}:∀(l:List α)(i:Nat),nth l i=l[i]?
 |[],i=>rfl
 |x::l,0=>rfl
 |x::l,i+1=>by rw[zq,<-TE l i];rfl
def Jp:∀(r:ai)(k:Nat)(c:ai),(pre r)[k]? = some c -> ∃l,(pre r).drop k=pre c++l:=by
 intro r
 induction r with
 |seq a b iha ihb =>
  intro k c h;cases k with
  |zero=>simp[pre]at h;subst h;exact⟨[],by simp⟩
  |succ k =>
   simp only[pre,oJ,zq]at h;simp only[pre,oJ,KI]
   by_cases hk:k<(pre a).length
   .rw [jd hk]at h;obtain⟨l,hl⟩:=iha k c h;exact⟨l++pre b,by rw[yn (by omega),hl,zm]⟩
   .rw [zh (by omega)]at h;obtain⟨l,hl⟩:=ihb _ c h;refine⟨l,?_⟩;rw[wv,je (by omega),zw,hl]
 |cond x a b iha ihb =>
  intro k c h;cases k with
  |zero=>simp[pre]at h;subst h;exact⟨[],by simp⟩
  |succ k =>
   simp only[pre,oJ,zq]at h;simp only[pre,oJ,KI]
   by_cases hk:k<(pre a).length
   .rw [jd hk]at h;obtain⟨l,hl⟩:=iha k c h;exact⟨l++pre b,by rw[yn (by omega),hl,zm]⟩
   .rw [zh (by omega)]at h;obtain⟨l,hl⟩:=ihb _ c h;refine⟨l,?_⟩;rw[wv,je (by omega),zw,hl]
 |block i b ih =>
  intro k c h;cases k with
  |zero=>simp[pre]at h;subst h;exact⟨[],by simp⟩
  |succ k=>simp only[pre,zq]at h;simpa only[pre,KI]using ih k c h
 |loop i b ih =>
  intro k c h;cases k with
  |zero=>simp[pre]at h;subst h;exact⟨[],by simp⟩
  |succ k=>simp only[pre,zq]at h;simpa only[pre,KI]using ih k c h
 |scope b ih =>
  intro k c h;cases k with
  |zero=>simp[pre]at h;subst h;exact⟨[],by simp⟩
  |succ k=>simp only[pre,zq]at h;simpa only[pre,KI]using ih k c h
 |_ =>
  intro k c h;cases k with
  |zero=>simp[pre]at h;subst h;exact⟨[],by simp[pre]⟩
  |succ k=>simp[pre]at h
def xat{r:ai}{k:Nat}{c:ai}(h:(pre r)[k]? = some c):part r k=c:=by
 unfold part;rw[TE,h]
def xas{r:ai}{k:Nat}{c:ai}(h:part r k=c)(m:c≠ .stuck):∀(j:Nat)(d:ai),(pre c)[j]? = some d->part r (k+j)=d:=λ j d f=>by
 have i:(pre r)[k]? = some c:=by
  unfold part at h;rw[TE]at h;cases g:(pre r)[k]? with
  |none=>rw[g]at h;exact(m h.symm).elim
  |some x=>rw[g]at h;exact congrArg some h
 obtain⟨l,hl⟩:=Jp r k c i;refine xat ?_;rw[<-yo,hl,jd (qk.1 f).1,f]
def Ba(c:ai):(pre c)[0]? = some c:=by obtain⟨l,h⟩:=Vh c;rw[h];rfl
def Gs{r:ai}{k:Nat}{c a b:ai}(h:part r k=c)(d:c≠ .stuck)(e:∃x l,pre c=x::(pre a++l)):part r (k+1)=a:=by
 obtain⟨x,l,e⟩:=e;obtain⟨f,e'⟩:=Vh a;exact xas h d 1 a (by rw[e,e'];rfl)
def My{r:ai}{k:Nat}{c a b:ai}(h:part r k=c)(d:c≠ .stuck)(e:∃x,pre c=x::(pre a++pre b)):part r (k+1+di a)=b:=by
 obtain⟨x,e⟩:=e;obtain⟨f,e'⟩:=Vh b;rw[vw];exact xas h d (1+di a) b (by rw[e,Nat.add_comm,zq,zh (by rw[Gd];exact qg _),Gd,Nat.sub_self,e'];rfl)
def U(M:ak)(ctx:Ctx)(K:Kp)(X:Nat->WX):ai->Nat->WX
 | .skip,_,g,Q,E,D,H=>pT g Q .normal E D H
 | .label _,_,g,Q,E,D,H=>pT g Q .normal E D H
 | .exit id,_,g,Q,E,D,H=>pT g Q (.exit id) E D H
 | .goto l,_,g,Q,E,D,H=>pT g Q (.goto l) E D H
 | .ret,_,g,Q,E,D,H=>pT g Q .ret E D H
 | .stuck,_,_,_,_,_,_=>False
 | .region l,_,g,Q,E,D,H=>qS M K.cR Q E D l g H λ g L _ H=>pT g Q .normal (du K.ah E L) D H
 | .seq a b,k,g,Q,E,D,H=>match a,b with
  | .region l,.cond c x y=>qS M K.cR Q E D l g H λ g L R H=>CV E L R c g λ g v=>mH g v (λ g=>(Bool.rec (motive:=λ _=>WX) (U M ctx K X x (k+3)) (X (k+3)) (bC (k+3) K.named)) g Q (du K.ah E L) D H) (λ g=>(Bool.rec (motive:=λ _=>WX) (U M ctx K X y (k+3+di x)) (X (k+3+di x)) (bC (k+3+di x) K.named)) g Q (du K.ah E L) D H)
  | .region l,.seq (.cond c x y) r=>qS M K.cR Q E D l g H λ g L R H=>CV E L R c g λ g v=>mH g v (λ g=>(Bool.rec (motive:=λ _=>WX) (U M ctx K X x (k+4)) (X (k+4)) (bC (k+4) K.named)) g (eP (Bool.rec (motive:=λ _=>WX) (U M ctx K X r (k+4+di x+di y)) (X (k+4+di x+di y)) (bC (k+4+di x+di y) K.named)) Q) (du K.ah E L) D H)
   (λ g=>(Bool.rec (motive:=λ _=>WX) (U M ctx K X y (k+4+di x)) (X (k+4+di x)) (bC (k+4+di x) K.named)) g (eP (Bool.rec (motive:=λ _=>WX) (U M ctx K X r (k+4+di x+di y)) (X (k+4+di x+di y)) (bC (k+4+di x+di y) K.named)) Q) (du K.ah E L) D H)
  | .region l,b=>qS M K.cR Q E D l g H λ g L _ H=>(Bool.rec (motive:=λ _=>WX) (U M ctx K X b (k+2)) (X (k+2)) (bC (k+2) K.named)) g Q (du K.ah E L) D H
  |a,b=>(Bool.rec (motive:=λ _=>WX) (U M ctx K X a (k+1)) (X (k+1)) (bC (k+1) K.named)) g (eP (Bool.rec (motive:=λ _=>WX) (U M ctx K X b (k+1+di a)) (X (k+1+di a)) (bC (k+1+di a) K.named)) Q) E D H
 | .cond c x y,k,g,Q,E,D,H=>OV E c g λ g v=>mH g v (λ g=>(Bool.rec (motive:=λ _=>WX) (U M ctx K X x (k+1)) (X (k+1)) (bC (k+1) K.named)) g Q E D H) (λ g=>(Bool.rec (motive:=λ _=>WX) (U M ctx K X y (k+1+di x)) (X (k+1+di x)) (bC (k+1+di x) K.named)) g Q E D H)
 | .block id b,k,g,Q,E,D,H=>(Bool.rec (motive:=λ _=>WX) (U M ctx K X b (k+1)) (X (k+1)) (bC (k+1) K.named)) g (eM id Q) E D H
 | .scope b,k,g,Q,E,D,H=>(Bool.rec (motive:=λ _=>WX) (U M ctx K X b (k+1)) (X (k+1)) (bC (k+1) K.named)) g (jR b Q) E D H
 | .loop (some _) _,_,_,_,_,_,_=>False
 | .loop none b,k,g,Q,E,D,H=>de (Bool.rec (motive:=λ _=>WX) (U M ctx K X b (k+1)) (X (k+1)) (bC (k+1) K.named)) Q E D H
 | .rangeFunc f n,_,g,Q,E,D,H=>OV E f g λ g v=>jB M K.ah ctx n E D H Q v
def Xr(r:ai):∀(n:Nat)(c:ai),di c<=n -> ∀k,part r k=c->U M ctx K (λ j=>W3 M ctx K (part r j)) c k=W3 M ctx K c:=by
 intro n
 induction n with
 |zero=>intro c h;cases c<;>simp[di]at h
 |succ n ih =>
  intro c h k hk;have sub:∀(d:ai)(j:Nat),di d<=n->part r j=d->Bool.rec (motive:=λ _=>WX) (U M ctx K (λ j=>W3 M ctx K (part r j)) d j) (W3 M ctx K (part r j)) (bC j K.named)=W3 M ctx K d:=λ d j w u=>by
   cases bC j K.named with
   |true=>show W3 M ctx K (part r j)=_;rw[u]
   |false=>exact ih d w j u
  have pl:=@Gs r;have F:=@My r;cases c with
  |seq a b =>
   have e:pre (.seq a b)=.seq a b::(pre a++pre b):=by simp[pre,oJ]
   have ha:=Gs (b:=b) hk (by simp) ⟨_,_,e⟩;have hb:=My hk (by simp) ⟨_,e⟩;have hs:di a+di b<=n:=by simp only[di]at h;omega
   have gen:(Bool.rec (motive:=λ _=>WX) (U M ctx K (λ j=>W3 M ctx K (part r j)) a (k+1)) (W3 M ctx K (part r (k+1))) (bC (k+1) K.named))=W3 M ctx K a/\(Bool.rec (motive:=λ _=>WX) (U M ctx K (λ j=>W3 M ctx K (part r j)) b (k+1+di a)) (W3 M ctx K (part r (k+1+di a))) (bC (k+1+di a) K.named))=W3 M ctx K b :=
    ⟨sub a _ (by omega) ha,sub b _ (by omega) hb⟩
   cases a with
   |region l =>
    have plain:(Bool.rec (motive:=λ _=>WX) (U M ctx K (λ j=>W3 M ctx K (part r j)) b (k+2)) (W3 M ctx K (part r (k+2))) (bC (k+2) K.named))=W3 M ctx K b:=sub b _ (by omega) hb;cases b with
    |cond c x y =>
     have f:pre (.cond c x y)=.cond c x y::(pre x++pre y):=by simp[pre,oJ]
     have o:=Gs (b:=y) hb (by simp) ⟨_,_,f⟩;have s:=My hb (by simp) ⟨_,f⟩;have p:di x+di y+1<=n:=by simp only[di]at hs;omega
     have s1:=sub x (k+3) (by omega) o;have s2:=sub y (k+3+di x) (by omega) s;funext g Q E D H;simp only[U,W3,s1,s2]
    |seq b1 q =>
     cases b1 with
     |cond c x y =>
      have t:pre (.seq (.cond c x y) q)=.seq (.cond c x y) q::(pre (.cond c x y)++pre q):=by simp[pre,oJ]
      have f:pre (.cond c x y)=.cond c x y::(pre x++pre y):=by simp[pre,oJ]
      have m:=Gs (b:=q) hb (by simp) ⟨_,_,t⟩;have z:=My hb (by simp) ⟨_,t⟩;have o:=Gs (b:=y) m (by simp) ⟨_,_,f⟩;have s:=My m (by simp) ⟨_,f⟩;have p:di x+di y+1+di q+1<=n:=by simp only[di]at hs;omega
      have s1:=sub x (k+4) (by omega) o;have s2:=sub y (k+4+di x) (by omega) s;have C:=sub q (k+4+di x+di y) (by omega) (by rw[<-z];simp only[di];congr 1;omega);funext g Q E D H;simp only[U,W3,s1,s2,C]
     |_=>funext g Q E D H;simp only[U,W3]at plain⊢;simp only[plain]
    |_=>funext g Q E D H;simp only[U,W3]at plain⊢;simp only[plain]
   |_=>funext g Q E D H;simp only[U,W3]at gen⊢;simp only[gen.1,gen.2]
  |cond c x y =>
   have f:pre (.cond c x y)=.cond c x y::(pre x++pre y):=by simp[pre,oJ]
   have o:=Gs (b:=y) hk (by simp) ⟨_,_,f⟩;have s:=My hk (by simp) ⟨_,f⟩;have p:di x+di y<=n:=by simp only[di]at h;omega
   have s1:=sub x (k+1) (by omega) o;have s2:=sub y (k+1+di x) (by omega) s;funext g Q E D H;simp only[U,W3,s1,s2]
  |block i b =>
   have s1:=sub b (k+1) (by simp only[di]at h;omega) (Gs (b:=b) hk (by simp) ⟨.block i b,[],by simp[pre]⟩);funext g Q E D H;simp only[U,W3,s1]
  |scope b =>
   have s1:=sub b (k+1) (by simp only[di]at h;omega) (Gs (b:=b) hk (by simp) ⟨.scope b,[],by simp[pre]⟩);funext g Q E D H;simp only[U,W3,s1]
  |loop i b =>
   have s1:=sub b (k+1) (by simp only[di]at h;omega) (Gs (b:=b) hk (by simp) ⟨.loop i b,[],by simp[pre]⟩);funext g Q E D H;cases i with
   |none=>simp only[U,W3,s1]
   |some _=>rfl
  |_=>funext g Q E D H;rfl
def Ph:∃F:ak->Ctx->Kp×ai->WX,F=λ M ctx p=>W3 M ctx p.1 p.2:=⟨_,rfl⟩
def W:ak->Ctx->Kp×ai->WX:=Classical.choose Ph
def kR(M:ak)(ctx:Ctx)(p:Kp×ai):W M ctx p=W3 M ctx p.1 p.2:=congrFun (congrFun (congrFun (Classical.choose_spec Ph) M) ctx) p
def funcAt(P:Program)(n:Nat):cj:=Option.rec (motive:=λ _=>cj) ⟨[],.stuck,[]⟩ (λ f=>f) ((aV P).func n)
def jO(F:cj)(i:Nat):dZ:=Option.rec (motive:=λ _=>dZ) ⟨[],.stuck,.stuck⟩ (λ l=>l) (nth F.loops i)
def Dj{M:ak}{ctx:Ctx}{K:Kp}{r:ai}{k:Nat}{g:Bool}{Q:aF}{E:Env}{D:List aM}{H:ar}{R:Prop}(h:U M ctx K (λ j=>W M ctx (K,part r j)) (part r k) k g Q E D H=R):W M ctx (K,part r k) g Q E D H=R:=by
 rw[<-h];have e:(λ j=>W M ctx (K,part r j))=λ j=>W3 M ctx K (part r j):=by funext j;exact kR ..
 rw[e,Xr (M:=M) (ctx:=ctx) (K:=K) r _ (part r k) (qg _) k rfl,kR]
abbrev uu:AV:=.undef
def Sg(c:ai):part c 0=c:=xat (Ba c)
def xeu{α β:Type}{a b:α}{x y:β}(h:(a,x)=(b,y)):a=b/\x=y:=by injection h with c d;exact⟨c,d⟩
def Of{M:ak}{f:Nat}{fn:cj}(o:M.func f=some fn){ks:Kp}{vs:List AV}(hk:i7 0 vs.length ks.ah=true){H:ar}{Q:bE->ar->Prop}
 (h:W M ⟨none,f⟩ (ks,part fn.body 0) true (fj M fn.results Q) (jT 0 vs) [] H):D4 M f vs H Q:=by
 rw[kR,Sg]at h;refine qp o (pF (W3.wp (eR fn.body) fn.body (qg _) (up:=none) h (VU hk)) λ e st⟨g,i,l,d⟩=>?_);obtain⟨tm,D,up,H'⟩:=st;have g:up=none:=g;subst g;have mono:∀{m:Option aE},mB M fn.results i Q D m H'->yF M fn.results tm (λ e H=>(none:Option aE)=none/\Q e H) D m H':=λ{m}h=>by
  have j:mB M fn.results i (λ e H=>(none:Option aE)=none/\Q e H) D m H':=by
   have e:(λ e H=>(none:Option aE)=none/\Q e H)=Q:=by funext e H;simp
   rw[e];exact h
  exact mB.Rl l j
 cases e with
 |normal=>exact mono d
 |ret=>exact mono d
 |panic c=>exact mono d
 |exit _=>exact d.elim
 |goto _=>exact d.elim
section
variable(E:Env)(H:ar)(K:Bool->AV->Prop)(K2:Bool->AV->ar->Prop)(A B:Bool->Prop)
def Lz(E:Env)(n:Nat)(K:Bool->AV->Prop):Prop:=LK true (lk E n) K
def Ly(g:Bool)(E:Env)(n:Nat)(K:Bool->AV->Prop):Prop:=LK g (lk E n) K
def Fl(g:Bool)(i:Nat)(a:AV)(H:ar)(K:Bool->AV->Prop):Prop:=B3 g (Op.fieldAddr i [a]) λ g x=>B3 g (Op.ae [x] H) K
def Nf(g:Bool)(i:Nat)(a:AV)(H:ar)(K:Bool->AV->Prop):Prop:=B3 g (Op.nilCheck [a]) λ g x=>Fl g i x H K
def Fs(g:Bool)(i:Nat)(a b:AV)(H:ar)(K:Bool->AV->ar->Prop):Prop:=B3 g (Op.fieldAddr i [a]) λ g x=>iS g (Op.store 1 [x,b] H) K
def Ns(g:Bool)(i:Nat)(a b:AV)(H:ar)(K:Bool->AV->ar->Prop):Prop:=B3 g (Op.nilCheck [a]) λ g x=>Fs g i x b H K
def Xl(g:Bool)(a b:AV)(H:ar)(K:Bool->AV->Prop):Prop:=B3 g (Op.aO 1 [a,b]) λ g x=>B3 g (Op.ae [x] H) K
def Xs(g:Bool)(a b c:AV)(H:ar)(K:Bool->AV->ar->Prop):Prop:=B3 g (Op.aO 1 [a,b]) λ g x=>iS g (Op.store 1 [x,c] H) K
def Bn(g:Bool)(o:BinOp)(a b:AV)(K:Bool->AV->Prop):Prop:=B3 g (Op.bin o [a,b]) K
def Cb(g:Bool)(o:BinOp)(a b:AV)(A B:Bool->Prop):Prop:=B3 g (Op.bin o [a,b]) λ g v=>mH g v A B
def Gt(g:Bool)(M:ak)(c:Ctx)(p:Kp×ai)(Q:aF)(E:Env)(D:List aM)(H:ar):Prop:=pT g (eP (W M c p) Q) .normal E D H
def XB(n:Nat):Lz E n K=LK true (lk E n) K:=propext jx
def Td(n:Nat):Ly true E n K=LK true (lk E n) K:=propext jx
def S0(i:Nat)(a:AV):Fl true i a H K=B3 true (Op.fieldAddr i [a]) λ g x=>B3 g (Op.ae [x] H) K:=propext jx
def Xq(i:Nat)(a:AV):Nf true i a H K=B3 true (Op.nilCheck [a]) λ g x=>Fl g i x H K:=propext jx
def Tf(i:Nat)(a b:AV):Fs true i a b H K2=B3 true (Op.fieldAddr i [a]) λ g x=>iS g (Op.store 1 [x,b] H) K2:=propext jx
def XV(i:Nat)(a b:AV):Ns true i a b H K2=B3 true (Op.nilCheck [a]) λ g x=>Fs g i x b H K2:=propext jx
def Vm(a b:AV):Xl true a b H K=B3 true (Op.aO 1 [a,b]) λ g x=>B3 g (Op.ae [x] H) K:=propext jx
def VA(a b c:AV):Xs true a b c H K2=B3 true (Op.aO 1 [a,b]) λ g x=>iS g (Op.store 1 [x,c] H) K2:=propext jx
def XK(o:BinOp)(a b:AV):Bn true o a b K=B3 true (Op.bin o [a,b]) K:=propext jx
def WB(o:BinOp)(a b:AV):Cb true o a b A B=B3 true (Op.bin o [a,b]) λ g v=>mH g v A B:=propext jx
def Xc(M:ak)(c:Ctx)(p:Kp×ai)(Q:aF)(D:List aM):Gt true M c p Q E D H=pT true (eP (W M c p) Q) .normal E D H:=propext jx
end
end
end Go.Am
namespace Go.Am
end Go.Am
namespace Go.Am
section
variable{M:ak}{ctx:Ctx}{cR:Bool}{Q Q':aF}{E:Env}{D:List aM}
def QO{α:Type}{m:Bool}{o:Option α}{K K':Bool -> α->Prop}(h:B3 m o K)(hk:∀a,K m a->K' m a):B3 m o K':=by
 cases o with
 |none=>exact h
 |some a=>exact hk a h
def YU{α β:Type}{m:Bool}{o:Option (α×β)}{K K':Bool -> α -> β->Prop}(h:iS m o K)(hk:∀a b,K m a b->K' m a b):iS m o K':=by
 cases o with
 |none=>exact h
 |some a=>exact hk a.1 a.2 h
def ZK{α:Type}{m:Bool}{o:Option α}{K K':Bool -> α->Prop}(h:LK m o K)(hk:∀a,K m a->K' m a):LK m o K':=by
 cases o with
 |none=>exact h
 |some a=>exact hk a h
def ZY{m:Bool}{v:AV}{A B c d:Bool->Prop}(h:mH m v A B)(ha:A m->c m)(hb:B m->d m):mH m v c d:=by
 obtain⟨q,rfl,h⟩:=h.elim;cases q with
 |true=>exact ha h
 |false=>exact hb h
def U5{L R:Env}{t:Nat}{g:Bool}{K K':Bool->Env->AV->Prop}(h:TV E L R t g K)(hk:∀R v,K g R v->K' g R v):TV E L R t g K':=by
 unfold TV at h⊢;cases hl:lk L t with
 |some v=>rw[hl]at h;exact hk _ _ h
 |none =>
  rw[hl]at h;cases c:lk R t with
  |some v=>rw[c]at h;exact hk _ _ h
  |none=>rw[c]at h;exact ZK h λ v q=>hk _ _ q
def iu{x:bI}{g:Bool}{K K':Bool->AV->Prop}(h:OV E x g K)(hk:∀v,K g v->K' g v):OV E x g K':=by
 cases x with
 |tmp t=>simp only[OV]at h⊢;exact ZK h hk
 |const v=>exact hk _ h
 |d8 b=>exact hk _ h
 |func f=>exact hk _ h
def Fh{L R:Env}{x:bI}{g:Bool}{K K':Bool->AV->Prop}(h:CV E L R x g K)(hk:∀v,K g v->K' g v):CV E L R x g K':=by
 cases x with
 |tmp t=>simp only[CV]at h⊢;exact U5 h λ _ v=>hk v
 |const v=>exact hk _ h
 |d8 b=>exact hk _ h
 |func f=>exact hk _ h
def N1{L:Env}{g:Bool}:∀{l:List bI}{R:Env}{K K':Bool->Env->List AV->Prop},vP E L l g R K->(∀R vs,K g R vs->K' g R vs)->vP E L l g R K'
 |[],R,K,K',h,hk=>hk _ _ h
 | .tmp t::xs,R,K,K',h,hk=>U5 (K:=λ g R v=>vP E L xs g R λ g R vs=>K g R (v::vs)) (K':=λ g R v=>vP E L xs g R λ g R vs=>K' g R (v::vs)) h λ R v q=>N1 (K:=λ g R vs=>K g R (v::vs)) (K':=λ g R vs=>K' g R (v::vs)) q λ R vs=>hk _ _
 | .const v::xs,R,K,K',h,hk=>N1 (l:=xs) (K:=λ g R vs=>K g R (v::vs)) (K':=λ g R vs=>K' g R (v::vs)) h λ R vs=>hk _ _
 | .d8 v::xs,R,K,K',h,hk=>N1 (l:=xs) (K:=λ g R vs=>K g R (.ptr v 0::vs)) (K':=λ g R vs=>K' g R (.ptr v 0::vs)) h λ R vs=>hk _ _
 | .func v::xs,R,K,K',h,hk=>N1 (l:=xs) (K:=λ g R vs=>K g R (.fn (.func v) [] []::vs)) (K':=λ g R vs=>K' g R (.fn (.func v) [] []::vs)) h λ R vs=>hk _ _
def xhq(f:∀e E D H,Q e E D H->Q' e E D H){d:Option (List Nat)}{ks:List Nat}{c:aE}{H:ar}(h:PX d ks Q E D c H):PX d ks Q' E D c H:=by
 cases d with
 |none=>exact h
 |some _=>exact f _ _ _ _ h
def Rm(l:∀e E D H,Q e E D H->Q' e E D H){j:Option (List Nat)}{L:Env}{g:Bool}{f:lJ}{vs:List AV}{H:ar}{K K':Bool->AV->ar->Prop}(h:DJ M cR j L Q E D g f vs H K)(hk:∀v H,K g v H->K' g v H):DJ M cR j L Q' E D g f vs H K':=by
 cases cR with
 |false=>obtain⟨v,H',i,d⟩:=h;exact⟨v,H',i,hk _ _ d⟩
 |true =>
  obtain⟨e,H',i,d⟩:=h;refine⟨e,H',i,?_⟩;cases e with
  |ret v=>exact hk _ _ d
  |panic c=>exact xhq l d
def Dm(c:∀e E D H,Q e E D H->Q' e E D H){s:aN}{K K':KR}{g:Bool}{L R:Env}{H:ar}(h:Et M cR s Q E D K g L R H)(hk:∀L R H,K g L R H->K' g L R H):Et M cR s Q' E D K' g L R H:=by
 refine N1 (show vP E L s.args g R _ from h) λ R vs h=>?_;obtain⟨gW,dst,guard,args,op,i⟩:=s;cases gW with
 |true =>
  have h:Rh dst E L R H K g vs op:=h;show Rh dst E L R H K' g vs op;cases op with
  |read f =>
   cases dst with
   |none=>exact h
   |some d=>exact⟨h.1,hk _ _ _ h.2⟩
  |_=>exact h
 |false =>
  have h:ud M cR dst i Q E D L R H K g vs op:=h;show ud M cR dst i Q' E D L R H K' g vs op;cases op with
  |pure f=>simp only[ud]at h⊢;exact QO h λ a=>hk _ _ _
  |read f=>simp only[ud]at h⊢;exact QO h λ a=>hk _ _ _
  |alloc f=>simp only[ud]at h⊢;exact YU h λ a b=>hk _ _ _
  |gJ f=>simp only[ud]at h⊢;exact YU h λ a b=>hk _ _ _
  |gY f=>exact Rm c h λ v H=>hk _ _ _
  |gS =>
   simp only[ud,V3]at h⊢;split at h
   .exact Rm c h λ v H=>hk _ _ _
   .exact Rm c h λ v H=>hk _ _ _
   .exact h.elim
  |invoke n =>
   simp only[ud,N3]at h⊢;split at h
   .exact QO h λ a q=>Rm c q λ v H=>hk _ _ _
   .exact h.elim
  |recover=>exact h
  |defer=>exact h
  |panic =>
   cases cR with
   |false=>exact h
   |true =>
    have h:fZ vs H (PX i (kQ L) Q E D):=h;show fZ vs H (PX i (kQ L) Q' E D);unfold fZ at h⊢;split at h
    .exact xhq c h
    .exact h.elim
def SZ(c:∀e E D H,Q e E D H->Q' e E D H){K K':KR}{g:Bool}(hk:∀L R H,K g L R H->K' g L R H):∀{l:List aN}{L R:Env}{H:ar},pB M cR Q E D K l g L R H->pB M cR Q' E D K' l g L R H
 |[],L,R,H,h=>hk _ _ _ h
 |s::l,L,R,H,h=>Dm c (show Et M cR s Q E D (pB M cR Q E D K l) g L R H from h) λ L R H=>SZ c hk
def Xe:∀(n:Nat){f f':List AV->ar->Prop},(∀vs H,f vs H->f' vs H) -> ∀(l:List AV)(H:ar),py n (pY n f) l H->py n (pY n f') l H
 |0,f,f',hf,l,H,h=>hf [] H h
 |n+1,f,f',hf,[],H,h=>h
 |n+1,f,f',hf,v::l,H,h=>Xe n (f:=λ l=>f (v::l)) (f':=λ l=>f' (v::l)) (λ vs H=>hf _ _) l H h
def C7(f:∀e E D H,Q e E D H->Q' e E D H){x:Ed}{K K':KR}{g:Bool}(hk:∀L R H,K g L R H->K' g L R H){L R:Env}{H:ar}(h:Nm M cR Q E D x K g L R H):Nm M cR Q' E D x K' g L R H:=by
 obtain⟨q,l⟩:=x;cases q with
 |none=>exact SZ f hk (show pB M cR Q E D K l g L R H from h)
 |some q =>
  cases ho:ue q.1 l with
  |false =>
   have h:cond (ue q.1 l) _ False:=h;rw[ho]at h;exact h.elim
  |true =>
   have h:cond (ue q.1 l) _ False:=h;rw[ho,xm]at h;show cond (ue q.1 l) _ False;rw[ho,xm];refine U5 h λ c v h=>?_;have h:B3 g (cN q.2 (some v)) λ g w=>uF g w (λ g=>pB M cR Q E D (λ g d _ H=>py (cQ (bn l [])) (pY (cQ (bn l [])) λ vs H=>K g (kK (bn l []) L vs) c H) (qH (cQ (bn l [])) d) H) l g L c H)
    (λ g=>py (cQ (bn l [])) (pY (cQ (bn l [])) λ vs H=>K g (kK (bn l []) L vs) c H) (rz (cQ (bn l []))) H):=h
   refine QO (K':=λ g w=>uF g w (λ g=>pB M cR Q' E D (λ g d _ H=>py (cQ (bn l [])) (pY (cQ (bn l [])) λ vs H=>K' g (kK (bn l []) L vs) c H) (qH (cQ (bn l [])) d) H) l g L c H)
    (λ g=>py (cQ (bn l [])) (pY (cQ (bn l [])) λ vs H=>K' g (kK (bn l []) L vs) c H) (rz (cQ (bn l []))) H)) h λ w h=>?_
   cases w with
   |true=>exact SZ f (λ d R H h=>Xe _ (λ vs H=>hk _ _ _) _ _ h) (show pB M cR Q E D _ l g L c H from h)
   |false=>exact Xe _ (λ vs H=>hk _ _ _) _ _ h
def RC(c:∀e E D H,Q e E D H->Q' e E D H){l:List aN}{K K':KR}{g:Bool}(hk:∀L R H,K g L R H->K' g L R H){H:ar}(h:qS M cR Q E D l g H K):qS M cR Q' E D l g H K':=by
 unfold qS at h⊢;generalize Hn l=gs at h⊢;generalize([]:Env)=L at h⊢;have key:∀(gs:List Ed)(L R:Env)(H:ar),vQ M cR Q E D K gs g L R H->vQ M cR Q' E D K' gs g L R H:=by
  intro gs
  induction gs with
  |nil=>exact λ L R H h=>hk _ _ _ h
  |cons x gs ih=>exact λ L R H h=>C7 c ih (show Nm M cR Q E D x (vQ M cR Q E D K gs) g L R H from h)
 exact key gs L L H h
def Hj{K:Kp}:∀(n:Nat)(c:ai),eR c<=n -> ∀{g:Bool}{Q Q':aF}{E:Env}{D:List aM}{H:ar},(∀e E D H,Q e E D H->Q' e E D H)->W3 M ctx K c g Q E D H->W3 M ctx K c g Q' E D H:=by
 intro n
 induction n with
 |zero =>
  intro c j g Q Q' E D H i h;cases c with
  |region l=>exact RC i (λ L R H h=>i _ _ _ _ h) h
  |rangeFunc f k =>
   have h:OV E f g λ g v=>jB M K.ah ctx k E D H Q v:=h;show OV E f g λ g v=>jB M K.ah ctx k E D H Q' v;have key:∀v,jB M K.ah ctx k E D H Q v->jB M K.ah ctx k E D H Q' v:=λ v h tm up he=>by
    have:=h tm up he;unfold IF at this⊢;split
    .rename_i hr;rw[hr]at this;exact MV this λ e st⟨p,u,w⟩=>⟨p,u,i _ _ _ _ w⟩
    .rename_i l hr;rw[hr]at this;exact Eg (m:=aG) this λ d q=>MV q λ e st⟨p,u,w⟩=>⟨p,u,i _ _ _ _ w⟩
   exact iu h key
  |skip=>exact i _ _ _ _ h
  |label _=>exact i _ _ _ _ h
  |exit _=>exact i _ _ _ _ h
  |goto _=>exact i _ _ _ _ h
  |ret=>exact i _ _ _ _ h
  |stuck=>exact h
  |seq _ _=>simp[eR]at j
  |cond _ _ _=>simp[eR]at j
  |block _ _=>simp[eR]at j
  |loop _ _=>simp[eR]at j
  |scope _=>simp[eR]at j
 |succ n ih =>
  intro c j g Q Q' E D H i h;have C:∀{b:ai},eR b<=n -> ∀e E D H,eP (W3 M ctx K b) Q e E D H->eP (W3 M ctx K b) Q' e E D H:=λ hb e E D H h=>by
   cases e with
   |normal=>exact ih _ hb i h
   |_=>exact i _ _ _ _ h
  cases c with
  |seq a b =>
   have o:eR a+eR b<=n:=by simp only[eR]at j;omega
   have gen:W3 M ctx K a g (eP (W3 M ctx K b) Q) E D H->W3 M ctx K a g (eP (W3 M ctx K b) Q') E D H:=λ h=>ih a (by omega) (C (by omega)) h;cases a with
   |region l =>
    have plain:(qS M K.cR Q E D l g H λ g L _ H=>W3 M ctx K b g Q (du K.ah E L) D H)->qS M K.cR Q' E D l g H λ g L _ H=>W3 M ctx K b g Q' (du K.ah E L) D H:=λ h=>RC i (λ L R H h=>ih b (by omega) i h) h;have cv:∀{L R:Env}{c:bI}{A B s t:Bool->Prop},CV E L R c g (λ g v=>mH g v A B)->(A g->s g)->(B g->t g)->CV E L R c g (λ g v=>mH g v s t):=λ{L R c A B s t}h ha hb=>by
     exact Fh h λ v h=>ZY h ha hb
    cases b with
    |cond c x y =>
     have z:eR x+eR y+1<=n:=by simp only[eR]at o;omega
     exact RC i (λ L R H h=>cv h (ih x (by omega) i) (ih y (by omega) i)) h
    |seq b1 r =>
     cases b1 with
     |cond c x y =>
      have z:eR x+eR y+1+eR r+1<=n:=by simp only[eR]at o;omega
      exact RC i (λ L R H h=>cv h (ih x (by omega) (C (by omega))) (ih y (by omega) (C (by omega)))) h
     |_=>exact plain h
    |_=>exact plain h
   |_=>exact gen h
  |cond c x y =>
   have o:eR x+eR y<=n:=by simp only[eR]at j;omega
   have h:OV E c g λ g v=>mH g v (λ g=>W3 M ctx K x g Q E D H) (λ g=>W3 M ctx K y g Q E D H):=h;exact iu (K':=λ g v=>mH g v (λ g=>W3 M ctx K x g Q' E D H) (λ g=>W3 M ctx K y g Q' E D H)) h λ v h=>ZY h (ih x (by omega) i) (ih y (by omega) i)
  |block id b =>
   have hb:eR b<=n:=by simp only[eR]at j;omega
   exact ih b hb (λ e E D H h=>by cases e<;>exact i _ _ _ _ h) h
  |scope b =>
   have hb:eR b<=n:=by simp only[eR]at j;omega
   exact ih b hb (λ e E D H h=>by cases e<;>first|exact i _ _ _ _ h|exact⟨h.1,i _ _ _ _ h.2⟩) h
  |loop ah b =>
   have hb:eR b<=n:=by simp only[eR]at j;omega
   cases ah with
   |some _=>exact h
   |none =>
    obtain⟨I,F,p⟩:=h;exact⟨I,F,λ n E D H G=>ih b hb (λ e E D H h=>by cases e<;>first|exact h|exact i _ _ _ _ h) (p n E D H G)⟩
  |_=>exact ih _ (xy _) i h
end
def W.mono{M:ak}{ctx:Ctx}{p:Kp×ai}{g:Bool}{Q Q':aF}{E:Env}{D:List aM}{H:ar}(h:W M ctx p g Q E D H)(c:∀e E D H,Q e E D H->Q' e E D H):W M ctx p g Q' E D H:=by
 rw[kR]at h⊢;exact Hj _ p.2 (qg _) c h
end Go.Am
namespace Go.Am
universe u
noncomputable section
variable(X:WX)(Q:aF)(E:Env)(D:List aM)(H:ar)(I:KV)(n:Nat)
def xbo:eP X Q .normal E D H=X true Q E D H:=propext jx
def DD:eP X Q .ret E D H=Q .ret E D H:=propext jx
def xhr(l:Nat):eP X Q (.exit l) E D H=Q (.exit l) E D H:=propext jx
def xhs(l:Nat):eP X Q (.goto l) E D H=Q (.goto l) E D H:=propext jx
def xfj(c:aE):eP X Q (.panic c) E D H=Q (.panic c) E D H:=propext jx
def xbk(i:Nat):eM i Q .normal E D H=Q .normal E D H:=propext jx
def zR(i:Nat):eM i Q .ret E D H=Q .ret E D H:=propext jx
def xhe(i l:Nat):eM i Q (.goto l) E D H=Q (.goto l) E D H:=propext jx
def xe8(i:Nat)(c:aE):eM i Q (.panic c) E D H=Q (.panic c) E D H:=propext jx
def xhd(i l:Nat):eM i Q (.exit l) E D H=if i=l then Q .normal E D H else Q (.exit l) E D H:=by
 show Q (cond (Nat.beq i l) .normal (.exit l)) E D H=_
 by_cases h:i=l
 .subst h;simp
 .rw [qo h,KE h];rfl
section
variable(M:ak)(rs:List dX)(Q:bE->ar->Prop)(P:List AV->Prop)(R:AV->ar->Prop)
def Cx:fj M rs Q .ret E [] H=iQ E H rs λ l=>Q (.ret (iR l)) H:=propext jx
def xbn:fj M rs Q .normal E [] H=iQ E H rs λ l=>Q (.ret (iR l)) H:=propext jx
def xfd(c:aE):fj M rs Q (.panic c) E [] H=Q (.panic c) H:=propext jx
def DT:iQ E H [] P=P []:=propext jx
def DY(t:Nat):iQ E H (.tmp t::rs) P=LK true (lk E t) λ _ v=>iQ E H rs λ vs=>P (v::vs):=propext jx
def xfh(t:Nat):iQ E H (.kA t::rs) P=LK true (lk E t) λ _ v=>B3 true (Op.ae [v] H) λ _ v=>iQ E H rs λ vs=>P (v::vs):=propext jx
def xfi(n t:Nat):iQ E H (.cL n t::rs) P=LK true (lk E t) λ _ v=>B3 true (Op.aq n [v] H) λ _ v=>iQ E H rs λ vs=>P (v::vs):=propext jx
def EW(v:AV):ug R (.ret v) H=R v H:=propext jx
end
def HO:((0:Nat):Int)=0:=rfl
def zu(l:List AV):AV.cells (.agg l)=l:=rfl
def xid(k:IntKind)(n:Int):AV.cells (.int k n)=[.int k n]:=rfl
def xfr(b:Bool):AV.cells (.bool b)=[.bool b]:=rfl
def xig(s:List UInt8):AV.cells (.str s)=[.str s]:=rfl
def xif(b o:Nat):AV.cells (.ptr b o)=[.ptr b o]:=rfl
def L4(I:Nat->Env->ar->Prop)(D:List aM)(n:Nat)(Q:aF):aF:=λ e E D' H=>match e with
 | .normal=>D'=D /\ ∃m E',I m E' H/\uT E' E/\m<n
 |e=>Q e E D' H
def de.intro{M:ak}{ctx:Ctx}{p:Kp×ai}{Q:aF}{E:Env}{D:List aM}{H:ar}(I:Nat->Env->ar->Prop)(j:∃n d,I n d H/\uT d E)(h:∀n E H,I n E H->W M ctx p true (L4 I D n Q) E D H):de (W M ctx p) Q E D H:=by
 obtain⟨n,d,l,o⟩:=j;refine⟨λ n E D' H=>D'=D/\I n E H,⟨n,d,⟨rfl,l⟩,o.ss⟩,λ n E D' H⟨e,r⟩=>?_⟩;subst e;refine W.mono (h n E H r) λ e E g H f=>?_;cases e with
 |normal=>obtain⟨q,m,i,a,b,c⟩:=f;exact⟨m,i,⟨q,a⟩,b.ss,c⟩
 |_=>exact f
def Qg(P:Env->List aM->ar->Prop)(Q:aF):aF:=λ e E D H=>match e with
 | .normal=>P E D H
 |e=>Q e E D H
def xfe(P:Env->List aM->ar->Prop)(Q:aF)(E:Env)(D:List aM)(H:ar):Qg P Q .normal E D H=P E D H:=propext jx
def Fo(P:Env->List aM->ar->Prop)(Q:aF)(E:Env)(D:List aM)(H:ar):Qg P Q .ret E D H=Q .ret E D H:=propext jx
def BF(P:Env->List aM->ar->Prop)(Q:aF)(E:Env)(D:List aM)(H:ar)(l:Nat):Qg P Q (.exit l) E D H=Q (.exit l) E D H:=propext jx
def LN(X:WX)(Q:aF):Nat->Env->List aM->ar->Prop
 |0,_,_,_=>False
 |n+1,E,D,H=>X true (Qg (LN X Q n) Q) E D H
def FR(X:WX)(Q:aF)(n:Nat)(E:Env)(D:List aM)(H:ar):LN X Q (n+1) E D H=X true (Qg (LN X Q n) Q) E D H:=propext jx
def xff(I:Nat->Env->ar->Prop)(D:List aM)(n:Nat)(Q:aF)(E:Env)(H:ar):L4 I D n Q .normal E D H = ∃m c,I m c H/\uT c E/\m<n:=propext ⟨λ h=>h.2,λ h=>⟨rfl,h⟩⟩
def Gj(I:Nat->Env->ar->Prop)(D D':List aM)(n:Nat)(Q:aF)(E:Env)(H:ar):L4 I D n Q .ret E D' H=Q .ret E D' H:=propext jx
def BE(I:Nat->Env->ar->Prop)(D D':List aM)(n:Nat)(Q:aF)(E:Env)(H:ar)(l:Nat):L4 I D n Q (.exit l) E D' H=Q (.exit l) E D' H:=propext jx
def C4(I:Nat->Env->ar->Prop)(D D':List aM)(n:Nat)(Q:aF)(E:Env)(H:ar)(l:Nat):L4 I D n Q (.goto l) E D' H=Q (.goto l) E D' H:=propext jx
def xhn(I:Nat->Env->ar->Prop)(D D':List aM)(n:Nat)(Q:aF)(E:Env)(H:ar)(c:aE):L4 I D n Q (.panic c) E D' H=Q (.panic c) E D' H:=propext jx
def sw{α:Sort u}(b:Bool)(x y:α):α:=cond b x y
@[congr]def Ng{α:Sort u}{b c:Bool}{x y:α}(h:b=c):sw b x y=sw c x y:=by rw[h]
def Nn{α:Sort u}(x y:α):sw true x y=x:=rfl
def Oc{α:Sort u}(x y:α):sw false x y=y:=rfl
def ID{α:Sort u}(p:Prop)[Decidable p](x y:α):(if p then x else y)=sw (decide p) x y:=by by_cases h:p<;>simp[h,sw]
def Pn(k t:Nat)(v:AV)(E:Env):lk ((k,v)::E) t=sw (decide (k=t)) (some v) (lk E t):=(u5 ..).trans (ID ..)
def G8(Q:aF)(E:Env)(D:List aM)(H:ar)(i l:Nat):eM i Q (.exit l) E D H=sw (decide (i=l)) (Q .normal E D H) (Q (.exit l) E D H):=(xhd ..).trans (ID ..)
def Tq(α:Type)(h:Decidable True)(x y:α):@ite α True h x y=x:=qr trivial
def V8(α:Type)(h:Decidable False)(x y:α):@ite α False h x y=y:=qo id
def Ql(h:Decidable True)(x y:Prop):@ite Prop True h x y=x:=qr trivial
def Po(h:Decidable False)(x y:Prop):@ite Prop False h x y=y:=qo id
def OO:=And.intro @EP<|And.intro @G4<|And.intro @Ce<|And.intro Ar<|And.intro xhk<|And.intro AB<|And.intro xhl<|And.intro Ah<|And.intro Oq<|And.intro @Io<|And.intro AX <|
 And.intro FF<|And.intro Bg<|And.intro Bw<|And.intro Pn<|And.intro Cj<|And.intro Aw<|And.intro GJ <|
 And.intro xbo<|And.intro DD<|And.intro xhr<|And.intro xhs<|And.intro xfj<|And.intro xbk<|And.intro zR<|And.intro xhe<|And.intro xe8<|And.intro G8 <|
 And.intro xfe<|And.intro Fo<|And.intro BF<|And.intro FR<|And.intro xff<|And.intro Gj<|And.intro BE<|And.intro C4<|And.intro xhn<|And.intro Cx<|And.intro xbn<|And.intro xfd<|And.intro DT<|And.intro DY<|And.intro xfh<|And.intro xfi <|
 And.intro EW<|And.intro XB<|And.intro Td<|And.intro S0<|And.intro Xq<|And.intro Tf<|And.intro XV<|And.intro Vm<|And.intro VA<|And.intro XK<|And.intro WB<|And.intro Xc<|And.intro Xz<|And.intro WO WW
def O9:=And.intro Tq<|And.intro V8<|And.intro Ql<|And.intro Po<|And.intro @Nn.{1}<|And.intro @Oc.{1}<|And.intro @Nn.{0}<|And.intro @Oc.{0}<|And.intro KH<|And.intro Kz<|And.intro @Pb<|And.intro @NV<|And.intro @OT<|And.intro @Od<|And.intro @OY<|And.intro @NN<|And.intro @PJ<|And.intro @Qm<|And.intro @Nw<|And.intro @Lk<|And.intro Nr <|
 And.intro Ku<|And.intro Lb<|And.intro Aq<|And.intro BD<|And.intro xjz<|And.intro xcx<|And.intro CB<|And.intro Kq<|And.intro Fb<|And.intro Fm<|And.intro Qr <|
 And.intro zu<|And.intro xid<|And.intro xfr<|And.intro xig<|And.intro xif<|And.intro @decide_true<|And.intro @JK<|And.intro Bool.not_true<|And.intro Bool.not_false<|And.intro not_true_eq_false<|And.intro not_false_eq_true<|And.intro @ne_eq.{1}<|And.intro B0<|And.intro rk<|And.intro false_and<|And.intro and_false <|
 And.intro @xm.{1}<|And.intro @zj.{1}<|And.intro @qm.{0,0}<|And.intro vf<|And.intro jy<|And.intro @jm.{0}<|And.intro @zq.{0}<|And.intro @zw.{0} @Ht.{0}
def PZ:type_of% HO/\type_of% OO/\type_of% O9:=⟨HO,OO,O9⟩
section
variable{α:Type}{enc:α->List AV}{e size:Nat}{H0 H H':ar}{v:AV}{xs:List α}
def sF.to3{α β:Type}{m g:Bool}{o:Option (α×β)}{K:Bool -> α -> β->Prop}(h:sF m o λ _ a b=>K g a b):iS g o K:=by
 cases o with
 |none=>exact False.elim h
 |some a=>exact h
def xdv{H:ar}{e size bytes:Nat}{v:AV}{n:Nat}{cells:List AV}(h:Own H e size v n cells){x:AV}{k:Nat}{new:List AV}(i:Sl H size x k new)(c:aJ new=true)(hs:0<size)
 (g:(n+k)*bytes<=140737488355328) (d:n+k<=140737488355328) {K:Bool->AV->ar->Prop} {m:Bool}
 (hk:∀f H',Own H' e size f (n+k) (cells++new)->Fr (aW v) H H'->(∀b,aW f b->aW v b\/H.au<=b)->K m f H'):iS m (Op.append e size bytes [v,x] H) K :=
 sF.to3 (m:=m) (Yw h i c hs g d hk)
def mK{H:ar}{e size bytes:Nat}{v:AV}{n:Nat}{cells:List AV}(h:Own H e size v n cells){zero:List AV}{x:AV}(q:zero.length=size)(p:x.cells.length=size)(c:aJ x.cells=true)(hs:0<size)
 (l:(n+1)*bytes<=140737488355328) (f:n+1<=140737488355328) {K:bH->(Nat->AV)->Bool->AV->ar->Prop} {m:Bool}
 (hk:∀i H',Own H' e size i (n+1) (cells++x.cells)->Fr (aW v) H H'->(∀b,aW i b->aW v b\/H.au<=b)->K (.row x.cells e (0,0) true) (Op.sliceTo 1 1) m i H') :
 iS m (Op.buildSlice e 1 zero [(0,size)] [x]) λ g o mk=>iS g (Op.append e size bytes [v,mk H.au] (H.alloc o)) (K o mk):=by
 have:=Fw (m:=m) h q p c hs l f (K:=λ o mk _ v H=>K o mk m v H) hk;obtain⟨o,mk,j,d⟩:∃o mk,Op.buildSlice e 1 zero [(0,size)] [x]=some (o,mk)/\sF true (Op.append e size bytes [v,mk H.au] (H.alloc o)) (λ _ v H=>K o mk m v H):=by
  unfold sF at this;split at this
  .rename_i a ha;exact⟨a.1,a.2,ha,this⟩
  .exact this.elim
 refine iS.intro j ?_;unfold sF at d;split at d
 .rename_i a ha;exact iS.intro (a:=a.1) (b:=a.2) ha d
 .exact d.elim
end
end
def qn(b o:Nat):Op.nilCheck [.ptr b o]=some (.ptr b o):=rfl
def xe(i:Nat)(l:List AV):Op.extract i [.tuple l]=l[i]?:=xjx i l
end Go.Am
namespace Go.Am
def Iu:List bI->Option Nat
 |[.tmp t]=>some t
 |_=>none
def JS(s:aN):Option Nat:=match s.op,s.gW,s.guard,s.dst with
 | .defer,false,none,none=>Iu s.args
 |_,_,_,_=>none
def FG:List aN->Option (List aN×Nat×List aN)
 |[]=>none
 |s::r=>match JS s with
  |some t=>some ([],t,r)
  |none=>(FG r).map λ q=>(s::q.1,q.2.1,q.2.2)
def rp:ai->Option (ai×Nat×ai)
 | .region l=>(FG l).map λ q=>(.region q.1,q.2.1,.region q.2.2)
 | .seq a b=>match rp a with
  |some q=>some (q.1,q.2.1,.seq q.2.2 b)
  |none=>(rp b).map λ q=>(.seq a q.1,q.2.1,q.2.2)
 |_=>none
noncomputable def xL(c:ai):ai:=Option.rec (motive:=λ _=>ai) .stuck (λ q=>q.1) (rp c)
noncomputable def vD(c:ai):ai:=Option.rec (motive:=λ _=>ai) .stuck (λ q=>q.2.2) (rp c)
section
variable{M:ak}{ctx:Ctx}
def DX(W:St->cB->Prop)(t:Nat)(st:St)(Q:cB):Prop:=∃g first cap,st.tm.get t=some (.fn (.func g) first cap)/\W ⟨st.tm,.fn (.func g) (first++cap)::st.aX,st.up,st.H⟩ Q
def zI{s:aN}{st:St}{Q Q':cB}{K:St->Prop}(h:∀c st,Q (.panic c) st=Q' (.panic c) st):qQ M ctx s st Q K=qQ M ctx s st Q' K:=by
 have e:∀d tm aX up,yO d tm aX up Q=yO d tm aX up Q':=λ d tm aX up=>by
  funext c H;cases d with
  |none=>rfl
  |some ds=>exact h _ _
 have o:∀dst d vs op,nZ M ctx dst d st Q K vs op=nZ M ctx dst d st Q' K vs op:=λ dst d vs op=>by
  cases op<;>simp only[nZ,e]
 unfold qQ;simp only[o]
def xij(hr:ctx.round=none):∀{l l1 l2:List aN}{t:Nat},FG l=some (l1,t,l2) -> ∀{st:St}{Q:cB},nJ M ctx l1 st (B7 (DX (nJ M ctx l2) t) Q)->nJ M ctx l st Q
 |s::r,l1,l2,t,h,st,Q,w=>by
  unfold FG at h;cases c:JS s with
  |some t' =>
   rw[c]at h;injection h with h;injection h with o h;injection h with p x
   subst o;subst p;subst x;obtain⟨gW,dst,guard,args,op,z⟩:=s;unfold JS at c;split at c
   .rename_i f i j u;subst f;subst i;subst j;subst u;unfold Iu at c;split at c
    .rename_i e;simp only at e;subst e;injection c with c;subst c
     obtain⟨g,first,cap,o,p⟩:=w;exact bM.intro (m:=aG) o ⟨hr,p⟩
    .cases c
   .cases c
  |none =>
   rw[c]at h;obtain⟨q,y,e⟩:=xl.1 h;injection e with f e;injection e with i j
   subst f;subst i;subst j;have w:qQ M ctx s st (B7 (DX (nJ M ctx q.2.2) q.2.1) Q) λ d=>nJ M ctx q.1 d (B7 (DX (nJ M ctx q.2.2) q.2.1) Q):=w;rw[zI (Q:=B7 (DX (nJ M ctx q.2.2) q.2.1) Q) (Q':=Q) (λ _ _=>rfl)]at w;exact q9a w (λ _ _ h=>h) λ d h=>xij hr y h
def W5(hr:ctx.round=none):∀{c x y:ai}{t:Nat},rp c=some (x,t,y) -> ∀{st:St}{Q:cB},WP M ctx x st (B7 (DX (WP M ctx y) t) Q)->WP M ctx c st Q
 | .region l,x,y,t,h,st,Q,w=>by
  unfold rp at h;obtain⟨q,i,e⟩:=xl.1 h;injection e with d e;injection e with f g
  subst d;subst f;subst g;exact xij hr i w
 | .seq a b,x,y,t,h,st,Q,w=>by
  unfold rp at h;cases ha:rp a with
  |some q =>
   rw[ha]at h;injection h with h;injection h with m h;injection h with o p
   subst m;subst o;subst p;refine W5 hr (c:=a) ha (pF w λ e j h=>?_);cases e with
   |normal=>exact h
   |_=>exact h
  |none =>
   rw[ha]at h;obtain⟨q,i,e⟩:=xl.1 h;injection e with d e;injection e with f g
   subst d;subst f;subst g;show WP M ctx a st (B7 (WP M ctx b) Q);refine pF (show WP M ctx a st (B7 (WP M ctx q.1) (B7 (DX (WP M ctx q.2.2) q.2.1) Q))from w) λ e j h=>?_;cases e with
   |normal=>exact W5 hr (c:=b) i h
   |_=>exact h
end
def zS(M:ak)(ctx:Ctx)(p:Kp×ai)(t:Nat)(Q:aF):aF:=λ e E D H=>match e with
 | .normal=>LK true (lk E t) λ _ v=>∃g first cap,v=.fn (.func g) first cap/\W M ctx p true Q E (.fn (.func g) (first++cap)::D) H
 |e=>Q e E D H
def xbm{M:ak}{ctx:Ctx}{p:Kp×ai}{t:Nat}{Q:aF}{E:Env}{D:List aM}{H:ar}:zS M ctx p t Q .normal E D H=LK true (lk E t) λ _ v=>∃g first cap,v=.fn (.func g) first cap/\W M ctx p true Q E (.fn (.func g) (first++cap)::D) H:=rfl
def ql{M:ak}{ctx:Ctx}{p:Kp×ai}{t:Nat}{Q:aF}{E:Env}{D:List aM}{H:ar}:zS M ctx p t Q .ret E D H=Q .ret E D H:=rfl
def MC{M:ak}{rs:List dX}{ks:List Nat}{Q:bE->ar->Prop}{up:Option aE}{e:aU}{st:St}(h:QQ ks (fj M rs Q) up e st):XN M rs (λ e u H=>u=up/\Q e H) e st:=by
 obtain⟨f,g,j,d⟩:=h;obtain⟨tm,D,u,H'⟩:=st;have f:u=up:=f;subst f;have mono:∀{m:Option aE},mB M rs g Q D m H'->yF M rs tm (λ e H=>u=u/\Q e H) D m H':=λ{m}h=>by
  have i:mB M rs g (λ e H=>u=u/\Q e H) D m H':=by
   have e:(λ e H=>u=u/\Q e H)=Q:=by funext e H;simp
   rw[e];exact h
  exact mB.Rl j i
 cases e with
 |normal=>exact mono d
 |ret=>exact mono d
 |panic c=>exact mono d
 |exit _=>exact d.elim
 |goto _=>exact d.elim
def EY{M:ak}{f:Nat}{fn:cj}(u:M.func f=some fn){p ky:Kp}(hk:p.ah=ky.ah){t:Nat}(s:rp fn.body=some (xL fn.body,t,vD fn.body)){vs:List AV}(r:i7 0 vs.length p.ah=true){H:ar}{Q:bE->ar->Prop}
 (h:W M ⟨none,f⟩ (p,part (xL fn.body) 0) true (zS M ⟨none,f⟩ (ky,part (vD fn.body) 0) t (fj M fn.results Q)) (jT 0 vs) [] H):D4 M f vs H Q:=by
 rw[kR,Sg]at h;refine qp u (W5 rfl s (pF (W3.wp (eR (xL fn.body)) _ (qg _) (up:=none) h (VU r)) λ e st h=>?_));cases e with
 |normal =>
  obtain⟨d,i,j,l⟩:=h;obtain⟨tm,D,up,H'⟩:=st;have d:up=none:=d;subst d;obtain⟨v,w,g,first,cap,rfl,q⟩:=LK.elim (m:=true) (o:=lk i t) (K:=λ _ v=>∃g first cap,v=.fn (.func g) first cap/\W M ⟨none,f⟩ (ky,part (vD fn.body) 0) true (fj M fn.results Q) i (.fn (.func g) (first++cap)::D) H') l;rw[kR,Sg]at q;exact⟨g,first,cap,(j t _ w).1,pF (W3.wp (eR (vD fn.body)) _ (qg _) (up:=none) q (hk▸j)) λ e st h=>MC h⟩
 |ret=>obtain⟨d,i,j,l⟩:=h;exact MC (M:=M) (e:=aU.ret) (rs:=fn.results) (ks:=p.ah) (Q:=Q) (up:=none) ⟨d,i,j,l⟩
 |panic c=>obtain⟨d,i,j,l⟩:=h;exact MC (M:=M) (e:=aU.panic c) (rs:=fn.results) (ks:=p.ah) (Q:=Q) (up:=none) ⟨d,i,j,l⟩
 |exit k=>obtain⟨d,i,j,l⟩:=h;exact MC (M:=M) (e:=aU.exit k) (rs:=fn.results) (ks:=p.ah) (Q:=Q) (up:=none) ⟨d,i,j,l⟩
 |goto k=>obtain⟨d,i,j,l⟩:=h;exact MC (M:=M) (e:=aU.goto k) (rs:=fn.results) (ks:=p.ah) (Q:=Q) (up:=none) ⟨d,i,j,l⟩
def GF{M:ak}{f:Nat}{fn:cj}(g:M.func f=some fn){ks:Kp}{vs:List AV}(hk:i7 0 vs.length ks.ah=true){up:Option aE}{H:ar}{Q:bE->ar->Prop}
 (h:W M ⟨none,f⟩ (ks,part fn.body 0) true (fj M fn.results Q) (jT 0 vs) [] H):∃e H',jJ M f vs up H e up H'/\Q e H':=by
 rw[kR,Sg]at h;obtain⟨e,i,H',c,rfl,d⟩:=q14 g (pF (W3.wp (eR fn.body) fn.body (qg _) (up:=up) h (VU hk)) λ e st h=>MC h);exact⟨e,H',c,d⟩
abbrev WE(M:ak)(c:Ctx)(p:Kp×ai)(R:aF->Env->List aM->ar->Prop):Prop:=∀Q E D H,W M c p true Q E D H=R Q E D H
end Go.Am
