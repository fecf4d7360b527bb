import Derived.Test.YtbpnpfalldaocaaGreatDoorAmCZb
import Derived.Test.YtbpnpfalldaocaaGreatDoorAmCZa
set_option linter.unusedVariables false
set_option linter.unusedSimpArgs false
set_option linter.defProp false
open And renaming intro→Dd
open Bool renaming rec→Ju,false→B2,true→B4
open False renaming elim→Ja
open Go renaming IntKind→KB,Program→Fv
open List renaming rec→Sp
open Nat renaming beq→FW,ble→Jo,blt→KI
open Option renaming rec→L3,none→B5,some→B1
namespace Go.Am
def aF:Bool:=B4
def bJ{α:Type}(m:Bool)(o:Option α)(K:α->Prop):Prop:=match o with
 |some a=>K a
 |none=>False
def ic{α β:Type}(m:Bool)(o:Option (α×β))(K:α -> β->Prop):Prop:=match o with
 |some a=>K a.1 a.2
 |none=>False
def Ih(m:Bool)(q:Bool)(A B:Prop):Prop:=match q with
 |true=>A
 |false=>B
@[congr]def aa7{α:Type}{m c:Bool}{o o':Option α}{K:α->Prop}(hm:m=c)(h:o=o'):bJ m o K=bJ c o' K:=by rw[h,hm]
@[congr]def aa2{α β:Type}{m c:Bool}{o o':Option (α×β)}{K:α -> β->Prop}(hm:m=c)(h:o=o'):ic m o K=ic c o' K:=by rw[h,hm]
@[congr]def ab3{m c q d:Bool}{A B:Prop}(hm:m=c)(h:q=d):Ih m q A B=Ih c d A B:=by rw[h,hm]
def bJ.elim{α:Type}{m:Bool}{o:Option α}{K:α->Prop}(h:bJ m o K):∃a,o=B1 a/\K a:=by
 cases o with
 |none=>exact Ja h
 |some a=>exact⟨a,rfl,h⟩
def ic.elim{α β:Type}{m:Bool}{o:Option (α×β)}{K:α -> β->Prop}(h:ic m o K):∃a b,o=B1 (a,b)/\K a b:=by
 cases o with
 |none=>exact Ja h
 |some a=>exact⟨a.1,a.2,rfl,h⟩
theorem bJ.intro{α:Type}{m:Bool}{o:Option α}{K:α->Prop}{a:α}(h:o=B1 a)(hk:K a):bJ m o K:=by subst h;exact hk
theorem ic.intro{α β:Type}{m:Bool}{o:Option (α×β)}{K:α -> β->Prop}{a:α}{b:β}(h:o=B1 (a,b))(hk:K a b):ic m o K:=by subst h;exact hk
def Ih.cases{m:Bool}{q:Bool}{A B:Prop}(c:q=B4->A)(d:q=B2->B):Ih m q A B:=by
 cases q with
 |true=>exact c rfl
 |false=>exact d rfl
def asBool:AV->Option Bool
 | .bool q=>B1 q
 |_=>B5
noncomputable section
structure ak where
 prog:iQ
 told:bN
 mute:Nat->Bool
 ok:∀f vs up H,mute f=B2->told f vs up H=B5
def ak.call(M:ak)(n:Nat):bN:=iZ M.prog M.told n
def ak.func(M:ak)(f:Nat):Option b9:=cond (M.mute f) B5 (M.prog.func f)
def ak.jB(M:ak):Nat->String->Option Nat:=M.prog.jB
def ak.uV{M:ak}{f:Nat}{fn:b9}(h:M.func f=B1 fn):M.mute f=B2/\M.prog.func f=B1 fn:=by
 unfold ak.func at h;cases hm:M.mute f with
 |true=>rw[hm]at h;cases h
 |false=>rw[hm]at h;exact⟨rfl,h⟩
def ak.vS{M:ak}{f:Nat}(h:M.mute f=B2)(n:Nat)(vs:List AV)(up:Option aA)(H:ar):M.call (n+1) f vs up H=EG M.prog (M.call n) n f vs up H:=by
 show(match M.told f vs up H with|some r=>B1 r|none=>EG M.prog (iZ M.prog M.told n) n f vs up H)=_;rw[M.ok f vs up H h];rfl
variable(AP:ak)
def t9(n k:Nat)(ctx:Ctx):RT:=⟨AP.prog,AP.call n,rounds AP.prog (AP.call n) n k,n,ctx⟩
def iM(f:Nat)(vs:List AV)(up:Option aA)(H:ar)(e:bF)(up':Option aA)(H':ar):Prop:=∃n0,∀n,n0<=n->AP.call n f vs up H=B1 (e,up',H')
def CALL(f:Nat)(vs:List AV)(H:ar)(e:bF)(H':ar):Prop:=iM AP f vs B5 H e B5 H'
def qF(l:Nat)(vs:List AV)(H:ar)(e:bF)(H':ar):Prop:=∃n0,∀n k,n0<=n->n0<=k->rounds AP.prog (AP.call n) n k vs l H=B1 (e,H')
def rZ:kW->List AV->ar->bF->ar->Prop
 | .func g=>CALL AP g
 | .yield l=>qF AP l
def mn(m:Bool)(f:kW)(vs:List AV)(H:ar)(K:AV->ar->Prop)(E:aA->ar->Prop):Prop :=
 ∃e H',rZ AP f vs H e H'/\match e with
  | .ret v=>K v H'
  | .panic c=>E c H'
@[congr]def aa3{AP:ak}{m d:Bool}{f:kW}{vs c:List AV}{H:ar}{K:AV->ar->Prop}{E:aA->ar->Prop}(hm:m=d)(h:vs=c):mn AP m f vs H K E=mn AP d f c H K E:=by rw[h,hm]
def JH(m:Bool)(vs:List AV)(K:kW->List AV->Prop):Prop:=match vs with
 | .fn (.func g) first cap::args=>K (.func g) (first++(args++cap))
 | .fn (.yield l) first []::args=>K (.yield l) (first++args)
 |_=>False
@[congr]def aa6{m d:Bool}{vs c:List AV}{K:kW->List AV->Prop}(hm:m=d)(h:vs=c):JH m vs K=JH d c K:=by rw[h,hm]
def Jx(m:Bool)(name:String)(vs:List AV)(K:kW->List AV->Prop):Prop:=match vs with
 | .iface t v::args=>bJ aF (AP.jB t name) λ g=>K (.func g) (v::args)
 |_=>False
@[congr]def ab4{AP:ak}{m d:Bool}{name:String}{vs c:List AV}{K:kW->List AV->Prop}(hm:m=d)(h:vs=c):Jx AP m name vs K=Jx AP d name c K:=by rw[h,hm]
def oI(tm:T AV):List bE->(List AV->Prop)->Prop
 |[],K=>K []
 | .tmp t::xs,K=>bJ aF (tm.get t) λ v=>oI tm xs λ vs=>K (v::vs)
 | .const v::xs,K=>oI tm xs λ vs=>K (v::vs)
 | .dV g::xs,K=>oI tm xs λ vs=>K (.ptr g 0::vs)
 | .func f::xs,K=>oI tm xs λ vs=>K (.fn (.func f) [] []::vs)
def oI.elim{tm:T AV}:∀{l:List bE}{K:List AV->Prop},oI tm l K -> ∃vs,kS tm l=B1 vs/\K vs
 |[],K,h=>⟨[],rfl,h⟩
 | .tmp t::xs,K,h=>by
  obtain⟨v,f,h⟩:=bJ.elim (m:=aF) h;obtain⟨vs,c,d⟩:=oI.elim h;exact⟨v::vs,by simp[kS,pN,f,c],d⟩
 | .const v::xs,K,h=>by
  obtain⟨vs,c,d⟩:=oI.elim (l:=xs) h;exact⟨v::vs,by simp[kS,pN,c],d⟩
 | .dV v::xs,K,h=>by
  obtain⟨vs,c,d⟩:=oI.elim (l:=xs) h;exact⟨_,by simp[kS,pN,c],d⟩
 | .func v::xs,K,h=>by
  obtain⟨vs,c,d⟩:=oI.elim (l:=xs) h;exact⟨_,by simp[kS,pN,c],d⟩
def CY(tm:T AV)(x:bE)(K:AV->Prop):Prop:=match x with
 | .tmp t=>bJ aF (tm.get t) K
 | .const v=>K v
 | .dV g=>K (.ptr g 0)
 | .func f=>K (.fn (.func f) [] [])
def CY.elim{tm:T AV}{x:bE}{K:AV->Prop}(h:CY tm x K):∃v,pN tm x=B1 v/\K v:=by
 cases x with
 |tmp t=>exact bJ.elim (m:=aF) h
 |const v=>exact⟨v,rfl,h⟩
 |dV v=>exact⟨_,rfl,h⟩
 |func v=>exact⟨_,rfl,h⟩
abbrev ct:=aS->St->Prop
def wL(ps:Option (List Nat))(tm:T AV)(aV:List aK)(up:Option aA)(Q:ct)(c:aA)(H:ar):Prop:=match ps with
 |some ds=>Q (.panic c) ⟨forget ds tm,aV,up,H⟩
 |none=>False
def ua(m:Bool)(ctx:Ctx)(up:Option aA)(K:AV->Option aA->Prop):Prop:=ctx.round=B5/\match up with
 |some ((v,B2)::older)=>K v (B1 ((v,B4)::older))
 |_=>K .nili up
@[congr]def aa1{m d:Bool}{ctx:Ctx}{up c:Option aA}{K:AV->Option aA->Prop}(hm:m=d)(h:up=c):ua m ctx up K=ua d ctx c K:=by rw[h,hm]
def C9(m:Bool)(ctx:Ctx)(vs:List AV)(aV:List aK)(K:List aK->Prop):Prop:=ctx.round=B5/\match vs with
 | .fn (.func f) first cap::args=>K (.fn (.func f) (first++(args++cap))::aV)
 |_=>False
@[congr]def aa4{m d:Bool}{ctx:Ctx}{vs c:List AV}{aV:List aK}{K:List aK->Prop}(hm:m=d)(h:vs=c):C9 m ctx vs aV K=C9 d ctx c aV K:=by rw[h,hm]
def fG(vs:List AV)(H:ar)(E:aA->ar->Prop):Prop:=match vs with
 |[.iface t v]=>E [(.iface t v,B2)] H
 |_=>False
@[congr]def aa0{vs c:List AV}{H:ar}{E:aA->ar->Prop}(h:vs=c):fG vs H E=fG c H E:=by rw[h]
def nZ(ctx:Ctx)(dst:Option Nat)(ps:Option (List Nat))(st:St)(Q:ct)(K:St->Prop)(vs:List AV):eT->Prop
 | .pure f=>bJ aF (f vs) λ v=>K ⟨dW dst v st.tm,st.aV,st.up,st.H⟩
 | .read f=>bJ aF (f vs st.H) λ v=>K ⟨dW dst v st.tm,st.aV,st.up,st.H⟩
 | .alloc f=>ic aF (f vs) λ o mk=>K ⟨dW dst (mk st.H.au) st.tm,st.aV,st.up,st.H.alloc o⟩
 | .fT f=>ic aF (f vs st.H) λ v H=>K ⟨dW dst v st.tm,st.aV,st.up,H⟩
 | .gE g=>mn AP aF (.func g) vs st.H (λ v H=>K ⟨dW dst v st.tm,st.aV,st.up,H⟩) (wL ps st.tm st.aV st.up Q)
 | .gF=>JH aF vs λ f vs=>mn AP aF f vs st.H (λ v H=>K ⟨dW dst v st.tm,st.aV,st.up,H⟩) (wL ps st.tm st.aV st.up Q)
 | .invoke name=>Jx AP aF name vs λ f vs=>mn AP aF f vs st.H (λ v H=>K ⟨dW dst v st.tm,st.aV,st.up,H⟩) (wL ps st.tm st.aV st.up Q)
 | .recover=>match vs with
  |[]=>ua aF ctx st.up λ v up=>K ⟨dW dst v st.tm,st.aV,up,st.H⟩
  |_=>False
 | .defer=>C9 aF ctx vs st.aV λ aV=>K ⟨dW dst .undef st.tm,aV,st.up,st.H⟩
 | .panic=>fG vs st.H (wL ps st.tm st.aV st.up Q)
def K6(dst:Option Nat)(st:St)(vs:List AV):eT->Prop
 | .read f=>match dst with
  |some d=>bJ aF (f vs st.H) λ v=>bJ aF (st.tm.get d) λ v'=>v=v'
  |none=>False
 |_=>False
def pw(ctx:Ctx)(s:aL)(st:St)(Q:ct)(K:St->Prop):Prop :=
 match s.gK with
 |false=>match s.guard with
  |none=>oI st.tm s.args λ vs=>nZ AP ctx s.dst s.cq st Q K vs s.op
  |some g=>bJ aF (cJ g.2 (st.tm.get g.1)) λ w=>Ih aF w (oI st.tm s.args λ vs=>nZ AP ctx s.dst s.cq st Q K vs s.op) (K ⟨dW s.dst .undef st.tm,st.aV,st.up,st.H⟩)
 |true=>match s.guard with
  |none=>oI st.tm s.args λ vs=>K6 s.dst st vs s.op/\K st
  |some g=>bJ aF (cJ g.2 (st.tm.get g.1)) λ w=>Ih aF w (oI st.tm s.args λ vs=>K6 s.dst st vs s.op/\K st) (s.dst.isSome=B4/\K st)
def mN(ctx:Ctx):List aL->St->ct->Prop
 |[],st,Q=>Q .normal st
 |s::rest,st,Q=>pw AP ctx s st Q λ st'=>mN ctx rest st' Q
def Ax(W:St->ct->Prop)(Q:ct):ct:=λ e st=>match e with
 | .normal=>W st Q
 |e=>Q e st
def BLK(id:Nat)(Q:ct):ct:=λ e st=>match e with
 | .exit id'=>Q (cond (FW id id') .normal (.exit id')) st
 |e=>Q e st
def SCP(b:ai)(Q:ct):ct:=λ e st=>match e with
 | .goto l=>CF b l=B2/\Q (.goto l) st
 |e=>Q e st
def jJ(ah:Option (List Nat))(st:St):St:=match ah with
 |none=>st
 |some ks=>{st with tm:=PJ st.tm ks .nil}
def Gy(W:St->ct->Prop)(ah:Option (List Nat))(st:St)(Q:ct):Prop :=
 ∃I:Nat->St->Prop,(∃n,I n st) /\ ∀n st,I n st->W (jJ ah st) λ e st'=>match e with
  | .normal=>∃m,m<n/\I m st'
  |e=>Q e st'
def Ss(st:St)(aV:List aK)(l:Nat)(Q:ct)(e:bF)(H:ar):Prop:=match e with
 | .panic c=>Q (.panic c) {st with aV:=aV,H:=H}
 | .ret _=>∃s p f k tm d,H.get l=B1 (.loop s p f k tm d)/\s≠ .busy/\Q (po p) {st with aV:=aV,H:=H.set l (.loop .exhausted p f k tm d)}
def kY(ctx:Ctx)(st:St)(k:Nat)(H0:ar)(aV:List aK)(d:Nat)(Q:ct):AV->Prop
 | .fn (.func g) first cap=>∃e H',CALL AP g (first++(.fn (.yield H0.au) [] []::cap)) (H0.alloc (.loop .ready B5 ctx.fn k st.tm d)) e H'/\Ss st aV H0.au Q e H'
 |_=>False
def Fm(ctx:Ctx)(k:Nat)(st:St)(Q:ct)(v:AV):Prop:=match ctx.round with
 |none=>kY AP ctx st k (st.H.alloc (.deferred (B1 []))) (.im st.H.au::st.aV) st.H.au Q v
 |some l=>bJ aF (yD st.H l) λ d=>kY AP ctx st k st.H st.aV d Q v
def WP(ctx:Ctx):ai->St->ct->Prop
 | .skip,st,Q=>Q .normal st
 | .label _,st,Q=>Q .normal st
 | .region steps,st,Q=>mN AP ctx steps st Q
 | .seq a b,st,Q=>WP ctx a st (Ax (WP ctx b) Q)
 | .cond c a b,st,Q=>CY st.tm c λ v=>bJ aF (asBool v) λ q=>Ih aF q (WP ctx a st Q) (WP ctx b st Q)
 | .block id b,st,Q=>WP ctx b st (BLK id Q)
 | .loop ah b,st,Q=>Gy (WP ctx b) ah st Q
 | .exit id,st,Q=>Q (.exit id) st
 | .goto l,st,Q=>Q (.goto l) st
 | .ret,st,Q=>Q .ret st
 | .stuck,_,_=>False
 | .scope b,st,Q=>WP ctx b st (SCP b Q)
 | .rangeFunc f k,st,Q=>CY st.tm f λ v=>Fm AP ctx k st Q v
section
variable(ctx:Ctx)(st:St)(Q:ct)
def SC(s:aL)(l:List aL):mN AP ctx (s::l) st Q=pw AP ctx s st Q λ c=>mN AP ctx l c Q:=propext jg
end
def EX(ctx:Ctx)(c:ai)(st:St)(r:aS×St):Prop:=∃n0,∀n k,n0<=n->n0<=k->(bC c).run (t9 AP n k ctx) st=B1 r
def EXS(ctx:Ctx)(l:List aL)(st:St)(r:aS×St):Prop:=∃n0,∀n k,n0<=n->n0<=k->(gh l).run (t9 AP n k ctx) st=B1 r
def rZ.run{AP:ak}{f:kW}{vs:List AV}{H:ar}{e:bF}{H':ar}(h:rZ AP f vs H e H') :
 ∃n0,∀n k,n0<=n->n0<=k->cC (AP.call n) (rounds AP.prog (AP.call n) n k) f vs H=B1 (e,H'):=by
 cases f with
 |func g=>obtain⟨n0,h⟩:=h;exact⟨n0,λ n k hn _=>by simp[cC,h n hn]⟩
 |yield l=>obtain⟨n0,h⟩:=h;exact⟨n0,λ n k hn hk=>by simp[cC,h n k hn hk]⟩
def q21:(∀v,bZ v v=B4)/\(∀l,eC l l=B4):=by
 have c:∀n,FW n n=true:=λ n=>by simp
 have d:∀k,ry k k=true:=λ k=>by cases k<;>rfl
 have g:∀i,rS i i=true:=λ i=>by rw[yJ];simp
 have h:∀s,wD s s=true:=λ s=>by rw[GS];simp
 refine⟨λ v=>?_,λ l=>?_⟩
 .refine AV.rec (motive_1:=λ v=>bZ v v=B4) (motive_2:=λ l=>eC l l=B4) ?_ ?_ ?_ ?_ ?_ ?_ ?_ ?_ ?_ ?_ ?_ ?_ ?_ ?_ ?_ ?_ ?_ ?_ ?_ v
  all_goals (intros;first|rfl|(simp only[bZ,eC,jb,beq_self_eq_true, *];done)|(rename_i f _ _ _ _;cases f<;>simp only[bZ,jb, *]))
 .refine AV.rec_1 (motive_1:=λ v=>bZ v v=B4) (motive_2:=λ l=>eC l l=B4) ?_ ?_ ?_ ?_ ?_ ?_ ?_ ?_ ?_ ?_ ?_ ?_ ?_ ?_ ?_ ?_ ?_ ?_ ?_ l
  all_goals (intros;first|rfl|(simp only[bZ,eC,jb,beq_self_eq_true, *];done)|(rename_i f _ _ _ _;cases f<;>simp only[bZ,jb, *]))
def xd0(v:AV):bZ v v=true:=q21.1 v
def K6.run{d:Option Nat}{st:St}{vs:List AV}{op:eT}(h:K6 d st vs op):∃t,d=B1 t/\pC (T.mP (T.path t)).run st vs op=true:=by
 cases op with
 |read f =>
  cases d with
  |none=>exact Ja h
  |some t =>
   refine⟨t,rfl,?_⟩;obtain⟨v,g,h⟩:=bJ.elim (m:=aF) h;obtain⟨j,i,h⟩:=bJ.elim (m:=aF) h;subst h;have c:(T.mP (T.path t)).run st.tm=B1 v:=by rw[T.iT];exact i
   simp[pC,g,c,xd0]
 |_=>exact Ja h
def nZ.run{AP:ak}{ctx:Ctx}{dst:Option Nat}{t:Option (List Nat)}{st:St}{Q:ct}{K:St->Prop}{vs:List AV}{op:eT}(h:nZ AP ctx dst t st Q K vs op)
 {kk:Nat->Nat->St->fQ} (p:∀st,K st -> ∃e d,Q e d /\ ∃n0,∀n k,n0<=n->n0<=k->kk n k st=B1 (e,d)) :
 ∃e d,Q e d /\ ∃n0,∀n k,n0<=n->n0<=k->(pE (jW dst).run t op).run (t9 AP n k ctx) st (kk n k) vs=B1 (e,d):=by
 have hp:∀v tm,(jW dst).run v tm=dW dst v tm:=Q5 dst;have call:∀{f vs},mn AP aF f vs st.H (λ v H=>K ⟨dW dst v st.tm,st.aV,st.up,H⟩) (wL t st.tm st.aV st.up Q) ->
  ∃e d,Q e d /\ ∃n0,∀n k,n0<=n->n0<=k->((cC (AP.call n) (rounds AP.prog (AP.call n) n k) f vs st.H).bind λ r=>eY (jW dst).run t st (kk n k) r)=B1 (e,d):=by
  rintro f vs ⟨e,H',l,h⟩;obtain⟨n0,l⟩:=l.run;cases e with
  |ret v =>
   obtain⟨e,d,j,n1,i⟩:=p _ h;refine⟨e,d,j,max n0 n1,λ n k hn hk=>?_⟩;rw[l n k (by omega) (by omega)]
   simpa[eY,hp]using i n k (by omega) (by omega)
  |panic c =>
   cases t with
   |none=>exact Ja h
   |some ds =>
    refine⟨_,_,h,n0,λ n k hn hk=>?_⟩;rw[l n k (by omega) (by omega)];simp[eY]
 cases op with
 |pure f =>
  obtain⟨v,l,h⟩:=bJ.elim (m:=aF) h;obtain⟨e,d,j,n1,i⟩:=p _ h;exact⟨e,d,j,n1,λ n k hn hk=>by simp[pE,zZ,l,hp,i n k hn hk]⟩
 |read f =>
  obtain⟨v,l,h⟩:=bJ.elim (m:=aF) h;obtain⟨e,d,j,n1,i⟩:=p _ h;exact⟨e,d,j,n1,λ n k hn hk=>by simp[pE,zB,l,hp,i n k hn hk]⟩
 |alloc f =>
  simp only[nZ]at h;obtain⟨o,mk,l,h⟩:=ic.elim (m:=aF) h;obtain⟨e,d,j,n1,i⟩:=p _ h;exact⟨e,d,j,n1,λ n k hn hk=>by simp[pE,sR,l,hp,i n k hn hk]⟩
 |fT f =>
  simp only[nZ]at h;obtain⟨o,mk,l,h⟩:=ic.elim (m:=aF) h;obtain⟨e,d,j,n1,i⟩:=p _ h;exact⟨e,d,j,n1,λ n k hn hk=>by simp[pE,HX,l,hp,i n k hn hk]⟩
 |gE f=>exact call h
 |gF =>
  simp only[nZ,JH]at h;split at h
  .exact call h
  .exact call h
  .exact Ja h
 |invoke name =>
  simp only[nZ,Jx]at h;split at h
  .obtain ⟨g,hg,h⟩:=bJ.elim (m:=aF) h;obtain⟨e,d,j,n1,i⟩:=call h;exact⟨e,d,j,n1,λ n k hn hk=>by simpa[pE,qQ,t9,(show AP.prog.jB _ name=B1 g from hg)]using i n k hn hk⟩
  .exact Ja h
 |recover =>
  simp only[nZ]at h;split at h
  .obtain ⟨hr,h⟩:=h;split at h
   .rename_i v s q;obtain⟨e,d,j,n1,i⟩:=p _ h;exact⟨e,d,j,n1,λ n k hn hk=>by simpa[pE,NK,t9,hr,Kb,q,hp]using i n k hn hk⟩
   .rename_i q;obtain⟨e,d,j,n1,i⟩:=p _ h;refine⟨e,d,j,n1,λ n k hn hk=>?_⟩;have:Kb (jW dst).run st=⟨dW dst .nili st.tm,st.aV,st.up,st.H⟩:=by
     unfold Kb;split
     .rename_i v s hu;exact(q _ _ hu).elim
     .rw [hp]
    simpa[pE,NK,t9,hr,this]using i n k hn hk
  .exact Ja h
 |defer =>
  obtain⟨hr,h⟩:=h;split at h
  .obtain ⟨e,d,j,n1,i⟩:=p _ h;exact⟨e,d,j,n1,λ n k hn hk=>by simpa[pE,sM,t9,hr,hp]using i n k hn hk⟩
  .exact Ja h
 |panic =>
  simp only[nZ,fG]at h;split at h
  .cases t with
   |none=>exact Ja h
   |some ds=>exact⟨_,_,h,0,λ n k hn hk=>by simp[pE,tR,eY]⟩
  .exact Ja h
def pw.run{AP:ak}{ctx:Ctx}{s:aL}{st:St}{Q:ct}{K:St->Prop}(h:pw AP ctx s st Q K)
 {kk:Nat->Nat->St->fQ} (o:∀st,K st -> ∃e c,Q e c /\ ∃n0,∀n k,n0<=n->n0<=k->kk n k st=B1 (e,c)) :
 ∃e c,Q e c /\ ∃n0,∀n k,n0<=n->n0<=k->(fV s).run (t9 AP n k ctx) (kk n k) st=B1 (e,c):=by
 obtain⟨gK,dst,guard,args,op,u⟩:=s;have hp:∀v tm,(jW dst).run v tm=dW dst v tm:=Q5 dst;have p:∀g,(T.mP (T.path g)).run st.tm=st.tm.get g:=λ g=>by rw[T.iT];rfl
 cases gK with
 |false =>
  cases guard with
  |none =>
   obtain⟨vs,l,h⟩:=oI.elim h;obtain⟨e,c,j,n0,f⟩:=h.run o;exact⟨e,c,j,n0,λ n k hn hk=>by simpa[fV,Eb,l]using f n k hn hk⟩
  |some g =>
   obtain⟨w,hw,h⟩:=bJ.elim (m:=aF) h;cases w with
   |true =>
    obtain⟨vs,l,h⟩:=oI.elim h;obtain⟨e,c,j,n0,f⟩:=h.run o;exact⟨e,c,j,n0,λ n k hn hk=>by simpa[fV,p,hw,Eb,l]using f n k hn hk⟩
   |false =>
    obtain⟨e,c,j,n0,f⟩:=o _ h;exact⟨e,c,j,n0,λ n k hn hk=>by simpa[fV,p,hw,hp]using f n k hn hk⟩
 |true =>
  cases guard with
  |none =>
   obtain⟨vs,l,hk,q⟩:=oI.elim h;obtain⟨t,rfl,hk⟩:=hk.run;obtain⟨e,c,j,n0,f⟩:=o _ q;exact⟨e,c,j,n0,λ n k hn i=>by simpa[fV,Eb,l,hk]using f n k hn i⟩
  |some g =>
   obtain⟨w,hw,h⟩:=bJ.elim (m:=aF) h;cases w with
   |true =>
    obtain⟨vs,l,hk,q⟩:=oI.elim h;obtain⟨t,rfl,hk⟩:=hk.run;obtain⟨e,c,j,n0,f⟩:=o _ q;exact⟨e,c,j,n0,λ n k hn i=>by simpa[fV,p,hw,Eb,l,hk]using f n k hn i⟩
   |false =>
    obtain⟨r,h⟩:=h;obtain⟨e,c,j,n0,f⟩:=o _ h;cases dst with
    |none=>cases r
    |some d=>exact⟨e,c,j,n0,λ n k hn i=>by simpa[fV,p,hw]using f n k hn i⟩
def mN.run{AP:ak}{ctx:Ctx}:∀{l:List aL}{st:St}{Q:ct},mN AP ctx l st Q -> ∃e c,Q e c/\EXS AP ctx l st (e,c)
 |[],st,Q,h=>⟨_,_,h,0,λ _ _ _ _=>rfl⟩
 |s::rest,st,Q,h=>by
  obtain⟨e,c,d,n0,h⟩:=pw.run (kk:=λ n k=>(gh rest).run (t9 AP n k ctx)) h λ c hs=>mN.run hs;exact⟨e,c,d,n0,h⟩
def af5{AP:ak}{ctx:Ctx}{ah:Option (List Nat)}{b:ai}{Q:ct}{I:Nat->St->Prop}
 (hb:∀n st,I n st -> ∃e f,(match e with| .normal=>∃m,m<n/\I m f|e=>Q e f)/\EX AP ctx b (jJ ah st) (e,f)) :
 ∀m n,n<=m -> ∀st,I n st -> ∃e f,Q e f /\ ∃n0 c,∀n k,n0<=n->n0<=k -> ∀d,c<=d->fP ah ((bC b).run (t9 AP n k ctx)) d st=B1 (e,f):=by
 intro m
 induction m with
 |zero =>
  intro n hn st q;obtain⟨e,f,h,n0,g⟩:=hb n st q;cases e with
  |normal=>obtain⟨j,w,_⟩:=h;omega
  |exit id=>exact⟨_,_,h,n0,1,λ n k hn hk d i=>by obtain⟨c,rfl⟩:∃c,d=c+1:=⟨d-1,by omega⟩;have:=g n k hn hk;cases ah<;>simp[fP,jJ]at this⊢<;>simp[this]⟩
  |goto l=>exact⟨_,_,h,n0,1,λ n k hn hk d i=>by obtain⟨c,rfl⟩:∃c,d=c+1:=⟨d-1,by omega⟩;have:=g n k hn hk;cases ah<;>simp[fP,jJ]at this⊢<;>simp[this]⟩
  |ret=>exact⟨_,_,h,n0,1,λ n k hn hk d i=>by obtain⟨c,rfl⟩:∃c,d=c+1:=⟨d-1,by omega⟩;have:=g n k hn hk;cases ah<;>simp[fP,jJ]at this⊢<;>simp[this]⟩
  |panic p=>exact⟨_,_,h,n0,1,λ n k hn hk d i=>by obtain⟨c,rfl⟩:∃c,d=c+1:=⟨d-1,by omega⟩;have:=g n k hn hk;cases ah<;>simp[fP,jJ]at this⊢<;>simp[this]⟩
 |succ m ih =>
  intro n hn st q;obtain⟨e,f,h,n0,g⟩:=hb n st q;cases e with
  |normal =>
   obtain⟨j,w,r⟩:=h;obtain⟨e,s,x,n1,c,t⟩:=ih j (by omega) f r;refine⟨e,s,x,max n0 n1,c+1,λ n k hn hk d i=>?_⟩;obtain⟨o,rfl⟩:∃c,d=c+1:=⟨d-1,by omega⟩
   have:=g n k (by omega) (by omega);have u:=t n k (by omega) (by omega) o (by omega);cases ah<;>simp[fP,jJ]at this⊢<;>simp[this,u]
  |exit id=>exact⟨_,_,h,n0,1,λ n k hn hk d i=>by obtain⟨c,rfl⟩:∃c,d=c+1:=⟨d-1,by omega⟩;have:=g n k hn hk;cases ah<;>simp[fP,jJ]at this⊢<;>simp[this]⟩
  |goto l=>exact⟨_,_,h,n0,1,λ n k hn hk d i=>by obtain⟨c,rfl⟩:∃c,d=c+1:=⟨d-1,by omega⟩;have:=g n k hn hk;cases ah<;>simp[fP,jJ]at this⊢<;>simp[this]⟩
  |ret=>exact⟨_,_,h,n0,1,λ n k hn hk d i=>by obtain⟨c,rfl⟩:∃c,d=c+1:=⟨d-1,by omega⟩;have:=g n k hn hk;cases ah<;>simp[fP,jJ]at this⊢<;>simp[this]⟩
  |panic p=>exact⟨_,_,h,n0,1,λ n k hn hk d i=>by obtain⟨c,rfl⟩:∃c,d=c+1:=⟨d-1,by omega⟩;have:=g n k hn hk;cases ah<;>simp[fP,jJ]at this⊢<;>simp[this]⟩
def kY.run{AP:ak}{ctx:Ctx}{st:St}{j:Nat}{H0:ar}{aV:List aK}{d:Nat}{Q:ct}{v:AV}(h:kY AP ctx st j H0 aV d Q v) :
 ∃e g,Q e g /\ ∃n0,∀n k,n0<=n->n0<=k->ik (AP.call n) (rounds AP.prog (AP.call n) n k) ctx st j H0 aV d v=B1 (e,g):=by
 unfold kY at h;split at h
 .obtain ⟨e,H',⟨n0,i⟩,h⟩:=h;cases e with
  |panic c=>exact⟨_,_,h,n0,λ n k hn hk=>by simp[ik,cC,i n hn,IP]⟩
  |ret v =>
   obtain⟨s,p,f,k,tm,d,hg,hs,h⟩:=h;refine⟨_,_,h,n0,λ n k hn hk=>?_⟩;simp only[ik,cC,i n hn,IP,qm,hg]
 .exact Ja h
def WP.run{AP:ak}{ctx:Ctx}:∀{c:ai}{st:St}{Q:ct},WP AP ctx c st Q -> ∃e j,Q e j/\EX AP ctx c st (e,j)
 | .skip,st,Q,h=>⟨_,_,h,0,λ _ _ _ _=>rfl⟩
 | .label _,st,Q,h=>⟨_,_,h,0,λ _ _ _ _=>rfl⟩
 | .exit _,st,Q,h=>⟨_,_,h,0,λ _ _ _ _=>rfl⟩
 | .goto _,st,Q,h=>⟨_,_,h,0,λ _ _ _ _=>rfl⟩
 | .ret,st,Q,h=>⟨_,_,h,0,λ _ _ _ _=>rfl⟩
 | .stuck,st,Q,h=>Ja h
 | .region steps,st,Q,h=>mN.run h
 | .seq a b,st,Q,h=>by
  obtain⟨e,cQ,i,n0,g⟩:=WP.run (c:=a) h;cases e with
  |normal =>
   obtain⟨e,u,o,n1,y⟩:=WP.run (c:=b) i;exact⟨e,u,o,max n0 n1,λ n k hn hk=>by simp[bC,g n k (by omega) (by omega),rE,y n k (by omega) (by omega)]⟩
  |exit id=>exact⟨_,_,i,n0,λ n k hn hk=>by simp[bC,g n k hn hk,rE]⟩
  |goto id=>exact⟨_,_,i,n0,λ n k hn hk=>by simp[bC,g n k hn hk,rE]⟩
  |ret=>exact⟨_,_,i,n0,λ n k hn hk=>by simp[bC,g n k hn hk,rE]⟩
  |panic p=>exact⟨_,_,i,n0,λ n k hn hk=>by simp[bC,g n k hn hk,rE]⟩
 | .cond c a b,st,Q,h=>by
  obtain⟨v,r,h⟩:=CY.elim h;obtain⟨q,o,h⟩:=bJ.elim (m:=aF) h;have t:v=.bool q:=by
   unfold asBool at o;split at o
   .injection o with o;rw[o]
   .cases o
  subst t;cases q with
  |true =>
   obtain⟨e,cQ,i,n0,g⟩:=WP.run (c:=a) h;exact⟨e,cQ,i,n0,λ n k hn hk=>by simp[bC,Fu,r,rO,g n k hn hk]⟩
  |false =>
   obtain⟨e,cQ,i,n0,g⟩:=WP.run (c:=b) h;exact⟨e,cQ,i,n0,λ n k hn hk=>by simp[bC,Fu,r,rO,g n k hn hk]⟩
 | .block id b,st,Q,h=>by
  obtain⟨e,cQ,i,n0,g⟩:=WP.run (c:=b) h;cases e with
  |exit id'=>exact⟨_,_,i,n0,λ n k hn hk=>by simp[bC,g n k hn hk,jC]⟩
  |normal=>exact⟨_,_,i,n0,λ n k hn hk=>by simp[bC,g n k hn hk,jC]⟩
  |goto id=>exact⟨_,_,i,n0,λ n k hn hk=>by simp[bC,g n k hn hk,jC]⟩
  |ret=>exact⟨_,_,i,n0,λ n k hn hk=>by simp[bC,g n k hn hk,jC]⟩
  |panic p=>exact⟨_,_,i,n0,λ n k hn hk=>by simp[bC,g n k hn hk,jC]⟩
 | .scope b,st,Q,h=>by
  obtain⟨e,cQ,i,n0,g⟩:=WP.run (c:=b) h;cases e with
  |exit id'=>exact⟨_,_,i,n0,λ n k hn hk=>by simp[bC,g n k hn hk,kK]⟩
  |normal=>exact⟨_,_,i,n0,λ n k hn hk=>by simp[bC,g n k hn hk,kK]⟩
  |goto id=>exact⟨_,_,i.2,n0,λ n k hn hk=>by simp[bC,g n k hn hk,kK,i.1]⟩
  |ret=>exact⟨_,_,i,n0,λ n k hn hk=>by simp[bC,g n k hn hk,kK]⟩
  |panic p=>exact⟨_,_,i,n0,λ n k hn hk=>by simp[bC,g n k hn hk,kK]⟩
 | .loop ah b,st,Q,⟨I,⟨n,s⟩,h⟩=>by
  obtain⟨e,j,o,n0,c,g⟩:=af5 (AP:=AP) (ctx:=ctx) (ah:=ah) (b:=b) (Q:=Q) (I:=I) (λ n st s=>by
   obtain⟨e,j,i,w⟩:=WP.run (c:=b) (h n st s);exact⟨e,j,i,w⟩) n n (qg n) st s
  exact⟨e,j,o,max n0 c,λ n k hn hk=>g n k (by omega) (by omega) n (by omega)⟩
 | .rangeFunc f k0,st,Q,h=>by
  obtain⟨v,r,h⟩:=CY.elim h;unfold Fm at h;cases hr:ctx.round with
  |none =>
   rw[hr]at h;obtain⟨e,j,o,n0,g⟩:=kY.run h;exact⟨e,j,o,n0,λ n k hn hk=>by simpa[bC,Fu,r,pI,t9,hr]using g n k hn hk⟩
  |some l =>
   rw[hr]at h;obtain⟨d,x,h⟩:=bJ.elim (m:=aF) h;obtain⟨e,j,o,n0,g⟩:=kY.run h;exact⟨e,j,o,n0,λ n k hn hk=>by simpa[bC,Fu,r,pI,t9,hr,x]using g n k hn hk⟩
def vL(AP:ak)(rs:List dM)(tm:T AV)(Q:bF->ar->Prop):List aK->Option aA->ar->Prop
 |[],B5,H=>bJ aF (dD H tm rs) λ l=>Q (.ret (iF l)) H
 |[],B1 c,H=>Q (.panic c) H
 | .im b::ds,m,H=>H.get b=B1 (.deferred (B1 []))/\vL AP rs tm Q ds m (H.set b (.deferred B5))
 | .fn (.func f) args::ds,m,H=>∃v up' H',iM AP f args (B1 (m.getD [])) H (.ret v) (B1 up') H'/\bJ aF (mi m up') λ m'=>vL AP rs tm Q ds m' H'
 | .fn (.yield _) _::_,_,_=>False
def vL.run{AP:ak}{rs:List dM}{tm:T AV}{Q:bF->ar->Prop}:∀{ds:List aK}{m:Option aA}{H:ar},vL AP rs tm Q ds m H ->
 ∃e H',Q e H' /\ ∃n0,∀n,n0<=n->bV (AP.call n) rs tm ds m H=B1 (e,H')
 |[],B5,H,h=>by
  obtain⟨l,hl,h⟩:=bJ.elim (m:=aF) h;exact⟨_,_,h,0,λ n _=>by simp[bV,hl]⟩
 |[],B1 c,H,h=>⟨_,_,h,0,λ n _=>by simp[bV]⟩
 | .im b::ds,m,H,⟨hb,h⟩=>by
  obtain⟨e,H',d,n0,g⟩:=vL.run h;exact⟨e,H',d,n0,λ n hn=>by simp[bV,hb,g n hn]⟩
 | .fn (.func f) args::ds,m,H,⟨v,up',H',⟨n0,hc⟩,h⟩=>by
  obtain⟨j,hm,h⟩:=bJ.elim (m:=aF) h;obtain⟨e,i,d,n1,g⟩:=vL.run h;exact⟨e,i,d,max n0 n1,λ n hn=>by simp[bV,hc n (by omega),hm,g n (by omega)]⟩
 | .fn (.yield _) _::_,_,_,h=>Ja h
def QM(AP:ak)(rs:List dM)(Q:bF->Option aA->ar->Prop):ct:=λ e st=>match e with
 | .normal=>vL AP rs st.tm (λ e H=>Q e st.up H) st.aV B5 st.H
 | .ret=>vL AP rs st.tm (λ e H=>Q e st.up H) st.aV B5 st.H
 | .panic c=>vL AP rs st.tm (λ e H=>Q e st.up H) st.aV (B1 c) st.H
 |_=>False
def hH{AP:ak}{f:Nat}{fn:b9}(i:AP.func f=B1 fn){vs:List AV}{up:Option aA}{H:ar}{Q:bF->Option aA->ar->Prop}
 (h:WP AP ⟨B5,f⟩ fn.body ⟨iP 0 vs .nil,[],up,H⟩ (QM AP fn.results Q)):∃e d H',iM AP f vs up H e d H'/\Q e d H':=by
 obtain⟨l,i⟩:=ak.uV i;obtain⟨e,st,g,n0,p⟩:=h.run;have key:∀m,vL AP fn.results st.tm (λ e H=>Q e st.up H) st.aV m st.H->(∀call,oK call fn (e,st)=(bV call fn.results st.tm st.aV m st.H).bind λ q=>B1 (q.1,st.up,q.2)) ->
  ∃e d H',iM AP f vs up H e d H'/\Q e d H':=by
  intro m g he;obtain⟨e',H',o,n1,r⟩:=g.run;refine⟨e',st.up,H',⟨max n0 n1+1,λ n hn=>?_⟩,o⟩;obtain⟨n,rfl⟩:∃j,n=j+1:=⟨n-1,by omega⟩
  have:=p n n (by omega) (by omega);simp only[t9]at this;rw[ak.vS l];simp only[EG,i,qm,exec,this,he,r n (by omega)]
 cases e with
 |normal=>exact key B5 g λ _=>rfl
 |ret=>exact key B5 g λ _=>rfl
 |panic c=>exact key (B1 c) g λ _=>rfl
 |exit _=>exact Ja g
 |goto _=>exact Ja g
def YP{AP:ak}{f:Nat}{fn:b9}(g:AP.func f=B1 fn){vs:List AV}{H:ar}{Q:bF->ar->Prop}
 (h:WP AP ⟨B5,f⟩ fn.body ⟨iP 0 vs .nil,[],B5,H⟩ (QM AP fn.results λ e up H=>up=B5/\Q e H)):∃e H',CALL AP f vs H e H'/\Q e H':=by
 obtain⟨e,i,H',c,rfl,d⟩:=hH g h;exact⟨e,H',c,d⟩
def RE(l:Nat)(Q:bF->ar->Prop):ct:=λ e st=>st.aV=[]/\match e with
 | .panic c=>Q (.panic c) st.H
 |e=>bJ aF (cA st.H l (cond (vC e) .ready .done) (jK e)) λ H=>Q (.ret (.bool (vC e))) H
def RB(W:St->ct->Prop)(l:Nat)(Q:bF->ar->Prop):ct:=λ e st=>match e with
 | .normal=>bJ aF (beginRound st.H l) λ H=>W {st with H:=H} (RE l Q)
 |_=>False
def Za{AP:ak}{l:Nat}{H:ar}{s:lP}{p:Option gH}{f k:Nat}{tm:T AV}{d:Nat}{fn:b9}{lp:dT}{vs:List AV}{u:T AV}{Q:bF->ar->Prop}
 (hl:H.get l=B1 (.loop s p f k tm d)) (y:AP.func f=B1 fn) (hk:nth fn.loops k=B1 lp) (hb:Io tm lp.params vs=B1 u)
 (h:WP AP ⟨B1 l,f⟩ lp.assign ⟨u,[],B5,H⟩ (RB (WP AP ⟨B1 l,f⟩ lp.body) l Q)):∃e H',qF AP l vs H e H'/\Q e H':=by
 obtain⟨F,y⟩:=ak.uV y;obtain⟨e,st,o,n0,J⟩:=h.run;cases e with
 |normal =>
  obtain⟨N,x,o⟩:=bJ.elim (m:=aF) o;obtain⟨e,z,⟨C,g⟩,n1,L⟩:=WP.run o;have key:∀e' H',Q e' H'->DZ l (e,z)=B1 (e',H') -> ∃e H',qF AP l vs H e H'/\Q e H':=by
   intro e' H' G he;refine⟨e',H',⟨max n0 n1+1,λ n j hn O=>?_⟩,G⟩;obtain⟨j,rfl⟩:∃i,j=i+1:=⟨j-1,by omega⟩
   have r:=J n j (by omega) (by omega);have t:=L n j (by omega) (by omega);simp only[t9]at r t;simp only[rounds,roundOf,hl,y,qm,hk,hb,exec,r,x,t,C,roundOf.noDefs,xg,he]
  cases e with
  |panic c=>exact key _ _ g rfl
  |normal=>obtain⟨w,q,g⟩:=bJ.elim (m:=aF) g;exact key _ _ g (by simp[DZ,q])
  |exit id=>obtain⟨w,q,g⟩:=bJ.elim (m:=aF) g;exact key _ _ g (by simp[DZ,q])
  |goto id=>obtain⟨w,q,g⟩:=bJ.elim (m:=aF) g;exact key _ _ g (by simp[DZ,q])
  |ret=>obtain⟨w,q,g⟩:=bJ.elim (m:=aF) g;exact key _ _ g (by simp[DZ,q])
 |exit _=>exact Ja o
 |goto _=>exact Ja o
 |ret=>exact Ja o
 |panic _=>exact Ja o
def CALL.Bi{AP:ak}{f:Nat}{vs:List AV}{H:ar}{e:bF}{H':ar}(h:CALL AP f vs H e H'):∃n,AP.call n f vs B5 H=B1 (e,B5,H'):=by
 obtain⟨n,h⟩:=h;exact⟨n,h n (qg n)⟩
end
end Go.Am
namespace Go.Am
abbrev Env:=List (Nat×AV)
def jS(dst:Option Nat)(v:AV)(E:Env):Env:=match dst with
 |some d=>(d,v)::E
 |none=>E
def qR{α β:Type}(m:Bool)(o:Option (α×β))(K:Bool -> α -> β->Prop):Prop:=match o with
 |some a=>K aF a.1 a.2
 |none=>False
def LK{α:Type}(m:Bool)(o:Option α)(K:Bool -> α->Prop):Prop:=match o with
 |some a=>K m a
 |none=>False
def Dg{α:Type}(a:α)(K:Bool -> α->Prop):LK B4 (B1 a) K=K B4 a:=propext jg
@[congr]def ab8{α:Type}{m c:Bool}{o o':Option α}{K:Bool -> α->Prop}(hm:m=c)(h:o=o'):LK m o K=LK c o' K:=by grind
@[congr]def aa5{α β:Type}{m c:Bool}{o o':Option (α×β)}{K:Bool -> α -> β->Prop}(hm:m=c)(h:o=o'):qR m o K=qR c o' K:=by grind
theorem qR.intro{α β:Type}{m:Bool}{o:Option (α×β)}{K:Bool -> α -> β->Prop}{a:α}{b:β}(h:o=B1 (a,b))(hk:K aF a b):qR m o K:=by subst h;exact hk
noncomputable section
variable(AP:ak)
end
end Go.Am
namespace Go.Am
def xhl(n:Int):aj .i64 n=(n+9223372036854775808) % 18446744073709551616-9223372036854775808:=by
 simp[aj,IntKind.wrap,IntKind.bits,KB.signed];split<;>omega
def Ze(n:Int):aj .u64 n=n % 18446744073709551616:=by simp[aj,IntKind.wrap,IntKind.bits,KB.signed]
theorem jr{n:Int}(h:-9223372036854775808<=n)(c:n<9223372036854775808):aj .i64 n=n:=by rw[xhl];omega
def XN{n:Int}(h:0<=n)(c:n<18446744073709551616):aj .u64 n=n:=by rw[Ze];omega
section
variable(k:KB)(a b:Int)
def GF(v:AV):Op.move [v]=B1 v:=rfl
def Gg(q:Bool)(a b:AV):Op.pick [.bool q,a,b]=B1 (cond q a b):=rfl
def Kq:Op.bin .add [.int k a,.int k b]=B1 (.int k (aj k (a+b))):=by cases k<;>rfl
def MB:Op.bin .sub [.int k a,.int k b]=B1 (.int k (aj k (a-b))):=by cases k<;>rfl
def Lb:Op.bin .mul [.int k a,.int k b]=B1 (.int k (aj k (a*b))):=by cases k<;>rfl
theorem Kh(hb:b≠0):Op.bin .quo [.int k a,.int k b]=B1 (.int k (aj k (a.tdiv b))):=by
 have:rS b 0=false:=by rw[yJ];simpa using hb
 cases k<;>simp[Op.bin,mJ,dC,ry,jG,fH,this]
theorem rA(hb:b≠0):Op.bin .rem [.int k a,.int k b]=B1 (.int k (a.tmod b)):=by
 have:rS b 0=false:=by rw[yJ];simpa using hb
 cases k<;>simp[Op.bin,mJ,dC,ry,jG,fH,this]
def MI:Op.bin .eql [.int k a,.int k b]=B1 (.bool (decide (a=b))):=by
 have:rS a b=decide (a=b):=by rw[yJ];rfl
 cases k<;>simp[Op.bin,mJ,dC,ry,jG,fH,this]
def KS:Op.bin .neq [.int k a,.int k b]=B1 (.bool (decide (a≠b))):=by
 have:rS a b=decide (a=b):=by rw[yJ];rfl
 cases k<;>simp[Op.bin,mJ,dC,ry,jG,fH,this]
def J5:Op.bin .lss [.int k a,.int k b]=B1 (.bool (decide (a<b))):=by
 cases k<;>simp[Op.bin,mJ,dC,ry,jG,fH,HZ]
def J1:Op.bin .leq [.int k a,.int k b]=B1 (.bool (decide (a<=b))):=by
 cases k<;>simp[Op.bin,mJ,dC,ry,jG,fH,Jn]
def JY:Op.bin .gtr [.int k a,.int k b]=B1 (.bool (decide (b<a))):=by
 cases k<;>simp[Op.bin,mJ,dC,ry,jG,fH,HZ]
def Mf:Op.bin .geq [.int k a,.int k b]=B1 (.bool (decide (b<=a))):=by
 cases k<;>simp[Op.bin,mJ,dC,ry,jG,fH,Jn]
def GY(k':KB):Op.wrap k [.int k' a]=B1 (.int k (aj k a)):=rfl
def Kr(q:Bool):Op.un .not [.bool q]=B1 (.bool (!q)):=rfl
def Y9(a b:List UInt8):wD a b=decide (a=b):=by
 by_cases h:a=b
 .subst h;simp[GS]
 .simp [GS,h]
def GM(a b:List UInt8):Op.bin .eql [.str a,.str b]=B1 (.bool (decide (a=b))):=by
 simp only[Op.bin,mJ,pA,Y9]
def HS(a b:List UInt8):Op.bin .neq [.str a,.str b]=B1 (.bool (decide (a≠b))):=by
 simp[Op.bin,mJ,pA,Y9]
def Cn(s:List UInt8):Op.fh [.str s]=B1 (.int .i64 s.length):=by simp[Op.fh,d9,Ea]
def F_(i:Nat)(l:List AV):Op.extract i [.tuple l]=l[i]?:=by simp[Op.extract,kX]
def af8(f n:Nat)(l:List AV):Op.bS f n l=B1 (.fn (.func f) (l.take n) (l.drop n)):=rfl
def xgt(t:Nat)(v:AV):Op.dm t [v]=B1 (.iface t v):=rfl
def h_(off b o:Nat):Op.fieldAddr off [.ptr b o]=B1 (.ptr b (o+off)):=rfl
def zQ(off:Nat)(l:List AV):Op.field off B5 [.agg l]=l[off]?:=by simp[Op.field,partAt,kX]
def Gk(q:Bool):cJ B4 (B1 (.bool q))=B1 q:=by cases q<;>rfl
def Dk(q:Bool):cJ B2 (B1 (.bool q))=B1 (!q):=by cases q<;>rfl
def Dp(b:Bool):cJ b (B1 .undef)=B1 false:=rfl
end
structure Fr(W:Nat->Prop)(H H':ar):Prop where
 au:H.au<=H'.au
 ah:∀b,b<H.au -> ¬W b->H'.get b=H.get b
def Em:Nat->Prop:=λ _=>False
def On(b:Nat):Nat->Prop:=λ x=>x=b
theorem Fr.refl{W:Nat->Prop}(H:ar):Fr W H H:=⟨qg _,λ _ _ _=>rfl⟩
theorem Fr.trans{W W':Nat->Prop}{H H1 d:ar}(a:Fr W H H1)(b:Fr W' H1 d)(h:∀x,W' x->W x\/H.au<=x):Fr W H d :=
 ⟨xm a.au b.au,λ x f hw=>by
  rw[b.ah x (qj f a.au) (λ c=>(h x c).elim hw (λ q=>by omega)),a.ah x f hw]⟩
def Fr.em{W:Nat->Prop}{H H1 c:ar}(a:Fr W H H1)(b:Fr Em H1 c):Fr W H c:=a.trans b λ _ h=>h.elim
def Fr.mono{W W':Nat->Prop}{H H':ar}(a:Fr W H H')(h:∀x,x<H.au->W x->W' x):Fr W' H H':=⟨a.au,λ x c hw=>a.ah x c λ q=>hw (h x c q)⟩
theorem xt(H:ar)(o:bB):(H.alloc o).au=H.au+1:=rfl
theorem si(H:ar)(b:Nat)(o:bB):(H.set b o).au=H.au:=rfl
theorem D9(H:ar)(b:Nat):(H.kill b).au=H.au:=rfl
theorem Fr.alloc{W:Nat->Prop}{H H1:ar}(a:Fr W H H1)(o:bB):Fr W H (H1.alloc o) :=
 ⟨Nat.le_succ_of_le a.au,λ x c hw=>by rw[ar.bG,qn (by have:=a.au;omega),a.ah x c hw]⟩
theorem Fr.set{W:Nat->Prop}{H H1:ar}(a:Fr W H H1){b:Nat}(h:W b\/H.au<=b)(o:bB):Fr W H (H1.set b o) :=
 ⟨a.au,λ x c hw=>by rw[ar.aH,qn (by rintro rfl;exact h.elim hw (λ q=>by omega)),a.ah x c hw]⟩
def Fr.kill{W:Nat->Prop}{H H1:ar}(a:Fr W H H1){b:Nat}(h:W b\/H.au<=b):Fr W H (H1.kill b) :=
 ⟨a.au,λ x c hw=>by rw[ar.oY,qn (by rintro rfl;exact h.elim hw (λ q=>by omega)),a.ah x c hw]⟩
theorem qt{H:ar}{b:Nat}{c:List AV}{e:Nat}{fz:Nat×Nat}{ow:Bool}(h:H.get b=B1 (.row c e fz ow)):H.bM b=B1 c:=by simp[ar.bM,h]
def TN{H:ar}{b m s:Nat}{c:List AV}{e:Nat}{fz:Nat×Nat}(h:H.get b=B1 (.grown m s c e fz)):H.bM b=B1 c:=by simp[ar.bM,h]
def VX{H H':ar}{b:Nat}(h:H'.get b=H.get b):H'.bM b=H.bM b:=by simp[ar.bM,h]
def Fr.cells{W:Nat->Prop}{H H':ar}(a:Fr W H H'){b:Nat}(hb:b<H.au)(hw:¬W b):H'.bM b=H.bM b:=VX (a.ah b hb hw)
def xv{H:ar}{b:Nat}{c:List AV}(h:H.bM b=B1 c)(o:Nat):Op.ae [.ptr b o] H=c[o]?:=by simp[Op.ae,ar.ae,h,kX]
theorem sf{H:ar}{b:Nat}{c:List AV}(h:H.bM b=B1 c){o n:Nat}(hn:o+n<=c.length):Op.av n [.ptr b o] H=B1 (.agg ((c.drop o).take n)):=by
 simp only[Op.av,ar.av,h,qm,tw];rw[qv (by omega)];rfl
def Sl(H:ar)(size:Nat)(v:AV)(n:Nat)(cells:List AV):Prop :=
 cells.length=n*size/\match v with
 | .nils=>n=0
 | .slice b o m c=>m=n/\n<=c/\(n=0\/b<H.au /\ ∃all,H.bM b=B1 all/\fg all o (n*size)=B1 cells)
 | .gslice b i m s alt k=>k=n/\s=size/\i+n<=m/\(n=0\/b<H.au /\ ∃all,H.bM b=B1 all/\fg all (i*size) (n*size)=B1 cells)
 | .eslice b=>n=0/\b<H.au
 |_=>False
def aG:AV->Nat
 | .slice b _ _ _=>b
 | .gslice b _ _ _ _ _=>b
 | .eslice b=>b
 |_=>0
def cw(size:Nat):AV->Nat->Nat
 | .slice _ o _ _,j=>o+j*size
 | .gslice _ i _ s _ _,j=>i*s+j*s
 |_,_=>0
def Sl.eL{H:ar}{size:Nat}{v:AV}{n:Nat}{cells:List AV}(h:Sl H size v n cells):eL v=B1 n:=by
 obtain⟨_,h⟩:=h;split at h
 .subst h;rfl
 .obtain ⟨rfl,_⟩:=h;rfl
 .obtain ⟨rfl,_⟩:=h;rfl
 .obtain ⟨rfl,_⟩:=h;rfl
 .exact h.elim
def Sl.len{H:ar}{size:Nat}{v:AV}{n:Nat}{cells:List AV}(h:Sl H size v n cells):Op.dg [v]=B1 (.int .i64 n):=by
 obtain⟨_,h⟩:=h;split at h
 .subst h;rfl
 .obtain ⟨rfl,_⟩:=h;rfl
 .obtain ⟨rfl,_⟩:=h;rfl
 .obtain ⟨rfl,_⟩:=h;rfl
 .exact h.elim
def It{z:Int}{i n:Nat}(c:z=i)(h:i<n):within z n=B1 i:=by
 subst c;show cond (KI i n) (B1 i) B5=B1 i;have:KI i n=true:=by simpa[uv]using h
 rw[this];rfl
def HV{i j:Nat}(h:i≠j):FW i j=false:=by
 cases q:FW i j with
 |false=>rfl
 |true=>exact(h (ve q)).elim
def CW{i n:Nat}(h:i<n):KI i n=true:=by simpa[uv]using h
theorem kr{i n:Nat}(h:i<=n):Jo i n=true:=by simpa using h
def Sl.idx{H:ar}{size:Nat}{v:AV}{n:Nat}{cells:List AV}(h:Sl H size v n cells){i:Nat}(d:i<n){z:Int}(g:z=i)(k:KB) :
 Op.aN size [v,.int k z]=B1 (.ptr (aG v) (cw size v i)):=by
 obtain⟨hl,h⟩:=h;split at h
 .omega
 .rename_i b o m c;obtain⟨rfl,p,h⟩:=h;have f:=CW d;simp[Op.aN,Am.eL,It g d,elemAt,f,aG,cw]
 .rename_i b j m s alt k;obtain⟨rfl,rfl,hm,h⟩:=h;have f:=CW d;have l:=CW (show j+i<m by omega);simp[Op.aN,Am.eL,It g d,elemAt,f,l,aG,cw]
 .omega
 .exact h.elim
def Ov{α:Type}{l r:List α}{o n:Nat}(h:fg l o n=B1 r):n<=l.length-o/\r=(l.drop o).take n:=by
 rw[tw]at h;split at h
 .rename_i hn;injection h with h;exact⟨hn,h.symm⟩
 .cases h
def Sl.at{H:ar}{size:Nat}{v:AV}{n:Nat}{cells:List AV}(g:0<size)(h:Sl H size v n cells){i:Nat}(p:i<n) :
 aG v<H.au /\ ∃all,H.bM (aG v)=B1 all/\cw size v i+size<=all.length /\ ∀j,j<size->all[cw size v i+j]? = cells[i*size+j]?:=by
 obtain⟨hl,h⟩:=h;have t:0<n*size:=Nat.mul_pos (by omega) g;have u:i*size+size<=n*size:=by rw[<-vq];exact jy _ p
 split at h
 .omega
 .rename_i b o m c;obtain⟨rfl,w,h⟩:=h;rcases h with h|⟨hb,all,d,f⟩
  .omega
  obtain⟨l,rfl⟩:=Ov f;refine⟨hb,all,d,?_,λ j r=>?_⟩
  .simp only[cw];simp at hl;omega
  .simp only[cw];rw[IL,qv (by omega),yt];congr 1;omega
 .rename_i b q m s alt k;obtain⟨rfl,rfl,hm,h⟩:=h;rcases h with h|⟨hb,all,d,f⟩
  .omega
  obtain⟨l,rfl⟩:=Ov f;refine⟨hb,all,d,?_,λ j r=>?_⟩
  .simp only[cw];simp at hl;omega
  .simp only[cw];rw[IL,qv (by omega),yt];congr 1;omega
 .omega
 .exact h.elim
def Sl.fr{H H':ar}{W:Nat->Prop}{size:Nat}{v:AV}{n:Nat}{cells:List AV}(h:Sl H size v n cells)(f:Fr W H H')(hw:n=0 \/ ¬W (aG v)):Sl H' size v n cells:=by
 obtain⟨hl,h⟩:=h;refine⟨hl,?_⟩;split at h
 .exact h
 .obtain ⟨d,g,c⟩:=h;refine⟨d,g,?_⟩;rcases c with c|⟨hb,all,c,i⟩
  .exact .inl c
  .rcases hw with hw|hw
   .exact .inl hw
   .exact .inr ⟨qj hb f.au,all,by rw[f.cells hb hw];exact c,i⟩
 .obtain ⟨d,g,j,c⟩:=h;refine⟨d,g,j,?_⟩;rcases c with c|⟨hb,all,c,i⟩
  .exact .inl c
  .rcases hw with hw|hw
   .exact .inl hw
   .exact .inr ⟨qj hb f.au,all,by rw[f.cells hb hw];exact c,i⟩
 .exact ⟨h.1,qj h.2 f.au⟩
 .exact h.elim
def Sl.em{H H':ar}{size:Nat}{v:AV}{n:Nat}{cells:List AV}(h:Sl H size v n cells)(f:Fr Em H H'):Sl H' size v n cells:=h.fr f (.inr id)
def Sl.first{H:ar}{size:Nat}{v:AV}{n:Nat}{cells:List AV}(h:Sl H size v n cells):firstCells H size n v=B1 cells:=by
 obtain⟨hl,h⟩:=h;split at h
 .subst h;simp at hl;subst hl;rfl
 .rename_i b o m c;obtain⟨rfl,j,h⟩:=h;rcases h with rfl|⟨hb,all,d,f⟩
  .simp at hl;subst hl;rfl
  .by_cases hn:m=0
   .subst hn;simp at hl;subst hl;rfl
   .have:FW m 0=false:=HV hn;simp only[firstCells,this,ze,ar.av,d,qm,f]
 .rename_i b i m s alt k;obtain⟨rfl,rfl,hm,h⟩:=h;rcases h with rfl|⟨hb,all,d,f⟩
  .simp at hl;subst hl;rfl
  .by_cases hn:k=0
   .subst hn;simp at hl;subst hl;rfl
   .have:FW k 0=false:=HV hn;have g:=CW (show i<m by omega);simp[firstCells,this,g,ar.av,d,f]
 .obtain ⟨rfl,_⟩:=h;simp at hl;subst hl;rfl
 .exact h.elim
def eS{α:Type}(enc:α->List AV)(size:Nat)(H:ar)(v:AV)(xs:List α):Prop:=Sl H size v xs.length (xs.flatMap enc)
section
variable{α:Type}{enc:α->List AV}{size:Nat}{H H':ar}{v:AV}{xs:List α}
def eS.len(h:eS enc size H v xs):Op.dg [v]=B1 (.int .i64 xs.length):=Sl.len h
def eS.fr{W:Nat->Prop}(h:eS enc size H v xs)(f:Fr W H H')(hw:¬W (aG v)):eS enc size H' v xs:=Sl.fr h f (.inr hw)
def eS.em(h:eS enc size H v xs)(f:Fr Em H H'):eS enc size H' v xs:=Sl.em h f
theorem FD(hs:∀x,(enc x).length=size):∀(xs:List α){i:Nat}{x:α},xs[i]? = B1 x -> ∀{j:Nat},j<size->(xs.flatMap enc)[i*size+j]? = (enc x)[j]?
 |[],i,x,h,j,hj=>by simp at h
 |y::ys,0,x,h,j,hj=>by
  simp at h;subst h;rw[jv,ya (by rw[hs];omega)];simp
 |y::ys,i+1,x,h,j,hj=>by
  simp only[zw]at h;rw[jv,z7 (by rw[hs,vq];omega),hs,<-FD hs ys h hj];congr 1;rw[vq];omega
def Gc{i:Nat}{x:α}(h:xs[i]? = B1 x):i<xs.length:=(qo.1 h).1
def eS.idx(h:eS enc size H v xs){i:Nat}{x:α}(c:xs[i]? = B1 x){z:Int}(d:z=i)(k:KB):Op.aN size [v,.int k z]=B1 (.ptr (aG v) (cw size v i)) :=
 Sl.idx h (Gc c) d k
def eS.ae(hs:∀x,(enc x).length=size)(h:eS enc size H v xs){i:Nat}{x:α}(d:xs[i]? = B1 x){j:Nat}(c:j<size):Op.ae [.ptr (aG v) (cw size v i+j)] H=(enc x)[j]?:=by
 obtain⟨_,all,f,l,g⟩:=Sl.at (by omega) h (Gc d);rw[xv f,g j c,FD hs xs d c]
def eS.nj(hs:∀x,(enc x).length=size)(h:eS enc size H v xs){i:Nat}{x:α}(d:xs[i]? = B1 x)(c:0<size):Op.ae [.ptr (aG v) (cw size v i)] H=(enc x)[0]?:=h.ae hs d c
def eS.av(hs:∀x,(enc x).length=size)(d:0<size)(h:eS enc size H v xs){i:Nat}{x:α}(f:xs[i]? = B1 x):Op.av size [.ptr (aG v) (cw size v i)] H=B1 (.agg (enc x)):=by
 obtain⟨_,all,g,l,m⟩:=Sl.at d h (Gc f);rw[sf g l];congr 2;refine j0 λ j=>?_
 by_cases c:j<size
 .rw [IL,qv c,yt,m j c,FD hs xs f c]
 .rw [jf (by simp;omega),jf (by rw[hs];omega)]
end
def Own(H:ar)(e size:Nat)(v:AV)(n:Nat)(cells:List AV):Prop :=
 cells.length=n*size/\(n=0/\(v=.nils \/ ∃b,v=.slice b 0 0 0/\b<H.au) \/ ∃b,v=.gslice b 0 n size 0 n/\b<H.au/\H.get b=B1 (.grown n size cells e (0,0)))
def bm(v:AV):Nat->Prop:=λ x=>v≠ .nils/\x=aG v
theorem Own.nil(H:ar)(e size:Nat):Own H e size .nils 0 []:=⟨by simp,.inl ⟨rfl,.inl rfl⟩⟩
def Own.sl{H:ar}{e size:Nat}{v:AV}{n:Nat}{cells:List AV}(h:Own H e size v n cells):Sl H size v n cells:=by
 obtain⟨hl,⟨rfl,rfl|⟨b,rfl,hb⟩⟩|⟨b,rfl,c,d⟩⟩:=h
 .exact ⟨hl,rfl⟩
 .exact ⟨hl,rfl,qg _,.inl rfl⟩
 .refine ⟨hl,rfl,rfl,by omega,.inr ⟨c,cells,TN d,?_⟩⟩;rw[tw,qv (by simp[hl])];simp[<-hl]
def Own.fr{H H':ar}{W:Nat->Prop}{e size:Nat}{v:AV}{n:Nat}{cells:List AV}(h:Own H e size v n cells)(f:Fr W H H')(hw:∀x,bm v x -> ¬W x):Own H' e size v n cells:=by
 obtain⟨hl,⟨c,h|⟨b,rfl,hb⟩⟩|⟨b,rfl,d,g⟩⟩:=h
 .exact ⟨hl,.inl ⟨c,.inl h⟩⟩
 .exact ⟨hl,.inl ⟨c,.inr ⟨b,rfl,qj hb f.au⟩⟩⟩
 .exact ⟨hl,.inr ⟨b,rfl,qj d f.au,by rw[f.ah b d (hw b ⟨by simp,rfl⟩)];exact g⟩⟩
def Own.em{H H':ar}{e size:Nat}{v:AV}{n:Nat}{cells:List AV}(h:Own H e size v n cells)(f:Fr Em H H'):Own H' e size v n cells:=h.fr f λ _ _ h=>h
def Own.lt{H:ar}{e size:Nat}{v:AV}{n:Nat}{cells:List AV}(h:Own H e size v n cells):∀x,bm v x->x<H.au:=by
 rintro x ⟨c,rfl⟩;obtain⟨hl,⟨d,h|⟨b,rfl,hb⟩⟩|⟨b,rfl,c,f⟩⟩:=h
 .exact (c h).elim
 .exact hb
 .exact c
def Sl.one{H:ar}{size:Nat}{v:AV}{n:Nat}{cells:List AV}(h:Sl H size v n cells):aC v=true:=by
 obtain⟨_,h⟩:=h;cases v<;>first|rfl|exact h.elim
def Pe{n bytes:Nat}(c:n*bytes<=140737488355328)(d:n<=140737488355328):fits n bytes=true:=by
 simp[fits,c,d]
theorem UQ{H:ar}{e size bytes:Nat}{v:AV}{n:Nat}{cells:List AV}(h:Own H e size v n cells){x:AV}{k:Nat}{new:List AV}(q:Sl H size x k new)(g:aP new=B4)(hs:0<size)
 (w:(n+k)*bytes<=140737488355328) (o:n+k<=140737488355328) {K:Bool->AV->ar->Prop} {m:Bool}
 (hk:∀r H',Own H' e size r (n+k) (cells++new)->Fr (bm v) H H'->(∀b,bm r b->bm v b\/H.au<=b)->K aF r H'):qR m (Op.append e size bytes [v,x] H) K:=by
 have c:=Pe w o;have hlen:new.length=k*size:=q.1;have f:=CW hs;have l:∀n,FW n n=true:=λ n=>by simp
 simp only[Op.append,q.eL,q.first,qm,g,xg];obtain⟨hl,⟨rfl,rfl|⟨b,rfl,hb⟩⟩|⟨b,rfl,t,s⟩⟩:=h
 .simp only[yO,j6]at hl;subst hl
  by_cases d:k=0
  .subst d;simp at hlen;subst hlen;exact hk .nils H (Own.nil H e size) (Fr.refl H) λ b hb=>.inl hb
  .have i:FW k 0=false:=HV d;simp only[cK,i,ze,yu]at c⊢;simp only[c,f,jb,xg,cZ,qR];refine hk _ _ ⟨by simpa using hlen,.inr ⟨H.au,by simp,by rw[xt];omega,?_⟩⟩ ((Fr.refl H).alloc _) λ b hb=>.inr (by rw[hb.2];exact qg _);rw[ar.bG,qv rfl];simp
 .simp only[yO,j6]at hl;subst hl
  by_cases d:k=0
  .subst d;simp at hlen;subst hlen;simp only[cK,zJ,kr (qg 0),xg,l,qR];exact hk _ H ⟨by simp,.inl ⟨rfl,.inr ⟨b,rfl,hb⟩⟩⟩ (Fr.refl H) λ b hb=>.inl hb
  .have i:FW k 0=false:=HV d;have j:Jo k 0=false:=by cases p:Jo k 0 with|false=>rfl|true=>rw[vd]at p;omega
   have u:firstCells H size 0 (.slice b 0 0 0)=B1 []:=rfl;simp only[cK,yu,j,ze]at c⊢;simp only[c,kr (xu k),f,jb,xg,u,qm,wx,jh,cZ,qR];refine hk _ _ ⟨by simpa using hlen,.inr ⟨H.au,by simp,by rw[xt];omega,?_⟩⟩ ((Fr.refl H).alloc _) λ b hb=>.inr (by rw[hb.2];exact qg _);rw[ar.bG,qv rfl];simp
 .by_cases d:k=0
  .subst d;simp at hlen;subst hlen;simp only[cK,FW,xg,yu,kr (qg n),qR];refine hk _ _ ⟨by simpa using hl,.inr ⟨b,rfl,t,by simpa using s⟩⟩ (Fr.refl H) λ b hb=>.inl hb
  .have i:FW k 0=false:=HV d;have j:Jo (0+n+k) n=false:=by cases p:Jo (0+n+k) n with|false=>rfl|true=>rw[vd]at p;omega
   simp only[cK,i,ze,l,yu,kr (qg n),f,jb,xg]at j⊢;simp only[j,ze,c,xg,s,l,jb,FW,kr (xu (n*size)),cZ,qR];refine hk _ _ ⟨by simp[hl,hlen,yk],.inr ⟨H.au,by simp[D9],by rw[xt,D9];omega,?_⟩⟩ (((Fr.refl H).kill (.inl ⟨by simp,rfl⟩)).alloc _) λ b hb=>.inr (by rw[hb.2];exact qg _);rw[ar.bG,D9,qv rfl,wx]
def Uz(e n:Nat)(zero:List AV)(v:AV)(f:zero.length=n)(d:v.cells.length=n):Op.buildSlice e 1 zero [(0,n)] [v]=B1 (.row v.cells e (0,0) B4,Op.sliceTo 1 1):=by
 have c:∀n,FW n n=true:=λ n=>by simp
 simp only[Op.buildSlice,fp,wx,zu,iD,Ea,d,c,xg,Ct,yu,f,qv (qg n),yn,jh,qm];rw[jd (by omega)];simp
def zM{H:ar}{size e:Nat}{cells:List AV}(c:cells.length=size):Sl (H.alloc (.row cells e (0,0) B4)) size (Op.sliceTo 1 1 H.au) 1 cells:=by
 refine⟨by simp[c],rfl,qg 1,.inr ⟨by rw[xt];omega,cells,qt (by rw[ar.bG,qv rfl]),?_⟩⟩;rw[tw,qv (by simp[c])];simp[<-c]
def Dw{H:ar}{e size bytes:Nat}{v:AV}{n:Nat}{cells:List AV}(h:Own H e size v n cells){zero:List AV}{x:AV}(t:zero.length=size)(l:x.cells.length=size)(d:aP x.cells=B4)(hs:0<size)
 (s:(n+1)*bytes<=140737488355328) (i:n+1<=140737488355328) {K:bB->(Nat->AV)->Bool->AV->ar->Prop} {m:Bool}
 (hk:∀f H',Own H' e size f (n+1) (cells++x.cells)->Fr (bm v) H H'->(∀b,bm f b->bm v b\/H.au<=b)->K (.row x.cells e (0,0) B4) (Op.sliceTo 1 1) aF f H') :
 qR m (Op.buildSlice e 1 zero [(0,size)] [x]) λ g o mk=>qR g (Op.append e size bytes [v,mk H.au] (H.alloc o)) (K o mk):=by
 rw[Uz e size zero x t l];have c:Fr Em H (H.alloc (.row x.cells e (0,0) B4)):=(Fr.refl H).alloc _;refine qR.intro rfl ?_;refine UQ (m:=aF) (h.em c) (zM l) d hs s i λ f H' p j r=>hk f H' p ?_ λ b hb=>?_
 .exact ⟨xm c.au j.au,λ b hb hw=>by rw[j.ah b (qj hb c.au) hw,c.ah b hb (λ q=>q)]⟩
 .exact (r b hb).imp id λ q=>xm c.au q
theorem Gy.intro{W:St->ct->Prop}{ah:Option (List Nat)}{st:St}{Q:ct}(I:Nat->St->Prop)(n:Nat)(d:I n st)
 (h:∀n st,I n st->W (jJ ah st) λ e c=>match e with
  | .normal=>∃m,m<n/\I m c
  |e=>Q e c):Gy W ah st Q:=⟨I,⟨n,d⟩,h⟩
end Go.Am
namespace Go.Am
def C7(H:ar)(tm:T AV)(t:Nat)(rs:List dM):dD H tm (.tmp t::rs)=(tm.get t).bind λ v=>(dD H tm rs).bind λ vs=>B1 (v::vs):=rfl
def ε(H:ar)(tm:T AV)(t:Nat)(rs:List dM):dD H tm (.jL t::rs)=(((tm.get t).bind λ v=>Op.ae [v] H)).bind λ v=>(dD H tm rs).bind λ vs=>B1 (v::vs):=by
 simp only[dD,Jq];congr 1;cases tm.get t with
 |none=>rfl
 |some v=>cases v<;>rfl
def xg7(H:ar)(tm:T AV)(n t:Nat)(rs:List dM):dD H tm (.dq n t::rs)=(((tm.get t).bind λ v=>Op.av n [v] H)).bind λ v=>(dD H tm rs).bind λ vs=>B1 (v::vs):=by
 simp only[dD,Jq];congr 1;cases tm.get t with
 |none=>rfl
 |some v=>cases v<;>rfl
def TS(v:AV):iF [v]=v:=rfl
def Ra:iF []=.tuple []:=rfl
def Ut(a b:AV)(l:List AV):iF (a::b::l)=.tuple (a::b::l):=rfl
def LV(b:Nat):Op.ptrTo b=.ptr b 0:=rfl
def ah2(t:aM)(x y:AV)(H:ar)(q:Bool)(h:aZ t x y=B1 q):Op.eq (.agg t) B4 [x,y] H=B1 (.bool (!q)):=by simp[Op.eq,E9,h]
def vA(t:aM)(x y:AV)(H:ar)(q:Bool)(h:aZ t x y=B1 q):Op.eq (.agg t) B2 [x,y] H=B1 (.bool q):=by simp[Op.eq,E9,h]
structure iW where
 kind:Int
 time:Int
 core:Int
 block:Int
 Ip:Int
 lane:Int
 addr:Int
 value:Int
 code:Int
deriving DecidableEq
def iW.enc(x:iW):List AV:=[.int .i64 x.kind,.int .i64 x.time,.int .i64 x.core,.int .i64 x.block,.int .i64 x.Ip,.int .i64 x.lane,.int .i64 x.addr,.int .u64 x.value,.int .i64 x.code]
def iW.len(x:iW):x.enc.length=9:=rfl
def VT(a b:Int):rS a b=decide (a=b):=by rw[yJ];rfl
end Go.Am
namespace Go.Am
theorem T.uG{α:Type}(v c:Option α):∀(p:List Bool)(t:T α),T.eU v p (T.eU c p t)=T.eU v p t
 |[],t=>rfl
 |b::p,t=>by cases b<;>simp[T.eU,T.l,T.r,T.val,T.uG v c p]
def xer(H:ar)(o o':bB):(H.alloc o).set H.au o'=H.alloc o':=by
 grind [ar.alloc,ar.set,T.set,T.put,T.uG]
theorem xf(H:ar)(o:bB):(H.alloc o).get H.au=B1 o:=by rw[ar.bG,qv rfl]
def de(H:ar)(o:bB):∃Z,Z=H.alloc o/\Fr Em H Z/\Z.au=H.au+1/\Z.get H.au=B1 o:=⟨_,rfl,(Fr.refl H).alloc _,xt ..,xf ..⟩
theorem yv{H:ar}{b:Nat}(h:b<H.au)(o:bB):(H.alloc o).get b=H.get b:=by rw[ar.bG,qn (by omega)]
theorem xb(H:ar)(b:Nat)(o:bB):(H.set b o).get b=B1 o:=by rw[ar.aH,qv rfl]
theorem jx{H:ar}{b c:Nat}(h:b≠c)(o:bB):(H.set b o).get c=H.get c:=by rw[ar.aH,qn h]
def ta{H:ar}{b:Nat}{c:List AV}{e:Nat}(h:H.get b=B1 (.row c e (0,0) B4)){o n:Nat}{v:AV}(g:v.cells.length=n)(hn:o+n<=c.length)(f:aP v.cells=B4) :
 Op.store n [.ptr b o,v] H=B1 (.undef,H.set b (.row (c.take o++v.cells++c.drop (o+n)) e (0,0) B4)):=by
 have d:∀n,FW n n=true:=λ n=>by simp
 simp only[Op.store,Ea,g,d,xg,ar.store,f,h];have:dS (0,0) o n=true:=by simp[dS]
 simp_all[Ct]
def ql{H:ar}{b m s:Nat}{c:List AV}{e:Nat}(h:H.get b=B1 (.grown m s c e (0,0))){o n:Nat}{v:AV}(g:v.cells.length=n)(hn:o+n<=c.length)(f:aP v.cells=B4) :
 Op.store n [.ptr b o,v] H=B1 (.undef,H.set b (.grown m s (c.take o++v.cells++c.drop (o+n)) e (0,0))):=by
 have d:∀n,FW n n=true:=λ n=>by simp
 simp only[Op.store,Ea,g,d,xg,ar.store,f,h];have:dS (0,0) o n=true:=by simp[dS]
 simp_all[Ct]
def Zs(H:ar)(c:List AV)(e:Nat)(fz:Nat×Nat)(ow:Bool)(n:Nat)(hn:c.length=n):Op.av n [.ptr H.au 0] (H.alloc (.row c e fz ow))=B1 (.agg c):=by
 rw[sf (qt (xf H _)) (by omega)];simp[<-hn]
def bU{α:Type}(enc:α->List AV)(e size:Nat)(H:ar)(v:AV)(xs:List α):Prop:=Own H e size v xs.length (xs.flatMap enc)
structure wR{α:Type}(enc:α->List AV)(e size:Nat)(H0 H:ar)(v:AV)(xs:List α):Prop where
 own:bU enc e size H v xs
 fr:Fr Em H0 H
 fresh:∀b,bm v b->H0.au<=b
section
variable{α:Type}{enc:α->List AV}{e size:Nat}{H0 H H':ar}{v:AV}{xs:List α}
def eS.one(h:eS enc size H v xs):aC v=true:=Sl.one h
theorem wR.nil(H:ar):wR enc e size H H .nils ([]:List α):=⟨Own.nil H e size,Fr.refl H,λ b h=>(h.1 rfl).elim⟩
def wR.sl(h:wR enc e size H0 H v xs):eS enc size H v xs:=Own.sl h.own
def bU.sl(h:bU enc e size H v xs):eS enc size H v xs:=Own.sl h
def wR.em(h:wR enc e size H0 H v xs)(f:Fr Em H H'):wR enc e size H0 H' v xs:=⟨Own.em h.own f,h.fr.em f,h.fresh⟩
def wR.len(h:wR enc e size H0 H v xs):Op.dg [v]=B1 (.int .i64 xs.length):=h.sl.len
def wR.step(h:wR enc e size H0 H v xs){c:AV}{ys:List α}(d:bU enc e size H' c ys)(f:Fr (bm v) H H')(g:∀b,bm c b->bm v b\/H.au<=b):wR enc e size H0 H' c ys :=
 ⟨d,h.fr.trans f λ x i=>.inr (h.fresh x i),λ b hb=>(g b hb).elim (h.fresh b) λ q=>xm h.fr.au q⟩
def OQ{f:α->List AV}(hs:∀x,(f x).length=size):∀(xs:List α){i:Nat}{x:α},xs[i]? = B1 x -> ∀(y:α),(xs.set i y).flatMap f=(xs.flatMap f).take (i*size)++f y++(xs.flatMap f).drop (i*size+size)
 |[],i,x,h,y=>by grind
 |z::zs,0,x,h,y=>by
  grind
 |z::zs,i+1,x,h,y=>by
  simp only[zw]at h;have c:(f z++zs.flatMap f).take ((i+1)*size)=f z++(zs.flatMap f).take (i*size):=by
   grind [vq]
  have d:(f z++zs.flatMap f).drop ((i+1)*size+size)=(zs.flatMap f).drop (i*size+size):=by
   rw[show(i+1)*size+size=(f z).length+(i*size+size)from by rw[hs,vq];omega,vi]
  rw[List.set_cons_succ,jv,jv,OQ hs zs h y,c,d]
  grind
theorem DA(hs:∀x,(enc x).length=size)(l:List α):(l.flatMap enc).length=l.length*size:=by
 induction l with
 |nil=>simp
 |cons a l ih=>grind
def vo{L E:List AV}{c j:Nat}{u:AV}(d:E.length=size)(f:j<size)(hk:c+size<=L.length)(h:∀r,r<size->L[c+r]? = E[r]?) :
 L.take c++E.set j u++L.drop (c+size)=L.set (c+j) u:=by
 refine j0 λ k=>?_
 grind
def bU.u9(hs:∀x,(enc x).length=size)(h:bU enc e size H v xs){i:Nat}{x y:α}(d:xs[i]? = B1 x){j:Nat}(p:j<size){u:AV}(hu:aC u=B4)(q:enc y=(enc x).set j u) :
 ∃H',Op.store 1 [.ptr (aG v) (cw size v i+j),u] H=B1 (.undef,H')/\bU enc e size H' v (xs.set i y)/\Fr (bm v) H H':=by
 obtain⟨hl,h|⟨b,rfl,f,g⟩⟩:=h
 .grind
 .have m:=Gc d;have hb:(i+1)*size<=xs.length*size:=jy _ m;rw[vq]at hb;have l:u.cells=[u]:=by cases u<;>first|rfl|cases hu
  have c:=ql g (o:=i*size+j) (n:=1) (v:=u) (by grind) (by omega) (by grind [ym]);have ho:cw size (AV.gslice b 0 xs.length size 0 xs.length) i=i*size:=by simp[cw]
  rw[ho];refine⟨_,c,⟨?_,.inr ⟨b,?_,f,?_⟩⟩,(Fr.refl H).set (.inl ⟨by simp,rfl⟩) _⟩
  .grind [DA]
  .grind
  .rw [xw,xb,OQ hs xs d,q,l,vo (L:=xs.flatMap enc) (E:=enc x) (hs x) p (by omega) (λ r hr=>FD hs xs d hr),List.set_eq_take_append_cons_drop,qv (by omega)];simp
end
abbrev OR(c:List AV)(e:Nat):bB:=.row c e (0,0) B4
end Go.Am
namespace Go.Am
def ug{k mx d:Nat}{z:Int}(c:z=k)(h:k<=mx)(kk:KB):bound (B1 (.int kk z)) d mx=B1 k:=by
 subst c;show cond (Jo k mx) (B1 k) B5=B1 k;rw[kr h];rfl
def Sl.from{H:ar}{size:Nat}{v:AV}{n:Nat}{cells:List AV}(h:Sl H size v n cells){k:Nat}(hk:k<=n){z:Int}(j:z=k)(kk:KB) :
 ∃l,Op.aJ size [B1 0,B5,B5] [v,.int kk z]=B1 l/\Sl H size l (n-k) (cells.drop (k*size))/\(l=.nils\/aG l=aG v):=by
 obtain⟨hl,h⟩:=h;have hlen:(cells.drop (k*size)).length=(n-k)*size:=by grind [Nat.sub_mul]
 have y:k*size<=n*size:=jy _ hk;have u:(n-k)*size=n*size-k*size:=Nat.sub_mul n k size;split at h
 .subst h;have:k=0:=by omega
  subst this;refine⟨.nils,?_,⟨hlen,rfl⟩,.inl rfl⟩;have g:bound B5 0 0=B1 0:=rfl;simp[Op.aJ,arg,kX,ei,g,ug j (qg 0)]
 .rename_i b o m c;obtain⟨rfl,F,h⟩:=h;have f:∀d m,bound B5 d m=B1 d:=λ _ _=>rfl;refine⟨.slice b (cond (FW c k) o (o+k*size)) (m-k) (c-k),by simp[Op.aJ,arg,kX,ei,f,ug j hk],⟨hlen,rfl,by omega,?_⟩,.inr rfl⟩;rcases h with h|⟨hb,all,p,r⟩
  .omega
  .by_cases he:c=k
   .omega
   .right;obtain⟨x,rfl⟩:=Ov r;refine⟨hb,all,p,?_⟩;rw[HV he,ze,tw,qv (by omega),List.drop_take,FU]
    grind
 .rename_i b i m s alt q;obtain⟨rfl,rfl,hm,h⟩:=h;have w:∀n,FW n n=true:=λ n=>by simp
  have f:∀d m,bound B5 d m=B1 d:=λ _ _=>rfl;have C:=kr (show q<=m-i by omega);have t:=kr (show i<=m by omega);refine⟨.gslice b (i+k) m s (cond (FW k 0) alt (i*s)) (q-k),by simp only[Op.aJ,arg,kX,zx,qm,ei,f,ug j hk,w,t,C,jb,xg],⟨hlen,rfl,rfl,by omega,?_⟩,.inr rfl⟩;rcases h with h|⟨hb,all,p,r⟩
  .omega
  .right;obtain⟨x,rfl⟩:=Ov r;refine⟨hb,all,p,?_⟩;rw[tw,qv (by rw[yk];omega),List.drop_take,FU,yk]
   grind
 .rename_i b;obtain⟨rfl,hb⟩:=h;have:k=0:=by omega
  subst this;have g:bound B5 0 0=B1 0:=rfl;refine⟨.eslice b,?_,⟨hlen,rfl,hb⟩,.inr rfl⟩;simp[Op.aJ,arg,kX,ei,g,ug j (qg 0)]
 grind
section
variable{α:Type}{enc:α->List AV}{size:Nat}{H H':ar}{v:AV}{xs:List α}
theorem Y8(hs:∀x,(enc x).length=size):∀(xs:List α)(k:Nat),(xs.flatMap enc).drop (k*size)=(xs.drop k).flatMap enc
 |[],k=>by simp
 |x::xs,0=>by simp
 |x::xs,k+1=>by
  rw[jv,show(k+1)*size=(enc x).length+k*size from by rw[hs,vq];omega,vi,Y8 hs xs k];rfl
def eS.from(hs:∀x,(enc x).length=size)(h:eS enc size H v xs){k:Nat}(hk:k<=xs.length){z:Int}(d:z=k)(kk:KB) :
 ∃c,Op.aJ size [B1 0,B5,B5] [v,.int kk z]=B1 c/\eS enc size H c (xs.drop k)/\(c=.nils\/aG c=aG v):=by
 obtain⟨c,f,g,i⟩:=Sl.from h hk d kk
 grind [eS,Y8]
def fU(enc:α->List AV)(e size:Nat)(H:ar)(v:AV)(xs:List α):Prop:=∃b,v=.slice b 0 xs.length xs.length/\b<H.au/\H.get b=B1 (.row (xs.flatMap enc) e (0,0) B4)
def fU.sl{e:Nat}(hs:∀x,(enc x).length=size)(h:fU enc e size H v xs):eS enc size H v xs:=by
 obtain⟨b,rfl,c,d⟩:=h;refine⟨DA hs xs,rfl,qg _,.inr ⟨c,_,qt d,?_⟩⟩;rw[tw,qv (by grind [DA]),kq,zh (by grind [DA])]
def fU.fr{e:Nat}{W:Nat->Prop}(h:fU enc e size H v xs)(f:Fr W H H')(hw:¬W (aG v)):fU enc e size H' v xs:=by
 obtain⟨b,rfl,c,d⟩:=h;exact⟨b,rfl,qj c f.au,by rw[f.ah b c hw];exact d⟩
def fU.lt{e:Nat}(h:fU enc e size H v xs):aG v<H.au:=by
 obtain⟨b,rfl,c,d⟩:=h;exact c
def fU.u9{e:Nat}(hs:∀x,(enc x).length=size)(h:fU enc e size H v xs){i:Nat}{x y:α}(d:xs[i]? = B1 x){j:Nat}(p:j<size){u:AV}(hu:aC u=B4)(q:enc y=(enc x).set j u) :
 ∃H',Op.store 1 [.ptr (aG v) (cw size v i+j),u] H=B1 (.undef,H')/\fU enc e size H' v (xs.set i y)/\Fr (On (aG v)) H H':=by
 obtain⟨b,rfl,f,g⟩:=h;have m:=Gc d;have hl:=DA hs xs;have hb:(i+1)*size<=xs.length*size:=jy _ m;rw[vq]at hb;have l:u.cells=[u]:=by cases u<;>first|rfl|cases hu
 have c:=ta g (o:=i*size+j) (n:=1) (v:=u) (by grind) (by omega) (by grind [ym]);have ho:cw size (AV.slice b 0 xs.length xs.length) i=i*size:=by simp[cw]
 rw[ho];refine⟨_,c,⟨b,?_,f,?_⟩,(Fr.refl H).set (W:=On b) (.inl rfl) _⟩
 .grind
 .rw [xb,OQ hs xs d,q,l,vo (L:=xs.flatMap enc) (E:=enc x) (hs x) p (by omega) (λ r hr=>FD hs xs d hr),List.set_eq_take_append_cons_drop,qv (by omega)];simp
end
def RV(e bytes:Nat)(z:List AV)(n:Nat)(k k':KB)(h:n*bytes<=140737488355328)(c:n<=140737488355328) :
 Op.mkSlice e bytes z [.int k n,.int k' n]=B1 (.row (fp n z) e (0,0) B4,Op.sliceTo n n):=by
 grind [Jn,Op.mkSlice]
end Go.Am
namespace Go.Am
def VD{tm:T AV}{x:bE}{K K':AV->Prop}(h:CY tm x K)(hk:∀v,K v->K' v):CY tm x K':=by
 have⟨v,d,f⟩:=h.elim;cases x with
 |tmp t=>grind [pN,CY,bJ]
 |const c=>cases d;exact hk _ f
 |dV c=>cases d;exact hk _ f
 |func c=>cases d;exact hk _ f
def Fg{tm:T AV}:∀{l:List bE}{K K':List AV->Prop},oI tm l K->(∀v,K v->K' v)->oI tm l K'
 |[],K,K',h,hk=>hk _ h
 | .tmp t::xs,K,K',h,hk=>by
  simp only[oI]at h⊢;unfold bJ at h⊢;split at h
  .exact Fg h λ vs=>hk _
  omega
 | .const v::xs,K,K',h,hk=>Fg (l:=xs) h λ vs=>hk _
 | .dV v::xs,K,K',h,hk=>Fg (l:=xs) h λ vs=>hk _
 | .func v::xs,K,K',h,hk=>Fg (l:=xs) h λ vs=>hk _
theorem CK{α:Type}{m:Bool}{o:Option α}{K K':α->Prop}(h:bJ m o K)(hk:∀a,K a->K' a):bJ m o K':=by
 cases o with
 |none=>exact h
 |some a=>exact hk a h
theorem Xa{α β:Type}{m:Bool}{o:Option (α×β)}{K K':α -> β->Prop}(h:ic m o K)(hk:∀a b,K a b->K' a b):ic m o K':=by
 cases o with
 |none=>exact h
 |some a=>exact hk a.1 a.2 h
section
variable{AP:ak}
theorem QX{m:Bool}{f:kW}{vs:List AV}{H:ar}{K K':AV->ar->Prop}{E d:aA->ar->Prop}(h:mn AP m f vs H K E)(hk:∀v H,K v H->K' v H)(he:∀c H,E c H->d c H):mn AP m f vs H K' d:=by
 have⟨e,H',i,g⟩:=h;refine⟨e,H',i,?_⟩;cases e with
 |ret v=>exact hk _ _ g
 |panic c=>exact he _ _ g
theorem Ow{d:Option (List Nat)}{tm:T AV}{aV:List aK}{up:Option aA}{Q Q':ct}(f:∀e st,Q e st->Q' e st)(c:aA)(H:ar)(h:wL d tm aV up Q c H):wL d tm aV up Q' c H:=by
 cases d with
 |none=>exact h
 |some ds=>exact f _ _ h
def X1{ctx:Ctx}{dst:Option Nat}{c:Option (List Nat)}{st:St}{Q Q':ct}{K K':St->Prop}{vs:List AV}{op:eT}(h:nZ AP ctx dst c st Q K vs op)(d:∀e st,Q e st->Q' e st)(hk:∀st,K st->K' st):nZ AP ctx dst c st Q' K' vs op:=by
 cases op with
 |pure f=>exact CK (m:=aF) h λ _=>hk _
 |read f=>exact CK (m:=aF) h λ _=>hk _
 |alloc f=>grind [nZ,Xa]
 |fT f=>grind [nZ,Xa]
 |gE f=>exact QX (m:=aF) h (by grind) (Ow d)
 |gF =>
  simp only[nZ,JH]at h⊢
  grind [QX,Ow]
 |invoke n =>
  simp only[nZ,Jx]at h⊢;split at h
  .grind [CK,QX,Ow]
  omega
 |recover =>
  simp only[nZ,ua]at h⊢
  grind
 |defer =>
  simp only[nZ,C9]at h⊢
  grind
 |panic =>
  simp only[nZ,fG]at h⊢
  grind [Ow]
def Vk{ctx:Ctx}{s:aL}{st:St}{Q Q':ct}{K K':St->Prop}(h:pw AP ctx s st Q K)(c:∀e st,Q e st->Q' e st)(hk:∀st,K st->K' st):pw AP ctx s st Q' K':=by
 have⟨gK,dst,guard,args,op,d⟩:=s;cases gK with
 |false =>
  cases guard with
  |none=>exact Fg h λ _ q=>X1 q c hk
  |some g =>
   refine CK (m:=aF) h λ w q=>?_;cases w with
   |true=>exact Fg (K:=_) q λ _ q=>X1 q c hk
   |false=>exact hk _ q
 |true =>
  cases guard with
  |none=>exact Fg h λ _ q=>(by grind)
  |some g =>
   refine CK (m:=aF) h λ w q=>?_;cases w with
   |true=>exact Fg (K:=_) q λ _ q=>(by grind)
   |false=>exact⟨q.1,hk _ q.2⟩
def Xz{ctx:Ctx}:∀{l:List aL}{st:St}{Q Q':ct},mN AP ctx l st Q->(∀e st,Q e st->Q' e st)->mN AP ctx l st Q'
 |[],st,Q,Q',h,hq=>hq _ _ h
 |s::rest,st,Q,Q',h,hq=>Vk h hq λ d c=>Xz c hq
theorem MU{ctx:Ctx}{st:St}{k:Nat}{H0:ar}{aV:List aK}{d:Nat}{Q Q':ct}{v:AV}(h:kY AP ctx st k H0 aV d Q v)(i:∀e st,Q e st->Q' e st):kY AP ctx st k H0 aV d Q' v:=by
 unfold kY at h⊢;split at h
 .have ⟨e,H',j,g⟩:=h;refine⟨e,H',j,?_⟩;cases e with
  |panic c=>exact i _ _ g
  |ret v=>have⟨s,p,f,k,tm,d,l,m,o⟩:=g;exact⟨s,p,f,k,tm,d,l,m,i _ _ o⟩
 omega
def oE{ctx:Ctx}:∀{c:ai}{st:St}{Q Q':ct},WP AP ctx c st Q->(∀e st,Q e st->Q' e st)->WP AP ctx c st Q'
 | .skip,st,Q,Q',h,hq=>hq _ _ h
 | .label _,st,Q,Q',h,hq=>hq _ _ h
 | .exit _,st,Q,Q',h,hq=>hq _ _ h
 | .goto _,st,Q,Q',h,hq=>hq _ _ h
 | .ret,st,Q,Q',h,hq=>hq _ _ h
 | .stuck,st,Q,Q',h,hq=>h.elim
 | .region l,st,Q,Q',h,hq=>Xz h hq
 | .seq a b,st,Q,Q',h,hq=>oE (c:=a) h λ e g d=>by
  cases e with
  |normal=>exact oE (c:=b) d hq
  |exit _=>exact hq _ _ d
  |goto _=>exact hq _ _ d
  |ret=>exact hq _ _ d
  |panic _=>exact hq _ _ d
 | .cond c a b,st,Q,Q',h,hq=>VD h λ v q=>CK (m:=aF) q λ w q=>by
  cases w with
  |true=>exact oE (c:=a) q hq
  |false=>exact oE (c:=b) q hq
 | .block id b,st,Q,Q',h,hq=>oE (c:=b) h λ e g d=>by cases e<;>exact hq _ _ d
 | .scope b,st,Q,Q',h,hq=>oE (c:=b) h λ e g d=>by
  cases e with
  |goto l=>exact⟨d.1,hq _ _ d.2⟩
  |normal=>exact hq _ _ d
  |exit _=>exact hq _ _ d
  |ret=>exact hq _ _ d
  |panic _=>exact hq _ _ d
 | .loop ah b,st,Q,Q',⟨I,h0,h⟩,hq=>⟨I,h0,λ n st i=>oE (c:=b) (h n st i) λ e g d=>by grind⟩
 | .rangeFunc f k,st,Q,Q',h,hq=>VD h λ v q=>by
  grind [Fm,MU,CK]
def fI:aS->Prop
 | .exit _=>True
 | .goto _=>True
 | .ret=>True
 |_=>False
end
end Go.Am
namespace Go.Am
noncomputable section
abbrev aE:=aS->Env->List aK->ar->Prop
def lk(E:Env)(t:Nat):Option AV:=Sp (motive:=λ _=>Option AV) B5 (λ p _ ih=>cond (FW p.1 t) (B1 p.2) ih) E
def Al(t:Nat):lk [] t=none:=rfl
def tD(k t:Nat)(v:AV)(E:Env):lk ((k,v)::E) t=if k=t then B1 v else lk E t:=by
 show cond (FW k t) (B1 v) (lk E t)=_;simp_all
def bA(t:Nat)(l:List Nat):Bool:=Sp (motive:=λ _=>Bool) B2 (λ x _ ih=>cond (FW x t) B4 ih) l
def fy(ks:List Nat)(E:Env)(tm:T AV):Prop:=∀t v,lk E t=B1 v->tm.get t=B1 v/\bA t ks=B4
def uA:Env->Env->Prop
 |[],_=>True
 |(k,v)::r,E=>lk E k=B1 v/\uA r E
def DW(E:Env):uA [] E=True:=rfl
def ad4(k:Nat)(v:AV)(r E:Env):uA ((k,v)::r) E=(lk E k=B1 v/\uA r E):=rfl
def uA.look:∀{A E:Env},uA A E -> ∀{t:Nat}{v:AV},lk A t=B1 v->lk E t=B1 v
 |[],E,_,t,v,h=>by cases h
 |(k,w)::r,E,h,t,v,hl=>by
  rw[tD]at hl;split at hl
  .rename_i e;subst e;cases hl;exact h.1
  .exact uA.look h.2 hl
def uA.sub{ks:List Nat}{A E:Env}(h:uA A E){tm:T AV}(he:fy ks E tm):fy ks A tm:=λ t v hl=>he t v (h.look hl)
def SS(A E:Env):Prop:=∀t v,lk A t=B1 v->lk E t=B1 v
def uA.ss{A E:Env}(h:uA A E):SS A E:=λ t v hl=>h.look hl
def SS.sub{ks:List Nat}{A E:Env}(h:SS A E){tm:T AV}(he:fy ks E tm):fy ks A tm:=λ t v hl=>he t v (h t v hl)
def B3{α:Type}(m:Bool)(o:Option α)(K:Bool -> α->Prop):Prop:=match o with
 |some a=>K m a
 |none=>False
def iG{α β:Type}(m:Bool)(o:Option (α×β))(K:Bool -> α -> β->Prop):Prop:=match o with
 |some a=>K m a.1 a.2
 |none=>False
def lT(m:Bool)(v:AV)(A B:Bool->Prop):Prop:=match v with
 | .bool q=>match q with
  |true=>A m
  |false=>B m
 |_=>False
def tz(m:Bool)(q:Bool)(A B:Bool->Prop):Prop:=match q with
 |true=>A m
 |false=>B m
def JK(m:Bool)(o o':Option AV)(K:Bool->Prop):Prop:=(∃v,o=B1 v/\o'=B1 v)/\K m
def A3(m:Bool)(e:Nat)(z:List AV)(H:ar)(K:Bool->AV->ar->Prop):Prop:=K m (.ptr H.au 0) (H.alloc (.row z e (0,0) B4))
def JN{α:Type}(F:α->Prop)(K:α):Prop:=F K
def pk(m:Bool)(Q:aE)(e:aS)(E:Env)(D:List aK)(H:ar):Prop:=Q e E D H
def Db{α:Type}(a:α)(K:Bool -> α->Prop):B3 B4 (B1 a) K=K B4 a:=propext jg
def xV{α β:Type}(a:α)(b:β)(K:Bool -> α -> β->Prop):iG B4 (B1 (a,b)) K=K B4 a b:=propext jg
def yH(A B:Bool->Prop):lT B4 (.bool B4) A B=A true:=propext jg
def xeg(A B:Bool->Prop):lT B4 (.bool B2) A B=B true:=propext jg
def xM(A B:Bool->Prop):tz B4 B4 A B=A true:=propext jg
def u'(A B:Bool->Prop):tz B4 B2 A B=B true:=propext jg
def ag3(v:AV)(K:Bool->Prop):JK B4 (B1 v) (B1 v) K=K true:=propext ⟨λ h=>h.2,λ h=>⟨⟨v,rfl,rfl⟩,h⟩⟩
def LP(e:Nat)(z:List AV)(H:ar)(K:Bool->AV->ar->Prop):A3 B4 e z H K=K B4 (.ptr H.au 0) (H.alloc (.row z e (0,0) B4)):=propext jg
def Fq{α:Type}(F:α->Prop)(K:α):JN F K=F K:=propext jg
def xZ(Q:aE)(e:aS)(E:Env)(D:List aK)(H:ar):pk B4 Q e E D H=Q e E D H:=propext jg
@[congr]def ac3{α:Type}{F:α->Prop}{K:α}:JN F K=JN F K:=rfl
@[congr]def ab7{α:Type}{m c:Bool}{o o':Option α}{K:Bool -> α->Prop}(hm:m=c)(h:o=o'):B3 m o K=B3 c o' K:=by grind
@[congr]def ab0{α β:Type}{m c:Bool}{o o':Option (α×β)}{K:Bool -> α -> β->Prop}(hm:m=c)(h:o=o'):iG m o K=iG c o' K:=by grind
@[congr]def ab5{m c:Bool}{v d:AV}{A B:Bool->Prop}(hm:m=c)(h:v=d):lT m v A B=lT c d A B:=by grind
@[congr]def ab1{m c:Bool}{v d:Bool}{A B:Bool->Prop}(hm:m=c)(h:v=d):tz m v A B=tz c d A B:=by grind
@[congr]def ab2{m c:Bool}{o o' p p':Option AV}{K:Bool->Prop}(hm:m=c)(h:o=o')(d:p=p'):JK m o p K=JK c o' p' K:=by grind
@[congr]def ac1{m c:Bool}{e:Nat}{z d:List AV}{H H':ar}{K:Bool->AV->ar->Prop}(hm:m=c)(h:z=d)(f:H=H'):A3 m e z H K=A3 c e d H' K:=by grind
def B3.elim{α:Type}{m:Bool}{o:Option α}{K:Bool -> α->Prop}(h:B3 m o K):∃a,o=B1 a/\K m a:=by
 cases o with
 |none=>exact Ja h
 |some a=>exact⟨a,rfl,h⟩
def iG.elim{α β:Type}{m:Bool}{o:Option (α×β)}{K:Bool -> α -> β->Prop}(h:iG m o K):∃a b,o=B1 (a,b)/\K m a b:=by
 cases o with
 |none=>exact Ja h
 |some a=>exact⟨a.1,a.2,rfl,h⟩
def LK.elim{α:Type}{m:Bool}{o:Option α}{K:Bool -> α->Prop}(h:LK m o K):∃a,o=B1 a/\K m a:=by
 cases o with
 |none=>exact Ja h
 |some a=>exact⟨a,rfl,h⟩
theorem B3.intro{α:Type}{m:Bool}{o:Option α}{K:Bool -> α->Prop}{a:α}(h:o=B1 a)(hk:K m a):B3 m o K:=by subst h;exact hk
theorem iG.intro{α β:Type}{m:Bool}{o:Option (α×β)}{K:Bool -> α -> β->Prop}{a:α}{b:β}(h:o=B1 (a,b))(hk:K m a b):iG m o K:=by subst h;exact hk
def lT.cases{m:Bool}{q:Bool}{A B:Bool->Prop}(c:q=B4->A m)(d:q=B2->B m):lT m (.bool q) A B:=by
 cases q with
 |true=>exact c rfl
 |false=>exact d rfl
def tz.cases{m:Bool}{q:Bool}{A B:Bool->Prop}(c:q=B4->A m)(d:q=B2->B m):tz m q A B:=by
 cases q with
 |true=>exact c rfl
 |false=>exact d rfl
def lT.elim{m:Bool}{v:AV}{A B:Bool->Prop}(h:lT m v A B):∃q,v=.bool q/\(match q with|true=>A m|false=>B m):=by
 unfold lT at h
 grind
section
variable(M:ak)
structure Kp where
 ah:List Nat
 cL:Bool
 named:List Nat
def dh(K:List Nat)(E L:Env):Env:=Sp (motive:=λ _=>Env) E (λ p _ ih=>cond (bA p.1 K) (p::ih) ih) L
def qB(ds:List Nat)(E:Env):Env:=Sp (motive:=λ _=>Env) [] (λ p _ ih=>cond (bA p.1 ds) ih (p::ih)) E
def kI(L:Env):List Nat:=Sp (motive:=λ _=>List Nat) [] (λ p _ ih=>p.1::ih) L
abbrev KR:=Bool->Env->Env->ar->Prop
def TV(E L R:Env)(t:Nat)(g:Bool)(K:Bool->Env->AV->Prop):Prop :=
 L3 (motive:=λ _=>Prop) (L3 (motive:=λ _=>Prop) (LK g (lk E t) λ g v=>K g ((t,v)::R) v) (λ v=>K g R v) (lk R t)) (λ v=>K g R v) (lk L t)
def tV(E L:Env)(l:List bE):Bool->Env->(Bool->Env->List AV->Prop)->Prop:=Sp (motive:=λ _=>Bool->Env->(Bool->Env->List AV->Prop)->Prop) (λ g R K=>K g R [])
 (λ x _ ih g R K=>bE.casesOn x (λ t=>TV E L R t g λ g R v=>ih g R λ g R vs=>K g R (v::vs)) (λ v=>ih g R λ g R vs=>K g R (v::vs)) (λ b=>ih g R λ g R vs=>K g R (.ptr b 0::vs)) (λ f=>ih g R λ g R vs=>K g R (.fn (.func f) [] []::vs))) l
def C3(m:Bool)(f:kW)(vs:List AV)(H:ar)(K:Bool->AV->ar->Prop):Prop:=∃v H',rZ M f vs H (.ret v) H'/\K m v H'
def P3(m:Bool)(X:aA->ar->Prop)(f:kW)(vs:List AV)(H:ar)(K:Bool->AV->ar->Prop):Prop:=∃e H',rZ M f vs H e H'/\match e with
 | .ret v=>K m v H'
 | .panic c=>X c H'
@[congr]def ac0{M:ak}{m d:Bool}{f f':kW}{vs c:List AV}{H H':ar}{K:Bool->AV->ar->Prop}(hm:m=d)(i:f=f')(h:vs=c)(g:H=H'):C3 M m f vs H K=C3 M d f' c H' K:=by grind
@[congr]def ac2{M:ak}{m d:Bool}{X:aA->ar->Prop}{f f':kW}{vs c:List AV}{H H':ar}{K:Bool->AV->ar->Prop}(hm:m=d)(i:f=f')(h:vs=c)(g:H=H'):P3 M m X f vs H K=P3 M d X f' c H' K:=by grind
def V3(m:Bool)(vs:List AV)(K:Bool->kW->List AV->Prop):Prop:=match vs with
 | .fn (.func g) first cap::args=>K m (.func g) (first++(args++cap))
 | .fn (.yield l) first []::args=>K m (.yield l) (first++args)
 |_=>False
@[congr]def ab6{m d:Bool}{vs c:List AV}{K:Bool->kW->List AV->Prop}(hm:m=d)(h:vs=c):V3 m vs K=V3 d c K:=by grind
def DF(g:Nat)(first cap args:List AV)(K:Bool->kW->List AV->Prop):V3 B4 (.fn (.func g) first cap::args) K=K B4 (.func g) (first++(args++cap)):=propext jg
def ae9(l:Nat)(first args:List AV)(K:Bool->kW->List AV->Prop):V3 B4 (.fn (.yield l) first []::args) K=K B4 (.yield l) (first++args):=propext jg
def N3(m:Bool)(name:String)(vs:List AV)(K:Bool->kW->List AV->Prop):Prop:=match vs with
 | .iface t v::args=>B3 m (M.jB t name) λ m g=>K m (.func g) (v::args)
 |_=>False
@[congr]def ab9{M:ak}{m d:Bool}{name:String}{vs c:List AV}{K:Bool->kW->List AV->Prop}(hm:m=d)(h:vs=c):N3 M m name vs K=N3 M d name c K:=by grind
def ad9(name:String)(t:Nat)(v:AV)(args:List AV)(K:Bool->kW->List AV->Prop):N3 M B4 name (.iface t v::args) K=B3 B4 (M.jB t name) λ m g=>K m (.func g) (v::args):=propext jg
def PX(ps:Option (List Nat))(ks:List Nat)(Q:aE)(E:Env)(D:List aK)(c:aA)(H:ar):Prop:=match ps with
 |some ds=>Q (.panic c) (qB ds (qB ks E)) D H
 |none=>False
def Cs(cL:Bool)(ps:Option (List Nat))(L:Env)(Q:aE)(E:Env)(D:List aK)(g:Bool)(f:kW)(vs:List AV)(H:ar)(K:Bool->AV->ar->Prop):Prop :=
 cond cL (P3 M g (PX ps (kI L) Q E D) f vs H K) (C3 M g f vs H K)
def sB(cL:Bool)(dst:Option Nat)(ps:Option (List Nat))(Q:aE)(E:Env)(D:List aK)(L R:Env)(H:ar)(K:KR)(g:Bool)(vs:List AV):eT->Prop
 | .pure f=>B3 g (f vs) λ g v=>K g (jS dst v L) R H
 | .read f=>B3 g (f vs H) λ g v=>K g (jS dst v L) R H
 | .alloc f=>iG g (f vs) λ g o mk=>K g (jS dst (mk H.au) L) R (H.alloc o)
 | .fT f=>iG g (f vs H) λ g v H=>K g (jS dst v L) R H
 | .gE f=>Cs M cL ps L Q E D g (.func f) vs H (λ g v H=>K g (jS dst v L) R H)
 | .gF=>V3 g vs λ g f vs=>Cs M cL ps L Q E D g f vs H (λ g v H=>K g (jS dst v L) R H)
 | .invoke name=>N3 M g name vs λ g f vs=>Cs M cL ps L Q E D g f vs H (λ g v H=>K g (jS dst v L) R H)
 | .panic=>cond cL (fG vs H (PX ps (kI L) Q E D)) False
 |_=>False
def Ql(L E:Env)(d:Nat):Option AV:=L3 (motive:=λ _=>Option AV) (lk E d) (λ v=>B1 v) (lk L d)
def NL(dst:Option Nat)(E L R:Env)(H:ar)(K:KR)(g:Bool)(vs:List AV):eT->Prop
 | .read f=>match dst with
  |some d=>JK g (f vs H) (Ql L E d) λ g=>K g L R H
  |none=>False
 |_=>False
def DI(cL:Bool)(s:aL)(Q:aE)(E:Env)(D:List aK)(K:KR):KR:=λ g L R H =>
 tV E L s.args g R λ g R vs=>match s.gK with
  |false=>sB M cL s.dst s.cq Q E D L R H K g vs s.op
  |true=>NL s.dst E L R H K g vs s.op
def nV(cL:Bool)(Q:aE)(E:Env)(D:List aK)(K:KR)(l:List aL):KR:=Sp (motive:=λ _=>KR) K (λ s _ ih=>DI M cL s Q E D ih) l
abbrev CQ:=Option (Nat×Bool)×List aL
def qJ:Option (Nat×Bool)->Option (Nat×Bool)->Bool
 |none,B5=>B4
 |some (t,b),B1 (u,c)=>cond (FW t u) (cond b c (!c)) B2
 |_,_=>B2
def Ga(l:List aL):List CQ:=Sp (motive:=λ _=>List CQ) [] (λ s _ ih=>List.casesOn (motive:=λ _=>List CQ) ih [(s.guard,[s])] λ g r=>cond (qJ g.1 s.guard) ((g.1,s::g.2)::r) ((s.guard,[s])::g::r)) l
def MJ(o:Option Nat)(t:Nat):Bool:=L3 (motive:=λ _=>Bool) B2 (λ d=>FW d t) o
def sA(t:Nat)(l:List aL):Bool:=Sp (motive:=λ _=>Bool) B4 (λ s _ ih=>cond (MJ s.dst t) B2 (cond s.gK (cond s.dst.isSome ih B2) ih)) l
def CT(n:Nat):Type:=Nat.rec (motive:=λ _=>Type) (ar->Prop) (λ _ T=>AV->T) n
def pn(n:Nat):(List AV->ar->Prop)->CT n:=Nat.rec (motive:=λ n=>(List AV->ar->Prop)->CT n) (λ f=>f []) (λ _ ih f v=>ih λ l=>f (v::l)) n
def oq(n:Nat):CT n->List AV->ar->Prop:=Nat.rec (motive:=λ n=>CT n->List AV->ar->Prop) (λ k _=>k) (λ _ ih k l=>List.casesOn (motive:=λ _=>ar->Prop) l (λ _=>False) λ v l=>ih (k v) l) n
def bj(l:List aL):List Nat->List Nat:=Sp (motive:=λ _=>List Nat->List Nat) (λ acc=>acc) (λ s _ ih acc=>ih (cond s.gK acc (L3 (motive:=λ _=>List Nat) acc (λ d=>d::acc) s.dst))) l
def jQ(ks:List Nat)(L:Env):List AV->Env:=Sp (motive:=λ _=>List AV->Env) (λ _=>L) (λ k _ ih l=>List.casesOn (motive:=λ _=>Env) l L λ v l=>(k,v)::ih l) ks
def oZ(n:Nat):Env->List AV:=Nat.rec (motive:=λ _=>Env->List AV) (λ _=>[]) (λ _ ih L=>List.casesOn (motive:=λ _=>List AV) L [] λ p L=>p.2::ih L) n
def pU(n:Nat):List AV:=Nat.rec (motive:=λ _=>List AV) [] (λ _ ih=>.undef::ih) n
def Pq(cL:Bool)(Q:aE)(E:Env)(D:List aK)(x:CQ)(K:KR):KR:=λ g L R H=>match x.1 with
 |none=>nV M cL Q E D K x.2 g L R H
 |some q=>cond (sA q.1 x.2) (TV E L R q.1 g λ g R v=>JN (α:=Bool->CT (cF (bj x.2 [])))
  (λ k=>B3 g (cJ q.2 (B1 v)) λ g w=>tz g w (λ g=>nV M cL Q E D (λ g L _ H=>oq (cF (bj x.2 [])) (k g) (oZ (cF (bj x.2 [])) L) H) x.2 g L R H) (λ g=>oq (cF (bj x.2 [])) (k g) (pU (cF (bj x.2 []))) H))
  (λ g=>pn (cF (bj x.2 [])) λ vs H=>K g (jQ (bj x.2 []) L vs) R H)) False
def ur(cL:Bool)(Q:aE)(E:Env)(D:List aK)(K:KR)(l:List CQ):KR:=Sp (motive:=λ _=>KR) K (λ x _ ih=>Pq M cL Q E D x ih) l
def oW(cL:Bool)(Q:aE)(E:Env)(D:List aK)(l:List aL)(g:Bool)(H:ar)(K:KR):Prop:=ur M cL Q E D K (Ga l) g [] [] H
abbrev WX:=Bool->aE->Env->List aK->ar->Prop
def ey(X:WX)(Q:aE):aE:=λ e E D H=>match e with
 | .normal=>X B4 Q E D H
 |e=>Q e E D H
def eD(id:Nat)(Q:aE):aE:=λ e E D H=>match e with
 | .exit id'=>Q (cond (FW id id') .normal (.exit id')) E D H
 |e=>Q e E D H
def jO(b:ai)(Q:aE):aE:=λ e E D H=>match e with
 | .goto l=>CF b l=B2/\Q (.goto l) E D H
 |e=>Q e E D H
abbrev Gq:=Nat->Env->List aK->ar->Prop
def LP3(I:Gq)(n:Nat)(Q:aE):aE:=λ e E D H=>match e with
 | .normal=>∃m E',I m E' D H/\SS E' E/\m<n
 |e=>Q e E D H
def dA(X:WX)(Q:aE)(E:Env)(D:List aK)(H:ar):Prop :=
 ∃I:Gq,(∃n E0,I n E0 D H/\SS E0 E) /\ ∀n E D H,I n E D H->X B4 (LP3 I n Q) E D H
def iL(ks:List Nat)(ctx:Ctx)(k:Nat)(E:Env)(D:List aK)(H:ar)(Q:aE)(v:AV):Prop :=
 ∀tm up,fy ks E tm->Fm M ctx k ⟨tm,D,up,H⟩ (λ e st=>st.up=up/\st.tm=tm/\Q e E st.aV st.H) v
def OV(E:Env)(x:bE)(g:Bool)(K:Bool->AV->Prop):Prop:=match x with
 | .tmp t=>LK g (lk E t) K
 | .const v=>K g v
 | .dV b=>K g (.ptr b 0)
 | .func f=>K g (.fn (.func f) [] [])
def CV(E L R:Env)(x:bE)(g:Bool)(K:Bool->AV->Prop):Prop:=match x with
 | .tmp t=>TV E L R t g λ g _ v=>K g v
 | .const v=>K g v
 | .dV b=>K g (.ptr b 0)
 | .func f=>K g (.fn (.func f) [] [])
def W3(ctx:Ctx)(K:Kp):ai->Bool->aE->Env->List aK->ar->Prop
 | .skip,g,Q,E,D,H=>pk g Q .normal E D H
 | .label _,g,Q,E,D,H=>pk g Q .normal E D H
 | .exit id,g,Q,E,D,H=>pk g Q (.exit id) E D H
 | .goto l,g,Q,E,D,H=>pk g Q (.goto l) E D H
 | .ret,g,Q,E,D,H=>pk g Q .ret E D H
 | .stuck,_,_,_,_,_=>False
 | .region l,g,Q,E,D,H=>oW M K.cL Q E D l g H λ g L _ H=>pk g Q .normal (dh K.ah E L) D H
 | .seq a b,g,Q,E,D,H=>match a,b with
  | .region l,.cond c x y=>oW M K.cL Q E D l g H λ g L R H=>CV E L R c g λ g v=>lT g v (λ g=>W3 ctx K x g Q (dh K.ah E L) D H) (λ g=>W3 ctx K y g Q (dh K.ah E L) D H)
  | .region l,.seq (.cond c x y) r=>oW M K.cL Q E D l g H λ g L R H=>CV E L R c g λ g v=>lT g v (λ g=>W3 ctx K x g (ey (W3 ctx K r) Q) (dh K.ah E L) D H) (λ g=>W3 ctx K y g (ey (W3 ctx K r) Q) (dh K.ah E L) D H)
  | .region l,b=>oW M K.cL Q E D l g H λ g L _ H=>W3 ctx K b g Q (dh K.ah E L) D H
  |a,b=>W3 ctx K a g (ey (W3 ctx K b) Q) E D H
 | .cond c x y,g,Q,E,D,H=>OV E c g λ g v=>lT g v (λ g=>W3 ctx K x g Q E D H) (λ g=>W3 ctx K y g Q E D H)
 | .block id b,g,Q,E,D,H=>W3 ctx K b g (eD id Q) E D H
 | .scope b,g,Q,E,D,H=>W3 ctx K b g (jO b Q) E D H
 | .loop (B1 _) _,_,_,_,_,_=>False
 | .loop B5 b,g,Q,E,D,H=>dA (W3 ctx K b) Q E D H
 | .rangeFunc f k,g,Q,E,D,H=>OV E f g λ g v=>iL M K.ah ctx k E D H Q v
end
structure jZ(E L R:Env)(tm:T AV):Prop where
 l:∀t v,lk L t=B1 v->tm.get t=B1 v
 r:∀t v,lk L t=B5->lk R t=B1 v->tm.get t=B1 v
 e:∀t v,lk L t=B5->lk E t=B1 v->tm.get t=B1 v
def jZ.first{ks:List Nat}{E:Env}{tm:T AV}(h:fy ks E tm):jZ E [] [] tm:=⟨λ _ _ h=>(by cases h),λ _ _ _ h=>(by cases h),λ t v _ c=>(h t v c).1⟩
theorem jZ.put{E L R:Env}{tm:T AV}(h:jZ E L R tm)(dst:Option Nat)(v:AV):jZ E (jS dst v L) R (dW dst v tm):=by
 cases dst with
 |none=>exact h
 |some d =>
  show jZ E ((d,v)::L) R (tm.set d v);refine⟨λ t w hw=>?_,λ t w hn hw=>?_,λ t w hn hw=>?_⟩
  .rw [tD]at hw;rw[T.aH];split at hw
   .grind
   .rename_i e;rw[qn e];exact h.l t w hw
  .rw [tD]at hn;rw[T.aH];split at hn
   .cases hn
   .rename_i e;rw[qn e];exact h.r t w hn hw
  .rw [tD]at hn;rw[T.aH];split at hn
   .cases hn
   .rename_i e;rw[qn e];exact h.e t w hn hw
def TV.elim{E L R:Env}{t:Nat}{g:Bool}{K:Bool->Env->AV->Prop}{tm:T AV}(hr:jZ E L R tm)(h:TV E L R t g K):∃v d,tm.get t=B1 v/\jZ E L d tm/\K g d v:=by
 unfold TV at h;cases hl:lk L t with
 |some v=>rw[hl]at h;exact⟨v,R,hr.l t v hl,hr,h⟩
 |none =>
  rw[hl]at h;cases c:lk R t with
  |some v=>rw[c]at h;exact⟨v,R,hr.r t v hl c,hr,h⟩
  |none =>
   rw[c]at h;have⟨v,f,h⟩:=LK.elim h;refine⟨v,_,hr.e t v hl f,⟨hr.l,λ u w hn hw=>?_,hr.e⟩,h⟩;rw[tD]at hw;split at hw
   .rename_i e;subst e;cases hw;exact hr.e t v hl f
   .exact hr.r u w hn hw
def JF{tm:T AV}:∀{l:List bE}{vs:List AV}{K:List AV->Prop},kS tm l=B1 vs->K vs->oI tm l K
 |[],vs,K,h,hk=>by cases h;exact hk
 |x::xs,vs,K,h,hk=>by
  simp only[kS,qd]at h;have⟨v,d,ws,f,g⟩:=h;cases g;cases x with
  |tmp t=>exact bJ.intro (m:=aF) d (JF f hk)
  |const c=>injection d with d;subst d;exact JF (K:=λ vs=>K (c::vs)) f hk
  |dV c=>cases d;exact JF (K:=λ vs=>K (_::vs)) f hk
  |func c=>cases d;exact JF (K:=λ vs=>K (_::vs)) f hk
def tV.elim{E L:Env}{tm:T AV}{g:Bool}:∀{l:List bE}{R:Env}{K:Bool->Env->List AV->Prop},jZ E L R tm->tV E L l g R K -> ∃vs j,kS tm l=B1 vs/\jZ E L j tm/\K g j vs
 |[],R,K,hr,h=>⟨[],R,rfl,hr,h⟩
 | .tmp t::xs,R,K,hr,h=>by
  have⟨v,o,m,i,h⟩:=TV.elim hr (show TV E L R t g (λ g R v=>tV E L xs g R λ g R vs=>K g R (v::vs))from h);have⟨vs,d,f,c,h⟩:=tV.elim i h;exact⟨v::vs,d,by simp[kS,pN,m,f],c,h⟩
 | .const v::xs,R,K,hr,h=>by
  have⟨vs,d,f,c,h⟩:=tV.elim (l:=xs) hr h;exact⟨v::vs,d,by simp[kS,pN,f],c,h⟩
 | .dV v::xs,R,K,hr,h=>by
  have⟨vs,d,f,c,h⟩:=tV.elim (l:=xs) hr h;exact⟨_,d,by simp[kS,pN,f],c,h⟩
 | .func v::xs,R,K,hr,h=>by
  have⟨vs,d,f,c,h⟩:=tV.elim (l:=xs) hr h;exact⟨_,d,by simp[kS,pN,f],c,h⟩
def Ob(ds:List Nat):∀(E:Env)(t:Nat),lk (qB ds E) t=if bA t ds then B5 else lk E t
 |[],t=>by simp[qB,Al]
 |(k,v)::r,t=>by
  show lk (cond (bA k ds) (qB ds r) ((k,v)::qB ds r)) t=_;cases hm:bA k ds with
  |true =>
   rw[xg,Ob ds r,tD]
   grind
  |false =>
   rw[ze,tD,Ob ds r,tD]
   grind
def ZN:∀(L:Env)(t:Nat),bA t (kI L)=B2->lk L t=B5
 |[],t,_=>rfl
 |(k,v)::r,t,h=>by
  have h:cond (FW k t) B4 (bA t (kI r))=false:=h;rw[tD];cases hb:FW k t with
  |true=>grind
  |false=>rw[hb,ze]at h;rw[qn (Nat.ne_of_beq_eq_false hb)];exact ZN r t h
def V0{t:Nat}:∀{l:List Nat},t∈l->bA t l=B4
 |x::r,h=>by
  show cond (FW x t) B4 (bA t r)=B4;cases hb:FW x t with
  |true=>rfl
  |false =>
   rw[ze];rcases j8.1 h with e|h
   .simp_all
   .exact V0 h
def YA:∀(ds:List Nat)(tm:T AV)(t:Nat),t∉ds->(forget ds tm).get t=tm.get t
 |[],tm,t,_=>rfl
 |d::ds,tm,t,h=>by
  show(forget ds (tm.put d B5)).get t=_;rw[YA ds _ t (by grind),T.i4,qn (λ e=>h (by rw[e];exact yd ..))]
def QQ(ks:List Nat)(Q:aE)(up:Option aA):ct:=λ e st=>st.up=up /\ ∃E',fy ks E' st.tm/\Q e E' st.aV st.H
section
variable{M:ak}{ctx:Ctx}{cL:Bool}{Q:aE}{E:Env}{D:List aK}{up:Option aA}
theorem PX.FC{Z:ct}(hp:∀c tm H g,(∀t v,lk g t=B1 v->tm.get t=B1 v/\lk E t=B1 v)->Q (.panic c) g D H->Z (.panic c) ⟨tm,D,up,H⟩){f:Option (List Nat)}{L R:Env}{tm:T AV}(hr:jZ E L R tm){c:aA}{H:ar}(h:PX f (kI L) Q E D c H):wL f tm D up Z c H:=by
 cases f with
 |none=>exact h
 |some ds =>
  refine hp _ _ _ _ (λ t v d=>?_) h;rw[Ob,Ob]at d;split at d
  .cases d
  .rename_i i;split at d
   .cases d
   .rename_i j;rw[YA ds tm t (λ q=>i (V0 q))];exact⟨hr.e t v (ZN L t (by simpa using j)) d,d⟩
theorem Cs.AY{Z:ct}(hp:∀c tm H j,(∀t v,lk j t=B1 v->tm.get t=B1 v/\lk E t=B1 v)->Q (.panic c) j D H->Z (.panic c) ⟨tm,D,up,H⟩){i:Option (List Nat)}{L R:Env}{tm:T AV}(hr:jZ E L R tm){g:Bool}{f:kW}{vs:List AV}{H:ar}{K:Bool->AV->ar->Prop}{K':AV->ar->Prop}
 (h:Cs M cL i L Q E D g f vs H K) (hk:∀v H,K g v H->K' v H):mn M aF f vs H K' (wL i tm D up Z):=by
 cases cL with
 |false =>
  have⟨v,H',d,l⟩:=(show C3 M g f vs H K from h)
  exact⟨_,H',d,hk _ _ l⟩
 |true =>
  have⟨e,H',d,l⟩:=(show P3 M g (PX i (kI L) Q E D) f vs H K from h)
  refine⟨_,H',d,?_⟩
  grind [PX.FC]
def DI.body{Z:ct}(hp:∀c tm H y,(∀t v,lk y t=B1 v->tm.get t=B1 v/\lk E t=B1 v)->Q (.panic c) y D H->Z (.panic c) ⟨tm,D,up,H⟩){s:aL}{K:KR}{g:Bool}{L R R0:Env}{tm:T AV}{H:ar}(hr:jZ E L R tm)(u:jZ E L R0 tm)(h:DI M cL s Q E D K g L R H){KK:St->Prop}
 (G:∀p z i H',(s.gK=B4/\p=L/\i=tm \/ ∃v,s.gK=B2/\p=jS s.dst v L/\i=dW s.dst v tm)->jZ E p z i->jZ E p R0 i->K g p z H'->KK ⟨i,D,up,H'⟩) :
 match s.gK with
 |false=>oI tm s.args λ vs=>nZ M ctx s.dst s.cq ⟨tm,D,up,H⟩ Z KK vs s.op
 |true=>oI tm s.args λ vs=>K6 s.dst ⟨tm,D,up,H⟩ vs s.op/\KK ⟨tm,D,up,H⟩:=by
 have⟨gK,dst,guard,args,op,x⟩:=s;have⟨vs,q,C,r,h⟩:=tV.elim hr h;cases gK with
 |true =>
  refine JF C ?_;have h:NL dst E L q H K g vs op:=h;cases op with
  |read f =>
   cases dst with
   |none=>exact h.elim
   |some d =>
    have h:JK g (f vs H) (Ql L E d) (λ g=>K g L q H):=h;have⟨⟨v,F,j⟩,h⟩:=h;refine⟨?_,(by grind)⟩;refine bJ.intro (m:=aF) F (bJ.intro (m:=aF) (a:=v) ?_ rfl);unfold Ql at j;cases hl:lk L d with
    |some w=>rw[hl]at j;injection j with j;subst j;exact hr.l d w hl
    |none=>rw[hl]at j;exact hr.e d v hl j
  |_=>exact h.elim
 |false =>
  have put:∀v H',K g (jS dst v L) q H'->KK ⟨dW dst v tm,D,up,H'⟩:=λ v H' hk=>G _ q _ H' (by grind) (r.put dst v) (u.put dst v) hk;refine JF C ?_;have h:sB M cL dst x Q E D L q H K g vs op:=h;cases op with
  |pure f=>simp only[sB]at h;have⟨v,e,h⟩:=B3.elim h;exact bJ.intro (m:=aF) e (put _ _ h)
  |read f=>simp only[sB]at h;have⟨v,e,h⟩:=B3.elim h;exact bJ.intro (m:=aF) e (put _ _ h)
  |alloc f=>simp only[sB]at h;simp only[nZ];have⟨o,mk,e,h⟩:=iG.elim h;exact ic.intro (m:=aF) e (put _ _ h)
  |fT f=>simp only[sB]at h;simp only[nZ];have⟨v,H',e,h⟩:=iG.elim h;exact ic.intro (m:=aF) e (put _ _ h)
  |gE f=>exact Cs.AY hp r h λ v H' hk=>put v H' hk
  |gF =>
   simp only[sB,V3]at h
   grind [nZ,JH,Cs.AY]
  |invoke n =>
   simp only[sB,N3]at h;simp only[nZ,Jx];split at h
   .have ⟨f,e,h⟩:=B3.elim h;exact bJ.intro (m:=aF) e ((by grind [Cs.AY]))
   grind
  |recover=>exact Ja h
  |defer=>exact Ja h
  |panic =>
   cases cL with
   |false=>exact Ja h
   |true =>
    have h:fG vs H (PX x (kI L) Q E D):=h;show fG vs H (wL x tm D up Z);unfold fG at h⊢
    grind [PX.FC]
def I9(g:Option (Nat×Bool))(l:List aL):Prop:=∀s∈l,s.guard=g
def nV.free{Z:ct}(hp:∀c tm H f,(∀t v,lk f t=B1 v->tm.get t=B1 v/\lk E t=B1 v)->Q (.panic c) f D H->Z (.panic c) ⟨tm,D,up,H⟩){K:KR}{g:Bool}{R0:Env}{rest:List aL}(i:∀L R tm H,jZ E L R tm->jZ E L R0 tm->K g L R H->mN M ctx rest ⟨tm,D,up,H⟩ Z) :
 ∀{l:List aL}{L R:Env}{tm:T AV}{H:ar},I9 B5 l->jZ E L R tm->jZ E L R0 tm->nV M cL Q E D K l g L R H->mN M ctx (l++rest) ⟨tm,D,up,H⟩ Z
 |[],L,R,tm,H,_,hr,hr0,h=>i _ _ _ _ hr hr0 h
 |s::l,L,R,tm,H,hg,hr,hr0,h=>by
  rw[Gh,SC];have hs:s.guard=none:=hg s (yd ..);have:=DI.body hp (ctx:=ctx) (up:=up) (KK:=λ d=>mN M ctx (l++rest) d Z) hr hr0 (show DI M cL s Q E D (nV M cL Q E D K l) g L R H from h)
   λ r u q H' _ m o p=>nV.free hp i (λ x j=>hg x (List.mem_cons_of_mem _ j)) m o p
  have⟨gK,dst,guard,args,op,w⟩:=s;subst hs;cases gK<;>exact this
theorem QC:∀(n:Nat)(f:List AV->ar->Prop)(l:List AV)(H:ar),l.length=n->oq n (pn n f) l H=f l H
 |0,f,[],H,_=>rfl
 |n+1,f,v::l,H,h=>QC n (λ l=>f (v::l)) l H (by simpa using h)
 |0,f,_::_,H,h=>by cases h
 |n+1,f,[],H,h=>by cases h
def ac9{α:Type}(l:List α):cF l=l.length:=by
 induction l with
 |nil=>rfl
 |cons x l ih=>grind [cF]
theorem XV:∀(ks:List Nat)(L:Env)(vs:List AV),vs.length=ks.length->oZ ks.length (jQ ks L vs)=vs
 |[],L,[],_=>rfl
 |k::ks,L,v::vs,h=>by
  show v::oZ ks.length (jQ ks L vs)=_;rw[XV ks L vs (by simpa using h)]
 |[],L,_::_,h=>by cases h
 |_::_,L,[],h=>by cases h
def Zn:∀n,(pU n).length=n
 |0=>rfl
 |n+1=>by show(pU n).length+1=_;rw[Zn n]
def nV.under{Z:ct}(hp:∀c tm H y,(∀t v,lk y t=B1 v->tm.get t=B1 v/\lk E t=B1 v)->Q (.panic c) y D H->Z (.panic c) ⟨tm,D,up,H⟩){K:KR}{g:Bool}{R0:Env}{rest:List aL}{t:Nat}{b:Bool}{v:AV}(hw:cJ b (B1 v)=B1 B4){kf:List Nat}{L0:Env}(z:∀vs R tm H,vs.length=kf.length->jZ E (jQ kf L0 vs) R tm->jZ E (jQ kf L0 vs) R0 tm->K g (jQ kf L0 vs) R H->mN M ctx rest ⟨tm,D,up,H⟩ Z) :
 ∀{l:List aL}{acc:List Nat}{us:List AV}{L R:Env}{tm:T AV}{H:ar},bj l acc=kf->us.length=acc.length->L=jQ acc L0 us->I9 (B1 (t,b)) l->sA t l=B4->tm.get t=B1 v->jZ E L R tm->jZ E L R0 tm->nV M cL Q E D K l g L R H->mN M ctx (l++rest) ⟨tm,D,up,H⟩ Z
 |[],acc,us,L,R,tm,H,f,e2,e3,_,_,_,hr,hr0,h=>by
  have f:acc=kf:=f;subst f;subst e3;exact z _ _ _ _ e2 hr hr0 h
 |s::l,acc,us,L,R,tm,H,f,e2,e3,hg,ho,ht,hr,hr0,h=>by
  rw[Gh,SC];have hs:s.guard=B1 (t,b):=hg s (yd ..);have ho:cond (MJ s.dst t) B2 (cond s.gK (cond s.dst.isSome (sA t l) B2) (sA t l))=true:=ho;have p:MJ s.dst t=false:=by grind
  rw[p,ze]at ho;have r:sA t l=true:=by
   grind
  have:=DI.body hp (ctx:=ctx) (up:=up) (KK:=λ u=>mN M ctx (l++rest) u Z) hr hr0 (show DI M cL s Q E D (nV M cL Q E D K l) g L R H from h)
   λ G V U H' F N O S=>by
    have f:bj l (cond s.gK acc (L3 (motive:=λ _=>List Nat) acc (λ d=>d::acc) s.dst))=kf:=f;obtain⟨i,j,o⟩:∃i,i.length=(cond s.gK acc (L3 (motive:=λ _=>List Nat) acc (λ d=>d::acc) s.dst)).length/\G=jQ (cond s.gK acc (L3 (motive:=λ _=>List Nat) acc (λ d=>d::acc) s.dst)) L0 i:=by
     rcases F with⟨C,rfl,_⟩|⟨w,C,rfl,_⟩
     .grind
     .rw [C];cases s.dst with
      |none=>exact⟨us,e2,e3⟩
      |some d=>exact⟨w::us,by simpa using e2,by rw[e3];rfl⟩
    exact nV.under hp hw z f j o (λ x J=>hg x (List.mem_cons_of_mem _ J)) r (by
     rcases F with⟨_,_,rfl⟩|⟨w,_,_,rfl⟩
     .exact ht
     .cases q:s.dst with
      |none=>exact ht
      |some d =>
       rw[q]at p;show(tm.set d w).get t=_;rw[T.aH,qn (Nat.ne_of_beq_eq_false p)];exact ht) N O S
  have⟨gK,dst,guard,args,op,W⟩:=s;subst hs;have e:cJ b (tm.get t)=B1 true:=by grind
  cases gK with
  |false=>exact bJ.intro (m:=aF) e this
  |true=>exact bJ.intro (m:=aF) e this
def nV.over{Z:ct}{R0:Env}{rest:List aL}{t:Nat}{b:Bool}{v:AV}(hw:cJ b (B1 v)=B1 B2){kf:List Nat}{L0:Env}{H:ar}(o:∀tm,jZ E (jQ kf L0 (pU kf.length)) R0 tm->mN M ctx rest ⟨tm,D,up,H⟩ Z) :
 ∀{l:List aL}{acc:List Nat}{tm:T AV},bj l acc=kf->I9 (B1 (t,b)) l->sA t l=B4->tm.get t=B1 v->jZ E (jQ acc L0 (pU acc.length)) R0 tm->mN M ctx (l++rest) ⟨tm,D,up,H⟩ Z
 |[],acc,tm,c,_,_,_,hr0=>by
  have c:acc=kf:=c
  grind
 |s::l,acc,tm,c,hg,ho,ht,hr0=>by
  rw[Gh,SC];have hs:s.guard=B1 (t,b):=hg s (yd ..);have ho:cond (MJ s.dst t) B2 (cond s.gK (cond s.dst.isSome (sA t l) B2) (sA t l))=true:=ho;have j:MJ s.dst t=false:=by grind
  rw[j,ze]at ho;have e:cJ b (tm.get t)=B1 false:=by grind
  have h:I9 (B1 (t,b)) l:=λ x p=>hg x (List.mem_cons_of_mem _ p);have c:bj l (cond s.gK acc (L3 (motive:=λ _=>List Nat) acc (λ d=>d::acc) s.dst))=kf:=c;cases i:s.gK with
  |true =>
   rw[i]at ho c;cases g:s.dst.isSome with
   |false=>grind
   |true =>
    rw[g]at ho;have:=nV.over hw o c h ho ht hr0;have⟨gK,dst,guard,args,op,q⟩:=s;subst hs;subst i;exact bJ.intro (m:=aF) e ⟨g,this⟩
  |false =>
   rw[i]at ho c;have:=nV.over hw o (tm:=dW s.dst .undef tm) c h ho (by
    cases f:s.dst with
     |none=>exact ht
     |some d =>
      rw[f]at j;show(tm.set d _).get t=_;rw[T.aH,qn (Nat.ne_of_beq_eq_false j)];exact ht) (by
    have:=hr0.put s.dst .undef;cases f:s.dst with
     |none=>rw[f]at this;exact this
     |some d=>rw[f]at this;exact this)
   have⟨gK,dst,guard,args,op,q⟩:=s;subst hs;subst i;exact bJ.intro (m:=aF) e this
theorem wY{a b:Option (Nat×Bool)}(h:qJ a b=B4):a=b:=by
 cases a with
 |none=>cases b with
  |none=>rfl
  |some _=>cases h
 |some p=>cases b with
  |none=>cases h
  |some q =>
   have⟨t,x⟩:=p;have⟨u,y⟩:=q;have h:cond (FW t u) (cond x y (!y)) B2=true:=h
   grind [ve]
def Cq:∀(l:List aL),(Ga l).flatMap (·.2)=l /\ ∀x∈Ga l,I9 x.1 x.2
 |[]=>⟨rfl,λ x c=>by cases c⟩
 |s::l=>by
  have⟨d,h⟩:=Cq l;have e:Ga (s::l)=List.casesOn (motive:=λ _=>List CQ) (Ga l) [(s.guard,[s])] λ g r=>cond (qJ g.1 s.guard) ((g.1,s::g.2)::r) ((s.guard,[s])::g::r):=rfl;rw[e];cases hg:Ga l with
  |nil =>
   rw[hg]at d;exact⟨by simpa using d,λ x c=>by simp at c;subst c;intro y f;grind⟩
  |cons g r =>
   rw[hg]at d h;show(cond (qJ g.1 s.guard) ((g.1,s::g.2)::r) ((s.guard,[s])::g::r)).flatMap _=_ /\ ∀x∈cond (qJ g.1 s.guard) ((g.1,s::g.2)::r) ((s.guard,[s])::g::r),_;cases hs:qJ g.1 s.guard with
   |true =>
    refine⟨by simpa using d,λ x c=>?_⟩;rcases j8.1 c with rfl|c
    .intro y f;rcases j8.1 f with rfl|f
     .grind [wY]
     .exact h g (yd ..) y f
    grind
   |false =>
    refine⟨by simpa using d,λ x c=>?_⟩;rcases j8.1 c with rfl|c
    .intro y f;grind
    grind
def ur.M4{Z:ct}(hp:∀c tm H j,(∀t v,lk j t=B1 v->tm.get t=B1 v/\lk E t=B1 v)->Q (.panic c) j D H->Z (.panic c) ⟨tm,D,up,H⟩){K:KR}{g:Bool}(m:∀L R tm H,jZ E L R tm->K g L R H->Z .normal ⟨tm,D,up,H⟩):∀{gs:List CQ}{L R:Env}{tm:T AV}{H:ar},(∀x∈gs,I9 x.1 x.2)->jZ E L R tm->ur M cL Q E D K gs g L R H ->
 mN M ctx (gs.flatMap (·.2)) ⟨tm,D,up,H⟩ Z
 |[],L,R,tm,H,_,hr,h=>m _ _ _ _ hr h
 |x::gs,L,R,tm,H,hg,hr,h=>by
  rw[jv];have r:∀L R tm H,jZ E L R tm->ur M cL Q E D K gs g L R H->mN M ctx (gs.flatMap (·.2)) ⟨tm,D,up,H⟩ Z:=λ L R tm H hr h=>ur.M4 hp m (by grind) hr h;have i:=hg x (yd ..);have⟨q,l⟩:=x;cases q with
  |none=>exact nV.free hp (R0:=R) (by grind) i hr hr (show nV M cL Q E D (ur M cL Q E D K gs) l g L R H from h)
  |some q =>
   have⟨t,b⟩:=q;cases ho:sA t l with
   |false =>
    have h:cond (sA t l) _ False:=h
    grind
   |true =>
    have h:cond (sA t l) _ False:=h;rw[ho,xg]at h;have⟨v,f,o,d,h⟩:=TV.elim hr h;have kl:cF (bj l [])=(bj l []).length:=ac9 _;have h:B3 g (cJ b (B1 v)) λ g w=>tz g w (λ g=>nV M cL Q E D (λ g p _ H=>oq (cF (bj l [])) (pn (cF (bj l [])) λ vs H=>ur M cL Q E D K gs g (jQ (bj l []) L vs) f H) (oZ (cF (bj l [])) p) H) l g L f H)
     (λ g=>oq (cF (bj l [])) (pn (cF (bj l [])) λ vs H=>ur M cL Q E D K gs g (jQ (bj l []) L vs) f H) (pU (cF (bj l []))) H):=h
    have⟨w,hw,h⟩:=B3.elim h;cases w with
    |true =>
     refine nV.under hp (R0:=f) hw (kf:=bj l []) (L0:=L) (λ vs R tm H q u s y=>?_) (acc:=[]) (us:=[]) rfl rfl rfl i ho o d d h
     grind [XV,QC]
    |false =>
     have h:oq (cF (bj l [])) (pn (cF (bj l [])) λ vs H=>ur M cL Q E D K gs g (jQ (bj l []) L vs) f H) (pU (cF (bj l []))) H:=h;rw[kl,QC _ _ _ _ (Zn _)]at h;exact nV.over hw (kf:=bj l []) (L0:=L) (by grind) (acc:=[]) rfl i ho o d
def oW.M4{Z:ct}(hp:∀c tm H d,(∀t v,lk d t=B1 v->tm.get t=B1 v/\lk E t=B1 v)->Q (.panic c) d D H->Z (.panic c) ⟨tm,D,up,H⟩){l:List aL}{g:Bool}{H:ar}{K:KR}{tm:T AV}{ks:List Nat}(he:fy ks E tm)(h:oW M cL Q E D l g H K)(i:∀L R tm H,jZ E L R tm->K g L R H->Z .normal ⟨tm,D,up,H⟩):mN M ctx l ⟨tm,D,up,H⟩ Z:=by
 have⟨j,f⟩:=Cq l;have:=ur.M4 hp (ctx:=ctx) i f (jZ.first he) h
 grind
end
end
end Go.Am
namespace Go.Am
noncomputable section
variable{M:ak}{ctx:Ctx}{K:Kp}
def TA(ks:List Nat)(E:Env):∀(L:Env)(t:Nat)(v:AV),bA t ks=B4->lk (dh ks E L) t=B1 v->lk L t=B1 v\/lk L t=B5/\lk E t=B1 v
 |[],t,v,_,h=>.inr ⟨rfl,h⟩
 |(k,w)::r,t,v,ht,h=>by
  have h:lk (cond (bA k ks) ((k,w)::dh ks E r) (dh ks E r)) t=B1 v:=h;rw[tD];cases hm:bA k ks with
  |true =>
   rw[hm,xg,tD]at h;split at h
   .grind
   .rename_i e;rw[qn e];exact TA ks E r t v ht h
  |false =>
   rw[hm,ze]at h
   by_cases e:k=t
   .grind
   .rw [qn e];exact TA ks E r t v ht h
def RO(ks:List Nat)(E:Env)(c:∀t v,lk E t=B1 v->bA t ks=B4):∀(L:Env)(t:Nat)(v:AV),lk (dh ks E L) t=B1 v->bA t ks=B4
 |[],t,v,h=>c t v h
 |(k,w)::r,t,v,h=>by
  have h:lk (cond (bA k ks) ((k,w)::dh ks E r) (dh ks E r)) t=B1 v:=h;cases hm:bA k ks with
  |true =>
   rw[hm,xg,tD]at h;split at h
   .grind
   .exact RO ks E c r t v h
  |false=>rw[hm,ze]at h;exact RO ks E c r t v h
def jZ.ah{E L R:Env}{tm:T AV}(h:jZ E L R tm){ks:List Nat}(d:∀t v,lk E t=B1 v->bA t ks=B4):fy ks (dh ks E L) tm:=λ t v c=>by
 have hm:=RO ks E d L t v c;refine⟨?_,hm⟩;rcases TA ks E L t v hm c with q|⟨f,g⟩
 .exact h.l t v q
 .exact h.e t v f g
def fy.keys{ks:List Nat}{E:Env}{tm:T AV}(h:fy ks E tm):∀t v,lk E t=B1 v->bA t ks=true:=λ t v c=>(h t v c).2
def fy.cL{ks:List Nat}{E d:Env}{tm c:T AV}(h:fy ks E tm)(f:∀t v,lk d t=B1 v->c.get t=B1 v/\lk E t=B1 v):fy ks d c:=λ t v g=>⟨(f t v g).1,(h t v (f t v g).2).2⟩
def TV.cv{E L R:Env}{x:bE}{g:Bool}{P:Bool->AV->Prop}{tm:T AV}(hr:jZ E L R tm)(h:CV E L R x g P):∃v,pN tm x=B1 v/\P g v:=by
 cases x with
 |tmp t=>have⟨v,_,c,_,d⟩:=TV.elim hr (show TV E L R t g (λ g _ v=>P g v)from h);exact⟨v,c,d⟩
 |const v=>exact⟨v,rfl,h⟩
 |dV v=>exact⟨_,rfl,h⟩
 |func v=>exact⟨_,rfl,h⟩
def OV.elim{ks:List Nat}{E:Env}{x:bE}{g:Bool}{P:Bool->AV->Prop}{tm:T AV}(hr:fy ks E tm)(h:OV E x g P):∃v,pN tm x=B1 v/\P g v:=by
 cases x with
 |tmp t=>have⟨v,c,d⟩:=LK.elim (show LK g (lk E t) P from h);exact⟨v,(hr t v c).1,d⟩
 |const v=>exact⟨v,rfl,h⟩
 |dV v=>exact⟨_,rfl,h⟩
 |func v=>exact⟨_,rfl,h⟩
def Vp{tm:T AV}{x:bE}{v:AV}{P:AV->Prop}(h:pN tm x=B1 v)(hp:P v):CY tm x P:=by
 cases x with
 |tmp t=>exact bJ.intro (m:=aF) h hp
 |const c=>cases h;exact hp
 |dV c=>cases h;exact hp
 |func c=>cases h;exact hp
def lT.wp{a b:ai}{g:Bool}{v:AV}{A B:Bool->Prop}{tm:T AV}{c:bE}{st:St}{Q:ct}(d:pN st.tm c=B1 v)(h:lT g v A B)(ha:A g->WP M ctx a st Q)(hb:B g->WP M ctx b st Q):WP M ctx (.cond c a b) st Q:=by
 obtain⟨q,rfl,h⟩:=h.elim;refine Vp d ?_;cases q with
 |true=>exact ha h
 |false=>exact hb h
def eF:ai->Nat
 | .seq a b=>eF a+eF b+1
 | .cond _ a b=>eF a+eF b+1
 | .block _ b=>eF b+1
 | .loop _ b=>eF b+1
 | .scope b=>eF b+1
 |_=>0
def W3.wp:∀(n:Nat)(c:ai),eF c<=n -> ∀{g:Bool}{Q:aE}{E:Env}{D:List aK}{H:ar}{tm:T AV}{up:Option aA},W3 M ctx K c g Q E D H->fy K.ah E tm->WP M ctx c ⟨tm,D,up,H⟩ (QQ K.ah Q up):=by
 intro n
 induction n with
 |zero =>
  intro c hc g Q E D H tm up h he;cases c with
  |skip=>exact⟨rfl,E,he,h⟩
  |label _=>exact⟨rfl,E,he,h⟩
  |exit _=>exact⟨rfl,E,he,h⟩
  |goto _=>exact⟨rfl,E,he,h⟩
  |ret=>exact⟨rfl,E,he,h⟩
  |stuck=>exact Ja h
  |region l=>exact oW.M4 (λ c w H' j p i=>⟨rfl,j,he.cL p,i⟩) he (show oW M K.cL Q E D l g H _ from h) λ L R tm H hr hk=>⟨rfl,_,hr.ah he.keys,hk⟩
  |rangeFunc f k =>
   have⟨v,s,h⟩:=OV.elim he (show OV E f g _ from h);exact Vp s (by
    have:=h tm up he;unfold Fm at this⊢;split
    .rename_i hr;rw[hr]at this;exact MU this λ e st⟨p,i,o⟩=>⟨p,E,by rw[i];exact he,o⟩
    .rename_i l hr;rw[hr]at this;exact CK (m:=aF) this λ d q=>MU q λ e st⟨p,i,o⟩=>⟨p,E,by rw[i];exact he,o⟩)
  |seq _ _=>grind [eF]
  |cond _ _ _=>grind [eF]
  |block _ _=>grind [eF]
  |loop _ _=>grind [eF]
  |scope _=>grind [eF]
 |succ n ih =>
  intro c hc g Q E D H tm up h he;have t:∀{a b:ai}{tm:T AV}{H:ar},eF b<=n->WP M ctx a ⟨tm,D,up,H⟩ (QQ K.ah (ey (W3 M ctx K b) Q) up)->WP M ctx a ⟨tm,D,up,H⟩ (Ax (WP M ctx b) (QQ K.ah Q up)):=λ{a b tm H}hb h=>oE h λ e st⟨p,j,i,o⟩=>by
   have⟨w,D',U,H'⟩:=st;subst p;cases e with
   |normal=>exact ih b hb o i
   |exit _=>exact⟨rfl,j,i,o⟩
   |goto _=>exact⟨rfl,j,i,o⟩
   |ret=>exact⟨rfl,j,i,o⟩
   |panic _=>exact⟨rfl,j,i,o⟩
  have z:∀{c:bE}{x y:ai}{E:Env}{tm:T AV}{v:AV}{g:Bool}{Q:aE}{H:ar},eF x<=n->eF y<=n->pN tm c=B1 v->fy K.ah E tm->lT g v (λ g=>W3 M ctx K x g Q E D H) (λ g=>W3 M ctx K y g Q E D H)->WP M ctx (.cond c x y) ⟨tm,D,up,H⟩ (QQ K.ah Q up) :=
   λ{c x y E tm v g Q H}hx hy s he h=>lT.wp (tm:=tm) (st:=⟨tm,D,up,H⟩) s h (by grind) (by grind)
  cases c with
  |seq a b =>
   have O:eF a+eF b<=n:=by grind [eF]
   have gen:W3 M ctx K a g (ey (W3 M ctx K b) Q) E D H->WP M ctx (.seq a b) ⟨tm,D,up,H⟩ (QQ K.ah Q up):=λ h=>t (a:=a) (b:=b) (by omega) (ih a (by omega) h he);have nQ:∀(l:List aL)(N:KR),a=.region l->oW M K.cL Q E D l g H N->(∀L R tm H,jZ E L R tm->N g L R H->WP M ctx b ⟨tm,D,up,H⟩ (QQ K.ah Q up))->WP M ctx (.seq a b) ⟨tm,D,up,H⟩ (QQ K.ah Q up):=λ l N e Y hk=>by
    subst e;exact oW.M4 (Z:=Ax (WP M ctx b) (QQ K.ah Q up)) (λ c w H' j p i=>⟨rfl,j,he.cL p,i⟩) he Y hk
   cases a with
   |region l =>
    have plain:(oW M K.cL Q E D l g H λ g L _ H=>W3 M ctx K b g Q (dh K.ah E L) D H)->WP M ctx (.seq (.region l) b) ⟨tm,D,up,H⟩ (QQ K.ah Q up):=λ h=>nQ l _ rfl h λ L R tm H hr hk=>ih b (by omega) hk (hr.ah he.keys);cases b with
    |cond c x y =>
     have S:eF x+eF y+1<=n:=by grind [eF]
     refine nQ l _ rfl h λ L R tm H hr hk=>?_;have⟨v,s,hk⟩:=TV.cv hr hk;exact z (by omega) (by omega) s (hr.ah he.keys) hk
    |seq b1 r =>
     cases b1 with
     |cond c x y =>
      have S:eF x+eF y+1+eF r+1<=n:=by grind [eF]
      refine nQ l _ rfl h λ L R tm H hr hk=>?_;have⟨v,s,hk⟩:=TV.cv hr hk;exact t (by omega) (z (by omega) (by omega) s (hr.ah he.keys) hk)
     |_=>exact plain h
    |_=>exact plain h
   |_=>exact gen h
  |cond c x y =>
   have O:eF x+eF y<=n:=by grind [eF]
   have⟨v,s,h⟩:=OV.elim he (show OV E c g _ from h)
   grind
  |block id b =>
   have hb:eF b<=n:=by grind [eF]
   exact oE (c:=b) (ih b hb (show W3 M ctx K b g (eD id Q) E D H from h) he) λ e st⟨p,j,i,o⟩=>by cases e<;>exact⟨p,j,i,o⟩
  |scope b =>
   have hb:eF b<=n:=by grind [eF]
   refine oE (c:=b) (ih b hb (show W3 M ctx K b g (jO b Q) E D H from h) he) λ e st⟨p,j,i,o⟩=>?_;cases e with
   |goto l=>exact⟨o.1,p,j,i,o.2⟩
   |normal=>exact⟨p,j,i,o⟩
   |exit _=>exact⟨p,j,i,o⟩
   |ret=>exact⟨p,j,i,o⟩
   |panic _=>exact⟨p,j,i,o⟩
  |loop ah b =>
   have hb:eF b<=n:=by grind [eF]
   cases ah with
   |some _=>exact Ja h
   |none =>
    have⟨I,⟨n0,V,h0,hs⟩,u⟩:=(show dA (W3 M ctx K b) Q E D H from h)
    refine⟨λ n st=>st.up=up /\ ∃j,fy K.ah j st.tm/\I n j st.aV st.H,⟨n0,rfl,V,hs.sub he,h0⟩,λ n st⟨p,j,i,o⟩=>?_⟩;have⟨w,D',U,H'⟩:=st;subst p;refine oE (c:=b) (ih b hb (u n j D' H' o) i) λ e st⟨C,J,F,G⟩=>?_;cases e with
    |normal=>have⟨m,W,q1,q2,q3⟩:=G;exact⟨m,q3,C,W,q2.sub F,q1⟩
    |exit _=>exact⟨C,J,F,G⟩
    |goto _=>exact⟨C,J,F,G⟩
    |ret=>exact⟨C,J,F,G⟩
    |panic _=>exact⟨C,J,F,G⟩
  |skip=>exact⟨rfl,E,he,h⟩
  |label _=>exact⟨rfl,E,he,h⟩
  |exit _=>exact⟨rfl,E,he,h⟩
  |goto _=>exact⟨rfl,E,he,h⟩
  |ret=>exact⟨rfl,E,he,h⟩
  |stuck=>exact Ja h
  |region l=>exact ih _ (xu _) h he
  |rangeFunc f k=>exact ih _ (xu _) h he
def iy(E:Env)(H:ar):List dM->(List AV->Prop)->Prop
 |[],P=>P []
 | .tmp t::rs,P=>LK B4 (lk E t) λ _ v=>iy E H rs λ vs=>P (v::vs)
 | .jL a::rs,P=>LK B4 (lk E a) λ _ v=>B3 B4 (Op.ae [v] H) λ _ v=>iy E H rs λ vs=>P (v::vs)
 | .dq n a::rs,P=>LK B4 (lk E a) λ _ v=>B3 B4 (Op.av n [v] H) λ _ v=>iy E H rs λ vs=>P (v::vs)
def my(M:ak)(rs:List dM)(E:Env)(Q:bF->ar->Prop):List aK->Option aA->ar->Prop
 |[],B5,H=>iy E H rs λ l=>Q (.ret (iF l)) H
 |[],B1 c,H=>Q (.panic c) H
 | .im b::ds,m,H=>H.get b=B1 (.deferred (B1 []))/\my M rs E Q ds m (H.set b (.deferred B5))
 | .fn (.func f) args::ds,m,H=>∃v up' H',iM M f args (B1 (m.getD [])) H (.ret v) (B1 up') H'/\bJ aF (mi m up') λ m'=>my M rs E Q ds m' H'
 | .fn (.yield _) _::_,_,_=>False
def iy.elim{ks:List Nat}{E:Env}{tm:T AV}(he:fy ks E tm){H:ar}:∀{rs:List dM}{P:List AV->Prop},iy E H rs P -> ∃l,dD H tm rs=B1 l/\P l
 |[],P,h=>⟨[],rfl,h⟩
 | .tmp t::rs,P,h=>by
  have⟨v,c,h⟩:=LK.elim (show LK B4 (lk E t) _ from h);have⟨l,d,h⟩:=iy.elim he h;exact⟨v::l,by rw[C7,(he t v c).1,d];rfl,h⟩
 | .jL t::rs,P,h=>by
  have⟨v,c,h⟩:=LK.elim (show LK B4 (lk E t) _ from h);have⟨w,d,h⟩:=B3.elim h;have⟨l,f,h⟩:=iy.elim he h;exact⟨w::l,by rw[ε,(he t v c).1,qm,d,qm,f];rfl,h⟩
 | .dq n t::rs,P,h=>by
  have⟨v,c,h⟩:=LK.elim (show LK B4 (lk E t) _ from h);have⟨w,d,h⟩:=B3.elim h;have⟨l,f,h⟩:=iy.elim he h;exact⟨w::l,by rw[xg7,(he t v c).1,qm,d,qm,f];rfl,h⟩
theorem my.Pw{ks:List Nat}{E:Env}{tm:T AV}(he:fy ks E tm){rs:List dM}{Q:bF->ar->Prop}:∀{D:List aK}{m:Option aA}{H:ar},my M rs E Q D m H->vL M rs tm Q D m H
 |[],B5,H,h=>by have⟨l,d,g⟩:=iy.elim he h;exact bJ.intro (m:=aF) d g
 |[],B1 c,H,h=>h
 | .im b::ds,m,H,⟨d,g⟩=>⟨d,my.Pw he g⟩
 | .fn (.func f) args::ds,m,H,⟨v,up',H',d,g⟩=>⟨v,up',H',d,CK g λ i h=>my.Pw he h⟩
 | .fn (.yield _) _::_,_,_,h=>h
def eR(M:ak)(rs:List dM)(Q:bF->ar->Prop):aE:=λ e E D H=>match e with
 | .normal=>my M rs E Q D B5 H
 | .ret=>my M rs E Q D B5 H
 | .panic c=>my M rs E Q D (B1 c) H
 |_=>False
def CM(M:ak)(f:Nat)(vs:List AV)(H:ar)(Q:bF->ar->Prop):Prop:=∃e H',CALL M f vs H e H'/\Q e H'
def tc(Q:AV->ar->Prop)(e:bF)(H:ar):Prop:=match e with
 | .ret v=>Q v H
 | .panic _=>False
def xz(M:ak)(f:Nat)(vs:List AV)(H:ar)(Q:AV->ar->Prop):Prop:=CM M f vs H (tc Q)
def xz.elim{f:Nat}{vs:List AV}{H:ar}{Q:AV->ar->Prop}(h:xz M f vs H Q):∃v H',CALL M f vs H (.ret v) H'/\Q v H':=by
 have⟨e,H',d,c⟩:=h;cases e with
 |ret v=>exact⟨v,H',d,c⟩
 |panic _=>exact c.elim
theorem xz.intro{f:Nat}{vs:List AV}{H:ar}{Q:AV->ar->Prop}{v:AV}{H':ar}(h:CALL M f vs H (.ret v) H')(c:Q v H'):xz M f vs H Q:=⟨_,H',h,c⟩
def xz.mono{f:Nat}{vs:List AV}{H:ar}{Q Q':AV->ar->Prop}(h:xz M f vs H Q)(g:∀v H',Q v H'->Q' v H'):xz M f vs H Q':=by
 have⟨v,H',c,d⟩:=h.elim;exact⟨_,H',c,g _ _ d⟩
def C3.q{m:Bool}{f:Nat}{vs:List AV}{H:ar}{R:AV->ar->Prop}{P:Bool->AV->ar->Prop}(h:xz M f vs H R)(hk:∀v H',R v H'->P m v H'):C3 M m (.func f) vs H P:=by
 have⟨v,H',c,d⟩:=h.elim;exact⟨v,H',c,hk v H' d⟩
def C3.ret{m:Bool}{f:Nat}{vs:List AV}{H:ar}{P:Bool->AV->ar->Prop}{v:AV}{H':ar}(h:CALL M f vs H (.ret v) H')(hk:P m v H'):C3 M m (.func f) vs H P:=⟨v,H',h,hk⟩
def C3.vM{m:Bool}{l:Nat}{vs:List AV}{H:ar}{P:Bool->AV->ar->Prop}{v:AV}{H':ar}(h:qF M l vs H (.ret v) H')(hk:P m v H'):C3 M m (.yield l) vs H P:=⟨v,H',h,hk⟩
def P3.q{m:Bool}{X:aA->ar->Prop}{f:Nat}{vs:List AV}{H:ar}{R:bF->ar->Prop}{P:Bool->AV->ar->Prop}(h:CM M f vs H R)(hk:∀v H',R (.ret v) H'->P m v H')(i:∀c H',R (.panic c) H'->X c H'):P3 M m X (.func f) vs H P:=by
 have⟨e,H',d,g⟩:=h;refine⟨e,H',d,?_⟩
 grind
def i7:Nat->List AV->Env
 |_,[]=>[]
 |i,v::vs=>(i,v)::i7 (i+1) vs
def iU:Nat->Nat->List Nat->Bool
 |_,0,_=>B4
 |i,n+1,ks=>bA i ks && iU (i+1) n ks
def VY:∀(vs:List AV)(i t:Nat)(tm:T AV),(iP i vs tm).get t=if i<=t then(match vs[t-i]? with|some v=>B1 v|none=>tm.get t)else tm.get t
 |[],i,t,tm=>by simp[iP]
 |v::vs,i,t,tm=>by
  rw[iP,VY vs (i+1) t,T.aH]
  grind
def XM:∀(vs:List AV)(i t:Nat)(v:AV),lk (i7 i vs) t=B1 v->i<=t/\vs[t-i]? = B1 v
 |[],i,t,v,h=>by cases h
 |w::vs,i,t,v,h=>by
  rw[i7,tD]at h;split at h
  .grind
  .have ⟨c,d⟩:=XM vs (i+1) t v h
   grind
def ZV:∀(n i:Nat)(ks:List Nat),iU i n ks=B4 -> ∀t,i<=t->t<i+n->bA t ks=B4
 |0,i,ks,_,t,h1,h2=>by omega
 |n+1,i,ks,h,t,h1,h2=>by
  simp only[iU,xq]at h
  by_cases e:i=t
  .grind
  .exact ZV n (i+1) ks h.2 t (by omega) (by omega)
def Rg{ks:List Nat}{vs:List AV}(h:iU 0 vs.length ks=B4):fy ks (i7 0 vs) (iP 0 vs .nil):=λ t v d=>by
 have⟨_,c⟩:=XM vs 0 t v d;rw[Nat.sub_zero]at c;refine⟨by simp_all[VY],ZV _ 0 ks h t (xu _) ?_⟩
 grind
structure Fn3 where
 n:Nat
 F:b9
 K:Kp
def pre:ai->List ai
 | .seq a b=>.seq a b::jD (pre a) (pre b)
 | .cond c a b=>.cond c a b::jD (pre a) (pre b)
 | .block i b=>.block i b::pre b
 | .loop k b=>.loop k b::pre b
 | .scope b=>.scope b::pre b
 |c=>[c]
def part(c:ai)(k:Nat):ai:=L3 (motive:=λ _=>ai) .stuck (λ c=>c) (nth (pre c) k)
def cX:ai->Nat
 | .seq a b=>cX a+cX b+1
 | .cond _ a b=>cX a+cX b+1
 | .block _ b=>cX b+1
 | .loop _ b=>cX b+1
 | .scope b=>cX b+1
 |_=>1
def C8:∀(c:ai),(pre c).length=cX c
 | .seq a b=>by simp[pre,cX,wx,C8 a,C8 b]
 | .cond _ a b=>by simp[pre,cX,wx,C8 a,C8 b]
 | .block _ b=>by simp[pre,cX,C8 b]
 | .loop _ b=>by simp[pre,cX,C8 b]
 | .scope b=>by simp[pre,cX,C8 b]
 | .skip=>rfl
 | .label _=>rfl
 | .exit _=>rfl
 | .goto _=>rfl
 | .ret=>rfl
 | .stuck=>rfl
 | .region _=>rfl
 | .rangeFunc _ _=>rfl
def RM(c:ai):∃l,pre c=c::l:=by cases c<;>exact⟨_,rfl⟩
def Uv{α:Type}:∀(l:List α)(i:Nat),nth l i=l[i]?
 |[],i=>rfl
 |x::l,0=>rfl
 |x::l,i+1=>by rw[zw,<-Uv l i];rfl
def GH:∀(r:ai)(k:Nat)(c:ai),(pre r)[k]? = B1 c -> ∃l,(pre r).drop k=pre c++l:=by
 intro r
 induction r with
 |seq a b iha ihb =>
  intro k c h;cases k with
  |zero=>simp[pre]at h;simp_all
  |succ k =>
   simp only[pre,wx,zw]at h
   grind [pre,wx,vp,jd]
 |cond x a b iha ihb =>
  intro k c h;cases k with
  |zero=>simp[pre]at h;simp_all
  |succ k =>
   simp only[pre,wx,zw]at h
   grind [pre,wx,vp,jd]
 |block i b ih =>
  intro k c h;cases k with
  |zero=>simp[pre]at h;simp_all
  |succ k=>grind [pre]
 |loop i b ih =>
  intro k c h;cases k with
  |zero=>simp[pre]at h;simp_all
  |succ k=>grind [pre]
 |scope b ih =>
  intro k c h;cases k with
  |zero=>simp[pre]at h;simp_all
  |succ k=>grind [pre]
 |_ =>
  intro k c h;cases k with
  |zero=>simp[pre]at h;simp_all
  |succ k=>grind [pre]
def Yw{r:ai}{k:Nat}{c:ai}(h:(pre r)[k]? = B1 c):part r k=c:=by
 simp_all[part,Uv]
def iu{r:ai}{k:Nat}{c:ai}(h:part r k=c)(i:c≠ .stuck):∀(j:Nat)(d:ai),(pre c)[j]? = B1 d->part r (k+j)=d:=λ j d f=>by
 have g:(pre r)[k]? = B1 c:=by
  unfold part at h;rw[Uv]at h;cases m:(pre r)[k]? with
  |none=>simp_all
  |some x=>simp_all
 have⟨l,hl⟩:=GH r k c g;refine Yw ?_;rw[<-yt,hl,ya (qo.1 f).1,f]
def xB(c:ai):(pre c)[0]? = B1 c:=by have⟨l,h⟩:=RM c;grind
def Es{r:ai}{k:Nat}{c a b:ai}(h:part r k=c)(d:c≠ .stuck)(e:∃x l,pre c=x::(pre a++l)):part r (k+1)=a:=by
 have⟨x,l,e⟩:=e;have⟨f,e'⟩:=RM a;simp_all[iu]
def JD{r:ai}{k:Nat}{c a b:ai}(h:part r k=c)(d:c≠ .stuck)(e:∃x,pre c=x::(pre a++pre b)):part r (k+1+cX a)=b:=by
 have⟨x,e⟩:=e;have⟨f,e'⟩:=RM b;rw[yz];exact iu h d (1+cX a) b (by rw[e,Nat.add_comm,zw,z7 (by rw[C8];exact qg _),C8,Nat.sub_self,e'];rfl)
def U(M:ak)(ctx:Ctx)(K:Kp)(X:Nat->WX):ai->Nat->WX
 | .skip,_,g,Q,E,D,H=>pk g Q .normal E D H
 | .label _,_,g,Q,E,D,H=>pk g Q .normal E D H
 | .exit id,_,g,Q,E,D,H=>pk g Q (.exit id) E D H
 | .goto l,_,g,Q,E,D,H=>pk g Q (.goto l) E D H
 | .ret,_,g,Q,E,D,H=>pk g Q .ret E D H
 | .stuck,_,_,_,_,_,_=>False
 | .region l,_,g,Q,E,D,H=>oW M K.cL Q E D l g H λ g L _ H=>pk g Q .normal (dh K.ah E L) D H
 | .seq a b,k,g,Q,E,D,H=>match a,b with
  | .region l,.cond c x y=>oW M K.cL Q E D l g H λ g L R H=>CV E L R c g λ g v=>lT g v (λ g=>(Ju (motive:=λ _=>WX) (U M ctx K X x (k+3)) (X (k+3)) (bA (k+3) K.named)) g Q (dh K.ah E L) D H) (λ g=>(Ju (motive:=λ _=>WX) (U M ctx K X y (k+3+cX x)) (X (k+3+cX x)) (bA (k+3+cX x) K.named)) g Q (dh K.ah E L) D H)
  | .region l,.seq (.cond c x y) r=>oW M K.cL Q E D l g H λ g L R H=>CV E L R c g λ g v=>lT g v (λ g=>(Ju (motive:=λ _=>WX) (U M ctx K X x (k+4)) (X (k+4)) (bA (k+4) K.named)) g (ey (Ju (motive:=λ _=>WX) (U M ctx K X r (k+4+cX x+cX y)) (X (k+4+cX x+cX y)) (bA (k+4+cX x+cX y) K.named)) Q) (dh K.ah E L) D H)
   (λ g=>(Ju (motive:=λ _=>WX) (U M ctx K X y (k+4+cX x)) (X (k+4+cX x)) (bA (k+4+cX x) K.named)) g (ey (Ju (motive:=λ _=>WX) (U M ctx K X r (k+4+cX x+cX y)) (X (k+4+cX x+cX y)) (bA (k+4+cX x+cX y) K.named)) Q) (dh K.ah E L) D H)
  | .region l,b=>oW M K.cL Q E D l g H λ g L _ H=>(Ju (motive:=λ _=>WX) (U M ctx K X b (k+2)) (X (k+2)) (bA (k+2) K.named)) g Q (dh K.ah E L) D H
  |a,b=>(Ju (motive:=λ _=>WX) (U M ctx K X a (k+1)) (X (k+1)) (bA (k+1) K.named)) g (ey (Ju (motive:=λ _=>WX) (U M ctx K X b (k+1+cX a)) (X (k+1+cX a)) (bA (k+1+cX a) K.named)) Q) E D H
 | .cond c x y,k,g,Q,E,D,H=>OV E c g λ g v=>lT g v (λ g=>(Ju (motive:=λ _=>WX) (U M ctx K X x (k+1)) (X (k+1)) (bA (k+1) K.named)) g Q E D H) (λ g=>(Ju (motive:=λ _=>WX) (U M ctx K X y (k+1+cX x)) (X (k+1+cX x)) (bA (k+1+cX x) K.named)) g Q E D H)
 | .block id b,k,g,Q,E,D,H=>(Ju (motive:=λ _=>WX) (U M ctx K X b (k+1)) (X (k+1)) (bA (k+1) K.named)) g (eD id Q) E D H
 | .scope b,k,g,Q,E,D,H=>(Ju (motive:=λ _=>WX) (U M ctx K X b (k+1)) (X (k+1)) (bA (k+1) K.named)) g (jO b Q) E D H
 | .loop (B1 _) _,_,_,_,_,_,_=>False
 | .loop B5 b,k,g,Q,E,D,H=>dA (Ju (motive:=λ _=>WX) (U M ctx K X b (k+1)) (X (k+1)) (bA (k+1) K.named)) Q E D H
 | .rangeFunc f n,_,g,Q,E,D,H=>OV E f g λ g v=>iL M K.ah ctx n E D H Q v
def Tq(r:ai):∀(n:Nat)(c:ai),cX c<=n -> ∀k,part r k=c->U M ctx K (λ j=>W3 M ctx K (part r j)) c k=W3 M ctx K c:=by
 intro n
 induction n with
 |zero=>intro c t;cases c<;>simp[cX]at t
 |succ n ih =>
  intro c t k hk;have sub:∀(d:ai)(j:Nat),cX d<=n->part r j=d->Ju (motive:=λ _=>WX) (U M ctx K (λ j=>W3 M ctx K (part r j)) d j) (W3 M ctx K (part r j)) (bA j K.named)=W3 M ctx K d:=λ d j w z=>by
   cases bA j K.named with
   |true=>grind
   |false=>grind
  have pl:=@Es r;have C:=@JD r;cases c with
  |seq a b =>
   have e:pre (.seq a b)=.seq a b::(pre a++pre b):=by simp[pre,wx]
   have ha:=Es (b:=b) hk (by simp) ⟨_,_,e⟩;have hb:=JD hk (by simp) ⟨_,e⟩;have hs:cX a+cX b<=n:=by grind [cX]
   have gen:(Ju (motive:=λ _=>WX) (U M ctx K (λ j=>W3 M ctx K (part r j)) a (k+1)) (W3 M ctx K (part r (k+1))) (bA (k+1) K.named))=W3 M ctx K a/\(Ju (motive:=λ _=>WX) (U M ctx K (λ j=>W3 M ctx K (part r j)) b (k+1+cX a)) (W3 M ctx K (part r (k+1+cX a))) (bA (k+1+cX a) K.named))=W3 M ctx K b :=
    ⟨sub a _ (by omega) ha,sub b _ (by omega) hb⟩
   cases a with
   |region l =>
    have plain:(Ju (motive:=λ _=>WX) (U M ctx K (λ j=>W3 M ctx K (part r j)) b (k+2)) (W3 M ctx K (part r (k+2))) (bA (k+2) K.named))=W3 M ctx K b:=sub b _ (by omega) hb;cases b with
    |cond c x y =>
     have f:pre (.cond c x y)=.cond c x y::(pre x++pre y):=by simp[pre,wx]
     have m:=Es (b:=y) hb (by simp) ⟨_,_,f⟩;have p:=JD hb (by simp) ⟨_,f⟩;have o:cX x+cX y+1<=n:=by grind [cX]
     have s1:=sub x (k+3) (by omega) m;have s2:=sub y (k+3+cX x) (by omega) p;funext g Q E D H;simp only[U,W3,s1,s2]
    |seq b1 q =>
     cases b1 with
     |cond c x y =>
      have s:pre (.seq (.cond c x y) q)=.seq (.cond c x y) q::(pre (.cond c x y)++pre q):=by simp[pre,wx]
      have f:pre (.cond c x y)=.cond c x y::(pre x++pre y):=by simp[pre,wx]
      have h:=Es (b:=q) hb (by simp) ⟨_,_,s⟩;have u:=JD hb (by simp) ⟨_,s⟩;have m:=Es (b:=y) h (by simp) ⟨_,_,f⟩;have p:=JD h (by simp) ⟨_,f⟩;have o:cX x+cX y+1+cX q+1<=n:=by grind [cX]
      have s1:=sub x (k+4) (by omega) m;have s2:=sub y (k+4+cX x) (by omega) p;have F:=sub q (k+4+cX x+cX y) (by omega) (by rw[<-u];simp only[cX];congr 1;omega);simp_all[U,W3]
     |_=>simp_all[U,W3]
    |_=>simp_all[U,W3]
   |_=>funext g Q E D H;simp only[U,W3]at gen⊢;simp only[gen.1,gen.2]
  |cond c x y =>
   have f:pre (.cond c x y)=.cond c x y::(pre x++pre y):=by simp[pre,wx]
   have m:=Es (b:=y) hk (by simp) ⟨_,_,f⟩;have p:=JD hk (by simp) ⟨_,f⟩;have o:cX x+cX y<=n:=by grind [cX]
   have s1:=sub x (k+1) (by omega) m;have s2:=sub y (k+1+cX x) (by omega) p;simp_all[U,W3]
  |block i b =>
   have s1:=sub b (k+1) (by grind [cX]) (Es (b:=b) hk (by simp) (by simp_all[pre]));simp_all[U,W3]
  |scope b =>
   have s1:=sub b (k+1) (by grind [cX]) (Es (b:=b) hk (by simp) (by simp_all[pre]));simp_all[U,W3]
  |loop i b =>
   have s1:=sub b (k+1) (by grind [cX]) (Es (b:=b) hk (by simp) (by simp_all[pre]));funext g Q E D H;cases i with
   |none=>grind [U,W3]
   |some _=>rfl
  |_=>funext g Q E D H;rfl
def K3:∃F:ak->Ctx->Kp×ai->WX,F=λ M ctx p=>W3 M ctx p.1 p.2:=⟨_,rfl⟩
def W:ak->Ctx->Kp×ai->WX:=Classical.choose K3
theorem jY(M:ak)(ctx:Ctx)(p:Kp×ai):W M ctx p=W3 M ctx p.1 p.2:=congrFun (congrFun (congrFun (Classical.choose_spec K3) M) ctx) p
def funcAt(P:Fv)(n:Nat):b9:=L3 (motive:=λ _=>b9) ⟨[],.stuck,[]⟩ (λ f=>f) ((aU P).func n)
def i9(F:b9)(i:Nat):dT:=L3 (motive:=λ _=>dT) ⟨[],.stuck,.stuck⟩ (λ l=>l) (nth F.loops i)
def yI{M:ak}{ctx:Ctx}{K:Kp}{r:ai}{k:Nat}{g:Bool}{Q:aE}{E:Env}{D:List aK}{H:ar}{R:Prop}(h:U M ctx K (λ j=>W M ctx (K,part r j)) (part r k) k g Q E D H=R):W M ctx (K,part r k) g Q E D H=R:=by
 rw[<-h];have e:(λ j=>W M ctx (K,part r j))=λ j=>W3 M ctx K (part r j):=by grind [jY]
 rw[e,Tq (ctx:=ctx) (K:=K) r _ (part r k) (qg _) k rfl,jY]
abbrev uu:AV:=.undef
def O1(c:ai):part c 0=c:=Yw (xB c)
def U4{α β:Type}{a b:α}{x y:β}(h:(a,x)=(b,y)):a=b/\x=y:=by grind
def LD{M:ak}{f:Nat}{fn:b9}(j:M.func f=B1 fn){ks:Kp}{vs:List AV}(hk:iU 0 vs.length ks.ah=B4){H:ar}{Q:bF->ar->Prop}
 (h:W M ⟨B5,f⟩ (ks,part fn.body 0) B4 (eR M fn.results Q) (i7 0 vs) [] H):CM M f vs H Q:=by
 rw[jY,O1]at h;refine YP j (oE (W3.wp (eF fn.body) fn.body (qg _) (up:=B5) h (Rg hk)) λ e st⟨g,i,o,d⟩=>?_);have⟨tm,D,up,H'⟩:=st;have g:up=none:=g;subst g;have mono:∀{m:Option aA},my M fn.results i Q D m H'->vL M fn.results tm (λ e H=>(B5:Option aA)=B5/\Q e H) D m H':=λ{m}h=>by
  have l:my M fn.results i (λ e H=>(B5:Option aA)=B5/\Q e H) D m H':=by
   grind
  grind [my.Pw]
 cases e with
 |normal=>exact mono d
 |ret=>exact mono d
 |panic c=>exact mono d
 |exit _=>exact d.elim
 |goto _=>exact d.elim
section
variable(E:Env)(H:ar)(K:Bool->AV->Prop)(K2:Bool->AV->ar->Prop)(A B:Bool->Prop)
def Lz(E:Env)(n:Nat)(K:Bool->AV->Prop):Prop:=LK B4 (lk E n) K
def Ly(g:Bool)(E:Env)(n:Nat)(K:Bool->AV->Prop):Prop:=LK g (lk E n) K
def Fl(g:Bool)(i:Nat)(a:AV)(H:ar)(K:Bool->AV->Prop):Prop:=B3 g (Op.fieldAddr i [a]) λ g x=>B3 g (Op.ae [x] H) K
def Nf(g:Bool)(i:Nat)(a:AV)(H:ar)(K:Bool->AV->Prop):Prop:=B3 g (Op.nilCheck [a]) λ g x=>Fl g i x H K
def Fs(g:Bool)(i:Nat)(a b:AV)(H:ar)(K:Bool->AV->ar->Prop):Prop:=B3 g (Op.fieldAddr i [a]) λ g x=>iG g (Op.store 1 [x,b] H) K
def Ns(g:Bool)(i:Nat)(a b:AV)(H:ar)(K:Bool->AV->ar->Prop):Prop:=B3 g (Op.nilCheck [a]) λ g x=>Fs g i x b H K
def Xl(g:Bool)(a b:AV)(H:ar)(K:Bool->AV->Prop):Prop:=B3 g (Op.aN 1 [a,b]) λ g x=>B3 g (Op.ae [x] H) K
def Xs(g:Bool)(a b c:AV)(H:ar)(K:Bool->AV->ar->Prop):Prop:=B3 g (Op.aN 1 [a,b]) λ g x=>iG g (Op.store 1 [x,c] H) K
def Bn(g:Bool)(o:BinOp)(a b:AV)(K:Bool->AV->Prop):Prop:=B3 g (Op.bin o [a,b]) K
def Cb(g:Bool)(o:BinOp)(a b:AV)(A B:Bool->Prop):Prop:=B3 g (Op.bin o [a,b]) λ g v=>lT g v A B
def Gt(g:Bool)(M:ak)(c:Ctx)(p:Kp×ai)(Q:aE)(E:Env)(D:List aK)(H:ar):Prop:=pk g (ey (W M c p) Q) .normal E D H
def T2(n:Nat):Lz E n K=LK B4 (lk E n) K:=propext jg
def PK(n:Nat):Ly B4 E n K=LK B4 (lk E n) K:=propext jg
def PU(i:Nat)(a:AV):Fl B4 i a H K=B3 B4 (Op.fieldAddr i [a]) λ g x=>B3 g (Op.ae [x] H) K:=propext jg
def Qf(i:Nat)(a:AV):Nf B4 i a H K=B3 B4 (Op.nilCheck [a]) λ g x=>Fl g i x H K:=propext jg
def Qm(i:Nat)(a b:AV):Fs B4 i a b H K2=B3 B4 (Op.fieldAddr i [a]) λ g x=>iG g (Op.store 1 [x,b] H) K2:=propext jg
def Tg(i:Nat)(a b:AV):Ns B4 i a b H K2=B3 B4 (Op.nilCheck [a]) λ g x=>Fs g i x b H K2:=propext jg
def Qo(a b:AV):Xl B4 a b H K=B3 B4 (Op.aN 1 [a,b]) λ g x=>B3 g (Op.ae [x] H) K:=propext jg
def Qt(a b c:AV):Xs B4 a b c H K2=B3 B4 (Op.aN 1 [a,b]) λ g x=>iG g (Op.store 1 [x,c] H) K2:=propext jg
def Q4(o:BinOp)(a b:AV):Bn B4 o a b K=B3 B4 (Op.bin o [a,b]) K:=propext jg
def TX(o:BinOp)(a b:AV):Cb B4 o a b A B=B3 B4 (Op.bin o [a,b]) λ g v=>lT g v A B:=propext jg
def Rw(M:ak)(c:Ctx)(p:Kp×ai)(Q:aE)(D:List aK):Gt B4 M c p Q E D H=pk B4 (ey (W M c p) Q) .normal E D H:=propext jg
end
end
end Go.Am
namespace Go.Am
end Go.Am
namespace Go.Am
section
variable{M:ak}{ctx:Ctx}{cL:Bool}{Q Q':aE}{E:Env}{D:List aK}
theorem Nm{α:Type}{m:Bool}{o:Option α}{K K':Bool -> α->Prop}(h:B3 m o K)(hk:∀a,K m a->K' m a):B3 m o K':=by
 cases o with
 |none=>exact h
 |some a=>exact hk a h
theorem Xd{α β:Type}{m:Bool}{o:Option (α×β)}{K K':Bool -> α -> β->Prop}(h:iG m o K)(hk:∀a b,K m a b->K' m a b):iG m o K':=by
 cases o with
 |none=>exact h
 |some a=>exact hk a.1 a.2 h
theorem UU{α:Type}{m:Bool}{o:Option α}{K K':Bool -> α->Prop}(h:LK m o K)(hk:∀a,K m a->K' m a):LK m o K':=by
 cases o with
 |none=>exact h
 |some a=>exact hk a h
theorem XZ{m:Bool}{v:AV}{A B c d:Bool->Prop}(h:lT m v A B)(ha:A m->c m)(hb:B m->d m):lT m v c d:=by
 obtain⟨q,rfl,h⟩:=h.elim;cases q with
 |true=>exact ha h
 |false=>exact hb h
theorem Tc{L R:Env}{t:Nat}{g:Bool}{K K':Bool->Env->AV->Prop}(h:TV E L R t g K)(hk:∀R v,K g R v->K' g R v):TV E L R t g K':=by
 unfold TV at h⊢;cases hl:lk L t with
 |some v=>simp_all
 |none =>
  rw[hl]at h;cases c:lk R t with
  |some v=>simp_all
  |none=>rw[c]at h;grind [UU]
def S5{x:bE}{g:Bool}{K K':Bool->AV->Prop}(h:OV E x g K)(hk:∀v,K g v->K' g v):OV E x g K':=by
 cases x with
 |tmp t=>grind [OV,UU]
 |const v=>exact hk _ h
 |dV b=>exact hk _ h
 |func f=>exact hk _ h
theorem Dt{L R:Env}{x:bE}{g:Bool}{K K':Bool->AV->Prop}(h:CV E L R x g K)(hk:∀v,K g v->K' g v):CV E L R x g K':=by
 cases x with
 |tmp t=>grind [CV,Tc]
 |const v=>exact hk _ h
 |dV b=>exact hk _ h
 |func f=>exact hk _ h
def Kx{L:Env}{g:Bool}:∀{l:List bE}{R:Env}{K K':Bool->Env->List AV->Prop},tV E L l g R K->(∀R vs,K g R vs->K' g R vs)->tV E L l g R K'
 |[],R,K,K',h,hk=>hk _ _ h
 | .tmp t::xs,R,K,K',h,hk=>Tc (K:=λ g R v=>tV E L xs g R λ g R vs=>K g R (v::vs)) (K':=λ g R v=>tV E L xs g R λ g R vs=>K' g R (v::vs)) h λ R v q=>Kx (K:=λ g R vs=>K g R (v::vs)) (K':=λ g R vs=>K' g R (v::vs)) q λ R vs=>hk _ _
 | .const v::xs,R,K,K',h,hk=>Kx (l:=xs) (K:=λ g R vs=>K g R (v::vs)) (K':=λ g R vs=>K' g R (v::vs)) h λ R vs=>hk _ _
 | .dV v::xs,R,K,K',h,hk=>Kx (l:=xs) (K:=λ g R vs=>K g R (.ptr v 0::vs)) (K':=λ g R vs=>K' g R (.ptr v 0::vs)) h λ R vs=>hk _ _
 | .func v::xs,R,K,K',h,hk=>Kx (l:=xs) (K:=λ g R vs=>K g R (.fn (.func v) [] []::vs)) (K':=λ g R vs=>K' g R (.fn (.func v) [] []::vs)) h λ R vs=>hk _ _
theorem ZE(f:∀e E D H,Q e E D H->Q' e E D H){d:Option (List Nat)}{ks:List Nat}{c:aA}{H:ar}(h:PX d ks Q E D c H):PX d ks Q' E D c H:=by
 cases d with
 |none=>exact h
 |some _=>exact f _ _ _ _ h
theorem T6(j:∀e E D H,Q e E D H->Q' e E D H){i:Option (List Nat)}{L:Env}{g:Bool}{f:kW}{vs:List AV}{H:ar}{K K':Bool->AV->ar->Prop}(h:Cs M cL i L Q E D g f vs H K)(hk:∀v H,K g v H->K' g v H):Cs M cL i L Q' E D g f vs H K':=by
 cases cL with
 |false=>obtain⟨v,H',c,d⟩:=h;exact⟨v,H',c,hk _ _ d⟩
 |true =>
  obtain⟨e,H',c,d⟩:=h;refine⟨e,H',c,?_⟩
  grind [ZE]
def ae1(i:∀e E D H,Q e E D H->Q' e E D H){s:aL}{K K':KR}{g:Bool}{L R:Env}{H:ar}(h:DI M cL s Q E D K g L R H)(hk:∀L R H,K g L R H->K' g L R H):DI M cL s Q' E D K' g L R H:=by
 refine Kx (show tV E L s.args g R _ from h) λ R vs h=>?_;obtain⟨gK,dst,guard,args,op,c⟩:=s;cases gK with
 |true =>
  have h:NL dst E L R H K g vs op:=h;show NL dst E L R H K' g vs op;cases op with
  |read f =>
   cases dst with
   |none=>exact h
   |some d=>exact⟨h.1,hk _ _ _ h.2⟩
  |_=>exact h
 |false =>
  have h:sB M cL dst c Q E D L R H K g vs op:=h;show sB M cL dst c Q' E D L R H K' g vs op;cases op with
  |pure f=>grind [sB,Nm]
  |read f=>grind [sB,Nm]
  |alloc f=>grind [sB,Xd]
  |fT f=>grind [sB,Xd]
  |gE f=>exact T6 i h λ v H=>hk _ _ _
  |gF =>
   simp only[sB,V3]at h⊢
   grind [T6]
  |invoke n =>
   simp only[sB,N3]at h⊢;split at h
   .grind [Nm,T6]
   omega
  |recover=>exact h
  |defer=>exact h
  |panic =>
   cases cL with
   |false=>exact h
   |true =>
    have h:fG vs H (PX c (kI L) Q E D):=h;show fG vs H (PX c (kI L) Q' E D);unfold fG at h⊢
    grind [ZE]
def Qi(c:∀e E D H,Q e E D H->Q' e E D H){K K':KR}{g:Bool}(hk:∀L R H,K g L R H->K' g L R H):∀{l:List aL}{L R:Env}{H:ar},nV M cL Q E D K l g L R H->nV M cL Q' E D K' l g L R H
 |[],L,R,H,h=>hk _ _ _ h
 |s::l,L,R,H,h=>ae1 c (by simp_all[nV]) λ L R H=>Qi c hk
theorem P2:∀(n:Nat){f f':List AV->ar->Prop},(∀vs H,f vs H->f' vs H) -> ∀(l:List AV)(H:ar),oq n (pn n f) l H->oq n (pn n f') l H
 |0,f,f',hf,l,H,h=>hf [] H h
 |n+1,f,f',hf,[],H,h=>h
 |n+1,f,f',hf,v::l,H,h=>P2 n (f:=λ l=>f (v::l)) (f':=λ l=>f' (v::l)) (by grind) l H h
def ac6(f:∀e E D H,Q e E D H->Q' e E D H){x:CQ}{K K':KR}{g:Bool}(hk:∀L R H,K g L R H->K' g L R H){L R:Env}{H:ar}(h:Pq M cL Q E D x K g L R H):Pq M cL Q' E D x K' g L R H:=by
 obtain⟨q,l⟩:=x;cases q with
 |none=>exact Qi f hk (show nV M cL Q E D K l g L R H from h)
 |some q =>
  cases ho:sA q.1 l with
  |false =>
   have h:cond (sA q.1 l) _ False:=h
   grind
  |true =>
   have h:cond (sA q.1 l) _ False:=h;rw[ho,xg]at h;show cond (sA q.1 l) _ False;rw[ho,xg];refine Tc h λ c v h=>?_;have h:B3 g (cJ q.2 (B1 v)) λ g w=>tz g w (λ g=>nV M cL Q E D (λ g d _ H=>oq (cF (bj l [])) (pn (cF (bj l [])) λ vs H=>K g (jQ (bj l []) L vs) c H) (oZ (cF (bj l [])) d) H) l g L c H)
    (λ g=>oq (cF (bj l [])) (pn (cF (bj l [])) λ vs H=>K g (jQ (bj l []) L vs) c H) (pU (cF (bj l []))) H):=h
   refine Nm (K':=λ g w=>tz g w (λ g=>nV M cL Q' E D (λ g d _ H=>oq (cF (bj l [])) (pn (cF (bj l [])) λ vs H=>K' g (jQ (bj l []) L vs) c H) (oZ (cF (bj l [])) d) H) l g L c H)
    (λ g=>oq (cF (bj l [])) (pn (cF (bj l [])) λ vs H=>K' g (jQ (bj l []) L vs) c H) (pU (cF (bj l []))) H)) h λ w h=>?_
   cases w with
   |true=>exact Qi f (by grind [P2]) (show nV M cL Q E D _ l g L c H from h)
   |false=>exact P2 _ (by grind) _ _ h
theorem Nu(c:∀e E D H,Q e E D H->Q' e E D H){l:List aL}{K K':KR}{g:Bool}(hk:∀L R H,K g L R H->K' g L R H){H:ar}(h:oW M cL Q E D l g H K):oW M cL Q' E D l g H K':=by
 unfold oW at h⊢;generalize Ga l=gs at h⊢;generalize([]:Env)=L at h⊢;have key:∀(gs:List CQ)(L R:Env)(H:ar),ur M cL Q E D K gs g L R H->ur M cL Q' E D K' gs g L R H:=by
  intro gs
  induction gs with
  |nil=>exact λ L R H h=>hk _ _ _ h
  |cons x gs ih=>exact λ L R H h=>ac6 c ih (by simp_all[ur])
 grind
def DR{K:Kp}:∀(n:Nat)(c:ai),eF c<=n -> ∀{g:Bool}{Q Q':aE}{E:Env}{D:List aK}{H:ar},(∀e E D H,Q e E D H->Q' e E D H)->W3 M ctx K c g Q E D H->W3 M ctx K c g Q' E D H:=by
 intro n
 induction n with
 |zero =>
  intro c s g Q Q' E D H d h;cases c with
  |region l=>exact Nu d (λ L R H h=>d _ _ _ _ h) h
  |rangeFunc f k =>
   have h:OV E f g λ g v=>iL M K.ah ctx k E D H Q v:=h;show OV E f g λ g v=>iL M K.ah ctx k E D H Q' v;have key:∀v,iL M K.ah ctx k E D H Q v->iL M K.ah ctx k E D H Q' v:=λ v h tm up he=>by
    have:=h tm up he;unfold Fm at this⊢;split
    .grind [MU]
    grind [CK,MU]
   exact S5 h key
  |skip=>exact d _ _ _ _ h
  |label _=>exact d _ _ _ _ h
  |exit _=>exact d _ _ _ _ h
  |goto _=>exact d _ _ _ _ h
  |ret=>exact d _ _ _ _ h
  |stuck=>exact h
  |seq _ _=>grind [eF]
  |cond _ _ _=>grind [eF]
  |block _ _=>grind [eF]
  |loop _ _=>grind [eF]
  |scope _=>grind [eF]
 |succ n ih =>
  intro c s g Q Q' E D H d h;have u:∀{b:ai},eF b<=n -> ∀e E D H,ey (W3 M ctx K b) Q e E D H->ey (W3 M ctx K b) Q' e E D H:=λ hb e E D H h=>by
   cases e with
   |normal=>exact ih _ hb d h
   |_=>exact d _ _ _ _ h
  cases c with
  |seq a b =>
   have m:eF a+eF b<=n:=by grind [eF]
   have gen:W3 M ctx K a g (ey (W3 M ctx K b) Q) E D H->W3 M ctx K a g (ey (W3 M ctx K b) Q') E D H:=λ h=>(by grind)
   cases a with
   |region l =>
    have plain:(oW M K.cL Q E D l g H λ g L _ H=>W3 M ctx K b g Q (dh K.ah E L) D H)->oW M K.cL Q' E D l g H λ g L _ H=>W3 M ctx K b g Q' (dh K.ah E L) D H:=λ h=>(by grind [Nu])
    have cv:∀{L R:Env}{c:bE}{A B i j:Bool->Prop},CV E L R c g (λ g v=>lT g v A B)->(A g->i g)->(B g->j g)->CV E L R c g (λ g v=>lT g v i j):=λ{L R c A B i j}h ha hb=>by
     grind [Dt,XZ]
    cases b with
    |cond c x y =>
     have o:eF x+eF y+1<=n:=by grind [eF]
     exact Nu d (λ L R H h=>cv h (by grind) (by grind)) h
    |seq b1 r =>
     cases b1 with
     |cond c x y =>
      have o:eF x+eF y+1+eF r+1<=n:=by grind [eF]
      exact Nu d (λ L R H h=>cv h (by grind) (by grind)) h
     |_=>exact plain h
    |_=>exact plain h
   |_=>exact gen h
  |cond c x y =>
   have m:eF x+eF y<=n:=by grind [eF]
   have h:OV E c g λ g v=>lT g v (λ g=>W3 M ctx K x g Q E D H) (λ g=>W3 M ctx K y g Q E D H):=h;exact S5 (K':=λ g v=>lT g v (λ g=>W3 M ctx K x g Q' E D H) (λ g=>W3 M ctx K y g Q' E D H)) h λ v h=>XZ h (by grind) (by grind)
  |block id b =>
   have hb:eF b<=n:=by grind [eF]
   exact ih b hb (λ e E D H h=>by cases e<;>exact d _ _ _ _ h) h
  |scope b =>
   have hb:eF b<=n:=by grind [eF]
   exact ih b hb (λ e E D H h=>by cases e<;>first|exact d _ _ _ _ h|exact⟨h.1,d _ _ _ _ h.2⟩) h
  |loop ah b =>
   have hb:eF b<=n:=by grind [eF]
   cases ah with
   |some _=>exact h
   |none =>
    obtain⟨I,p,q⟩:=h;exact⟨I,p,λ n E D H t=>ih b hb (λ e E D H h=>by cases e<;>first|exact h|exact d _ _ _ _ h) (q n E D H t)⟩
  |_=>exact ih _ (xu _) d h
end
def W.mono{M:ak}{ctx:Ctx}{p:Kp×ai}{g:Bool}{Q Q':aE}{E:Env}{D:List aK}{H:ar}(h:W M ctx p g Q E D H)(c:∀e E D H,Q e E D H->Q' e E D H):W M ctx p g Q' E D H:=by
 rw[jY]at h⊢;exact DR _ p.2 (qg _) c h
end Go.Am
namespace Go.Am
universe u
noncomputable section
variable(X:WX)(Q:aE)(E:Env)(D:List aK)(H:ar)(I:Gq)(n:Nat)
def _a:ey X Q .normal E D H=X B4 Q E D H:=propext jg
def af2:ey X Q .ret E D H=Q .ret E D H:=propext jg
def xen(l:Nat):ey X Q (.exit l) E D H=Q (.exit l) E D H:=propext jg
def xeo(l:Nat):ey X Q (.goto l) E D H=Q (.goto l) E D H:=propext jg
def _F(c:aA):ey X Q (.panic c) E D H=Q (.panic c) E D H:=propext jg
def q8s(i:Nat):eD i Q .normal E D H=Q .normal E D H:=propext jg
def yY(i:Nat):eD i Q .ret E D H=Q .ret E D H:=propext jg
def xec(i l:Nat):eD i Q (.goto l) E D H=Q (.goto l) E D H:=propext jg
def V_(i:Nat)(c:aA):eD i Q (.panic c) E D H=Q (.panic c) E D H:=propext jg
def xeb(i l:Nat):eD i Q (.exit l) E D H=if i=l then Q .normal E D H else Q (.exit l) E D H:=by
 show Q (cond (FW i l) .normal (.exit l)) E D H=_
 by_cases h:i=l
 .simp_all
 simp_all[HV]
section
variable(M:ak)(rs:List dM)(Q:bF->ar->Prop)(P:List AV->Prop)(R:AV->ar->Prop)
def zH:eR M rs Q .ret E [] H=iy E H rs λ l=>Q (.ret (iF l)) H:=propext jg
def ζ:eR M rs Q .normal E [] H=iy E H rs λ l=>Q (.ret (iF l)) H:=propext jg
def xcd(c:aA):eR M rs Q (.panic c) E [] H=Q (.panic c) H:=propext jg
def yK:iy E H [] P=P []:=propext jg
def xQ(t:Nat):iy E H (.tmp t::rs) P=LK B4 (lk E t) λ _ v=>iy E H rs λ vs=>P (v::vs):=propext jg
def xch(t:Nat):iy E H (.jL t::rs) P=LK B4 (lk E t) λ _ v=>B3 B4 (Op.ae [v] H) λ _ v=>iy E H rs λ vs=>P (v::vs):=propext jg
def xci(n t:Nat):iy E H (.dq n t::rs) P=LK B4 (lk E t) λ _ v=>B3 B4 (Op.av n [v] H) λ _ v=>iy E H rs λ vs=>P (v::vs):=propext jg
def EM(v:AV):tc R (.ret v) H=R v H:=propext jg
end
def Ff:((0:Nat):Int)=0:=rfl
theorem zb(l:List AV):AV.cells (.agg l)=l:=rfl
def xfa(k:KB)(n:Int):AV.cells (.int k n)=[.int k n]:=rfl
def xcr(b:Bool):AV.cells (.bool b)=[.bool b]:=rfl
def xfd(s:List UInt8):AV.cells (.str s)=[.str s]:=rfl
def xfc(b o:Nat):AV.cells (.ptr b o)=[.ptr b o]:=rfl
def I7(I:Nat->Env->ar->Prop)(D:List aK)(n:Nat)(Q:aE):aE:=λ e E D' H=>match e with
 | .normal=>D'=D /\ ∃m E',I m E' H/\uA E' E/\m<n
 |e=>Q e E D' H
theorem dA.intro{M:ak}{ctx:Ctx}{p:Kp×ai}{Q:aE}{E:Env}{D:List aK}{H:ar}(I:Nat->Env->ar->Prop)(j:∃n d,I n d H/\uA d E)(h:∀n E H,I n E H->W M ctx p B4 (I7 I D n Q) E D H):dA (W M ctx p) Q E D H:=by
 obtain⟨n,d,l,o⟩:=j;refine⟨λ n E D' H=>D'=D/\I n E H,⟨n,d,⟨rfl,l⟩,o.ss⟩,λ n E D' H⟨e,r⟩=>?_⟩;subst e;refine W.mono (h n E H r) λ e E g H f=>?_;cases e with
 |normal=>obtain⟨q,m,i,a,b,c⟩:=f;exact⟨m,i,⟨q,a⟩,b.ss,c⟩
 |_=>exact f
def MM(P:Env->List aK->ar->Prop)(Q:aE):aE:=λ e E D H=>match e with
 | .normal=>P E D H
 |e=>Q e E D H
def xce(P:Env->List aK->ar->Prop)(Q:aE)(E:Env)(D:List aK)(H:ar):MM P Q .normal E D H=P E D H:=propext jg
def DO(P:Env->List aK->ar->Prop)(Q:aE)(E:Env)(D:List aK)(H:ar):MM P Q .ret E D H=Q .ret E D H:=propext jg
def xX(P:Env->List aK->ar->Prop)(Q:aE)(E:Env)(D:List aK)(H:ar)(l:Nat):MM P Q (.exit l) E D H=Q (.exit l) E D H:=propext jg
def LN(X:WX)(Q:aE):Nat->Env->List aK->ar->Prop
 |0,_,_,_=>False
 |n+1,E,D,H=>X B4 (MM (LN X Q n) Q) E D H
def EA(X:WX)(Q:aE)(n:Nat)(E:Env)(D:List aK)(H:ar):LN X Q (n+1) E D H=X B4 (MM (LN X Q n) Q) E D H:=propext jg
def xcf(I:Nat->Env->ar->Prop)(D:List aK)(n:Nat)(Q:aE)(E:Env)(H:ar):I7 I D n Q .normal E D H = ∃m c,I m c H/\uA c E/\m<n:=propext ⟨λ h=>h.2,λ h=>⟨rfl,h⟩⟩
def C6(I:Nat->Env->ar->Prop)(D D':List aK)(n:Nat)(Q:aE)(E:Env)(H:ar):I7 I D n Q .ret E D' H=Q .ret E D' H:=propext jg
def ac7(I:Nat->Env->ar->Prop)(D D':List aK)(n:Nat)(Q:aE)(E:Env)(H:ar)(l:Nat):I7 I D n Q (.exit l) E D' H=Q (.exit l) E D' H:=propext jg
def af7(I:Nat->Env->ar->Prop)(D D':List aK)(n:Nat)(Q:aE)(E:Env)(H:ar)(l:Nat):I7 I D n Q (.goto l) E D' H=Q (.goto l) E D' H:=propext jg
def xej(I:Nat->Env->ar->Prop)(D D':List aK)(n:Nat)(Q:aE)(E:Env)(H:ar)(c:aA):I7 I D n Q (.panic c) E D' H=Q (.panic c) E D' H:=propext jg
def sw{α:Sort u}(b:Bool)(x y:α):α:=cond b x y
@[congr]def aa8{α:Sort u}{b c:Bool}{x y:α}(h:b=c):sw b x y=sw c x y:=by rw[h]
def J0{α:Sort u}(x y:α):sw B4 x y=x:=rfl
def Ng{α:Sort u}(x y:α):sw B2 x y=y:=rfl
def Fk{α:Sort u}(p:Prop)[Decidable p](x y:α):(if p then x else y)=sw (decide p) x y:=by grind [sw]
def Ki(k t:Nat)(v:AV)(E:Env):lk ((k,v)::E) t=sw (decide (k=t)) (B1 v) (lk E t):=(tD ..).trans (Fk ..)
def Dl(Q:aE)(E:Env)(D:List aK)(H:ar)(i l:Nat):eD i Q (.exit l) E D H=sw (decide (i=l)) (Q .normal E D H) (Q (.exit l) E D H):=(xeb ..).trans (Fk ..)
def TZ(α:Type)(h:Decidable True)(x y:α):@ite α True h x y=x:=qv trivial
def UD(α:Type)(h:Decidable False)(x y:α):@ite α False h x y=y:=qn id
def Lq(h:Decidable True)(x y:Prop):@ite Prop True h x y=x:=qv trivial
def KP(h:Decidable False)(x y:Prop):@ite Prop False h x y=y:=qn id
def L9:=Dd @Dg<|Dd @Db<|Dd @xV<|Dd yH<|Dd xeg<|Dd xM<|Dd u'<|Dd ag3<|Dd LP<|Dd @Fq<|Dd xZ <|
 Dd DF<|Dd ae9<|Dd ad9<|Dd Ki<|Dd Al<|Dd ad4<|Dd DW <|
 Dd _a<|Dd af2<|Dd xen<|Dd xeo<|Dd _F<|Dd q8s<|Dd yY<|Dd xec<|Dd V_<|Dd Dl <|
 Dd xce<|Dd DO<|Dd xX<|Dd EA<|Dd xcf<|Dd C6<|Dd ac7<|Dd af7<|Dd xej<|Dd zH<|Dd ζ<|Dd xcd<|Dd yK<|Dd xQ<|Dd xch<|Dd xci <|
 Dd EM<|Dd T2<|Dd PK<|Dd PU<|Dd Qf<|Dd Qm<|Dd Tg<|Dd Qo<|Dd Qt<|Dd Q4<|Dd TX<|Dd Rw<|Dd Ra<|Dd TS Ut
def Ms:=Dd TZ<|Dd UD<|Dd Lq<|Dd KP<|Dd @J0.{1}<|Dd @Ng.{1}<|Dd @J0.{0}<|Dd @Ng.{0}<|Dd GF<|Dd Gg<|Dd @Kq<|Dd @MB<|Dd @Lb<|Dd @MI<|Dd @KS<|Dd @J5<|Dd @J1<|Dd @JY<|Dd @Mf<|Dd @GY<|Dd Kr <|
 Dd GM<|Dd HS<|Dd Cn<|Dd af8<|Dd xgt<|Dd h_<|Dd zQ<|Dd Gk<|Dd Dk<|Dd Dp<|Dd LV <|
 Dd zb<|Dd xfa<|Dd xcr<|Dd xfd<|Dd xfc<|Dd @decide_true<|Dd @Il<|Dd Bool.not_true<|Dd Bool.not_false<|Dd not_true_eq_false<|Dd not_false_eq_true<|Dd @ne_eq.{1}<|Dd Cu<|Dd rp<|Dd false_and<|Dd and_false <|
 Dd @xg.{1}<|Dd @ze.{1}<|Dd @qm.{0,0}<|Dd zJ<|Dd yu<|Dd @zx.{0}<|Dd @zw.{0}<|Dd @jh.{0} @Gh.{0}
def Lw:type_of% Ff/\type_of% L9/\type_of% Ms:=⟨Ff,L9,Ms⟩
section
variable{α:Type}{enc:α->List AV}{e size:Nat}{H0 H H':ar}{v:AV}{xs:List α}
def qR.z'{α β:Type}{m g:Bool}{o:Option (α×β)}{K:Bool -> α -> β->Prop}(h:qR m o λ _ a b=>K g a b):iG g o K:=by
 cases o with
 |none=>exact Ja h
 |some a=>exact h
def Xe{H:ar}{e size bytes:Nat}{v:AV}{n:Nat}{cells:List AV}(h:Own H e size v n cells){x:AV}{k:Nat}{new:List AV}(i:Sl H size x k new)(d:aP new=B4)(hs:0<size)
 (g:(n+k)*bytes<=140737488355328) (f:n+k<=140737488355328) {K:Bool->AV->ar->Prop} {m:Bool}
 (hk:∀c H',Own H' e size c (n+k) (cells++new)->Fr (bm v) H H'->(∀b,bm c b->bm v b\/H.au<=b)->K m c H'):iG m (Op.append e size bytes [v,x] H) K :=
 qR.z' (m:=m) (by grind [UQ])
def mI{H:ar}{e size bytes:Nat}{v:AV}{n:Nat}{cells:List AV}(h:Own H e size v n cells){zero:List AV}{x:AV}(q:zero.length=size)(p:x.cells.length=size)(c:aP x.cells=B4)(hs:0<size)
 (l:(n+1)*bytes<=140737488355328) (d:n+1<=140737488355328) {K:bB->(Nat->AV)->Bool->AV->ar->Prop} {m:Bool}
 (hk:∀f H',Own H' e size f (n+1) (cells++x.cells)->Fr (bm v) H H'->(∀b,bm f b->bm v b\/H.au<=b)->K (.row x.cells e (0,0) B4) (Op.sliceTo 1 1) m f H') :
 iG m (Op.buildSlice e 1 zero [(0,size)] [x]) λ g o mk=>iG g (Op.append e size bytes [v,mk H.au] (H.alloc o)) (K o mk):=by
 have:=Dw (m:=m) h q p c hs l d (K:=λ o mk _ v H=>K o mk m v H) hk;obtain⟨o,mk,i,j⟩:∃o mk,Op.buildSlice e 1 zero [(0,size)] [x]=B1 (o,mk)/\qR B4 (Op.append e size bytes [v,mk H.au] (H.alloc o)) (λ _ v H=>K o mk m v H):=by
  unfold qR at this;split at this
  .rename_i a ha;exact⟨a.1,a.2,ha,this⟩
  grind
 refine iG.intro i ?_;unfold qR at j
 grind [iG.intro]
end
end
def qk(b o:Nat):Op.nilCheck [.ptr b o]=B1 (.ptr b o):=rfl
def xc(i:Nat)(l:List AV):Op.extract i [.tuple l]=l[i]?:=F_ i l
end Go.Am
namespace Go.Am
def F0:List bE->Option Nat
 |[.tmp t]=>B1 t
 |_=>B5
def Iy(s:aL):Option Nat:=match s.op,s.gK,s.guard,s.dst with
 | .defer,B2,B5,B5=>F0 s.args
 |_,_,_,_=>B5
def D4:List aL->Option (List aL×Nat×List aL)
 |[]=>B5
 |s::r=>match Iy s with
  |some t=>B1 ([],t,r)
  |none=>(D4 r).map λ q=>(s::q.1,q.2.1,q.2.2)
def pS:ai->Option (ai×Nat×ai)
 | .region l=>(D4 l).map λ q=>(.region q.1,q.2.1,.region q.2.2)
 | .seq a b=>match pS a with
  |some q=>B1 (q.1,q.2.1,.seq q.2.2 b)
  |none=>(pS b).map λ q=>(.seq a q.1,q.2.1,q.2.2)
 |_=>B5
noncomputable def vB(c:ai):ai:=L3 (motive:=λ _=>ai) .stuck (λ q=>q.1) (pS c)
noncomputable def tq(c:ai):ai:=L3 (motive:=λ _=>ai) .stuck (λ q=>q.2.2) (pS c)
section
variable{M:ak}{ctx:Ctx}
def DX(W:St->ct->Prop)(t:Nat)(st:St)(Q:ct):Prop:=∃g first cap,st.tm.get t=B1 (.fn (.func g) first cap)/\W ⟨st.tm,.fn (.func g) (first++cap)::st.aV,st.up,st.H⟩ Q
def ae7{s:aL}{st:St}{Q Q':ct}{K:St->Prop}(h:∀c st,Q (.panic c) st=Q' (.panic c) st):pw M ctx s st Q K=pw M ctx s st Q' K:=by
 have e:∀d tm aV up,wL d tm aV up Q=wL d tm aV up Q':=λ d tm aV up=>by
  funext c H;cases d with
  |none=>rfl
  |some ds=>exact h _ _
 simp_all[nZ,pw]
def xo(hr:ctx.round=B5):∀{l l1 l2:List aL}{t:Nat},D4 l=B1 (l1,t,l2) -> ∀{st:St}{Q:ct},mN M ctx l1 st (Ax (DX (mN M ctx l2) t) Q)->mN M ctx l st Q
 |s::r,l1,l2,t,h,st,Q,w=>by
  unfold D4 at h;cases c:Iy s with
  |some t' =>
   rw[c]at h;injection h with h;injection h with o h;injection h with p x
   subst o;subst p;subst x;have⟨gK,dst,guard,args,op,z⟩:=s;unfold Iy at c;split at c
   .rename_i f i j u;subst f;subst i;subst j;subst u;unfold F0 at c;split at c
    .rename_i e;simp only at e;subst e;cases c;have⟨g,first,cap,o,p⟩:=w;exact bJ.intro (m:=aF) o ⟨hr,p⟩
    grind
   grind
  |none =>
   rw[c]at h;have⟨q,y,e⟩:=xh.1 h;injection e with f e;injection e with i j
   subst f;subst i;subst j;have w:pw M ctx s st (Ax (DX (mN M ctx q.2.2) q.2.1) Q) λ d=>mN M ctx q.1 d (Ax (DX (mN M ctx q.2.2) q.2.1) Q):=w;rw[ae7 (Q:=Ax (DX (mN M ctx q.2.2) q.2.1) Q) (Q':=Q) (λ _ _=>rfl)]at w;exact Vk w (by grind) λ d h=>xo hr y h
def Ua(hr:ctx.round=B5):∀{c x y:ai}{t:Nat},pS c=B1 (x,t,y) -> ∀{st:St}{Q:ct},WP M ctx x st (Ax (DX (WP M ctx y) t) Q)->WP M ctx c st Q
 | .region l,x,y,t,h,st,Q,w=>by
  unfold pS at h;have⟨q,i,e⟩:=xh.1 h;injection e with d e;injection e with f g
  subst d;subst f;subst g;exact xo hr i w
 | .seq a b,x,y,t,h,st,Q,w=>by
  unfold pS at h;cases ha:pS a with
  |some q =>
   rw[ha]at h;injection h with h;injection h with m h;injection h with o p
   subst m;subst o;subst p;refine Ua hr (c:=a) ha (oE w λ e j h=>?_);cases e with
   |normal=>exact h
   |_=>exact h
  |none =>
   rw[ha]at h;have⟨q,i,e⟩:=xh.1 h;injection e with d e;injection e with f g
   subst d;subst f;subst g;show WP M ctx a st (Ax (WP M ctx b) Q);refine oE (show WP M ctx a st (Ax (WP M ctx q.1) (Ax (DX (WP M ctx q.2.2) q.2.1) Q))from w) λ e j h=>?_;cases e with
   |normal=>exact Ua hr (c:=b) i h
   |_=>exact h
end
def Cr(M:ak)(ctx:Ctx)(p:Kp×ai)(t:Nat)(Q:aE):aE:=λ e E D H=>match e with
 | .normal=>LK B4 (lk E t) λ _ v=>∃g first cap,v=.fn (.func g) first cap/\W M ctx p B4 Q E (.fn (.func g) (first++cap)::D) H
 |e=>Q e E D H
def q8u{M:ak}{ctx:Ctx}{p:Kp×ai}{t:Nat}{Q:aE}{E:Env}{D:List aK}{H:ar}:Cr M ctx p t Q .normal E D H=LK B4 (lk E t) λ _ v=>∃g first cap,v=.fn (.func g) first cap/\W M ctx p B4 Q E (.fn (.func g) (first++cap)::D) H:=rfl
def Yg{M:ak}{ctx:Ctx}{p:Kp×ai}{t:Nat}{Q:aE}{E:Env}{D:List aK}{H:ar}:Cr M ctx p t Q .ret E D H=Q .ret E D H:=rfl
def I2{M:ak}{rs:List dM}{ks:List Nat}{Q:bF->ar->Prop}{up:Option aA}{e:aS}{st:St}(h:QQ ks (eR M rs Q) up e st):QM M rs (λ e u H=>u=up/\Q e H) e st:=by
 have⟨f,g,i,d⟩:=h;have⟨tm,D,u,H'⟩:=st;have f:u=up:=f;subst f;have mono:∀{m:Option aA},my M rs g Q D m H'->vL M rs tm (λ e H=>u=u/\Q e H) D m H':=λ{m}h=>by
  grind [my.Pw]
 cases e with
 |normal=>exact mono d
 |ret=>exact mono d
 |panic c=>exact mono d
 |exit _=>exact d.elim
 |goto _=>exact d.elim
def EB{M:ak}{f:Nat}{fn:b9}(u:M.func f=B1 fn){p ky:Kp}(hk:p.ah=ky.ah){t:Nat}(s:pS fn.body=B1 (vB fn.body,t,tq fn.body)){vs:List AV}(r:iU 0 vs.length p.ah=B4){H:ar}{Q:bF->ar->Prop}
 (h:W M ⟨B5,f⟩ (p,part (vB fn.body) 0) B4 (Cr M ⟨B5,f⟩ (ky,part (tq fn.body) 0) t (eR M fn.results Q)) (i7 0 vs) [] H):CM M f vs H Q:=by
 rw[jY,O1]at h;refine YP u (Ua rfl s (oE (W3.wp (eF (vB fn.body)) _ (qg _) (up:=B5) h (Rg r)) λ e st h=>?_));cases e with
 |normal =>
  have⟨d,i,j,l⟩:=h;have⟨tm,D,up,H'⟩:=st;have d:up=none:=d;subst d;obtain⟨v,w,g,first,cap,rfl,q⟩:=LK.elim (m:=B4) (o:=lk i t) (K:=λ _ v=>∃g first cap,v=.fn (.func g) first cap/\W M ⟨B5,f⟩ (ky,part (tq fn.body) 0) B4 (eR M fn.results Q) i (.fn (.func g) (first++cap)::D) H') l;rw[jY,O1]at q;exact⟨g,first,cap,(j t _ w).1,oE (W3.wp (eF (tq fn.body)) _ (qg _) (up:=B5) q (hk▸j)) λ e st h=>I2 h⟩
 |ret=>have⟨d,i,j,l⟩:=h;exact I2 (e:=aS.ret) (rs:=fn.results) (ks:=p.ah) (Q:=Q) (up:=B5) ⟨d,i,j,l⟩
 |panic c=>have⟨d,i,j,l⟩:=h;exact I2 (e:=aS.panic c) (rs:=fn.results) (ks:=p.ah) (Q:=Q) (up:=B5) ⟨d,i,j,l⟩
 |exit k=>obtain⟨d,i,j,l⟩:=h;exact I2 (M:=M) (e:=aS.exit k) (rs:=fn.results) (ks:=p.ah) (Q:=Q) (up:=B5) ⟨d,i,j,l⟩
 |goto k=>obtain⟨d,i,j,l⟩:=h;exact I2 (M:=M) (e:=aS.goto k) (rs:=fn.results) (ks:=p.ah) (Q:=Q) (up:=B5) ⟨d,i,j,l⟩
def Ec{M:ak}{f:Nat}{fn:b9}(c:M.func f=B1 fn){ks:Kp}{vs:List AV}(hk:iU 0 vs.length ks.ah=B4){up:Option aA}{H:ar}{Q:bF->ar->Prop}
 (h:W M ⟨B5,f⟩ (ks,part fn.body 0) B4 (eR M fn.results Q) (i7 0 vs) [] H):∃e H',iM M f vs up H e up H'/\Q e H':=by
 rw[jY,O1]at h;obtain⟨e,d,H',g,rfl,i⟩:=hH c (oE (W3.wp (eF fn.body) fn.body (qg _) (up:=up) h (Rg hk)) λ e st h=>I2 h)
 grind
abbrev WE(M:ak)(c:Ctx)(p:Kp×ai)(R:aE->Env->List aK->ar->Prop):Prop:=∀Q E D H,W M c p B4 Q E D H=R Q E D H
end Go.Am
