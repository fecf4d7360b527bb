import Derived.Test.YtgjdmncoonceaaaGreatDoorAmFZb
import Derived.Test.YtgjdmncoonceaaaGreatDoorAmFZa
set_option linter.unusedVariables false
set_option linter.unusedSimpArgs false
set_option linter.defProp false
open And renaming intro→GF
open Bool renaming rec→Ob,false→B2,true→B4
open False renaming elim→NP
open Go renaming IntKind→P0,Program→JL
open List renaming rec→A5
open Nat renaming beq→I6,ble→Oa,blt→PM
open Option renaming rec→RD,none→B5,some→B1
namespace Go.Am
def aH:Bool:=B4
def bO{α:Type}(m:Bool)(o:Option α)(K:α->Prop):Prop:=match o with
 |some a=>K a
 |none=>False
def iL{α β:Type}(m:Bool)(o:Option (α×β))(K:α -> β->Prop):Prop:=match o with
 |some a=>K a.1 a.2
 |none=>False
def GK(m:Bool)(q:Bool)(A B:Prop):Prop:=match q with
 |true=>A
 |false=>B
@[congr]def aa6{α:Type}{m c:Bool}{o o':Option α}{K:α->Prop}(hm:m=c)(h:o=o'):bO m o K=bO c o' K:=by rw[h,hm]
@[congr]def aa1{α β:Type}{m c:Bool}{o o':Option (α×β)}{K:α -> β->Prop}(hm:m=c)(h:o=o'):iL m o K=iL c o' K:=by rw[h,hm]
@[congr]def aa8{m c q d:Bool}{A B:Prop}(hm:m=c)(h:q=d):GK m q A B=GK c d A B:=by rw[h,hm]
def bO.elim{α:Type}{m:Bool}{o:Option α}{K:α->Prop}(h:bO m o K):∃a,o=B1 a/\K a:=by
 cases o with
 |none=>exact NP h
 |some a=>exact⟨a,rfl,h⟩
def iL.elim{α β:Type}{m:Bool}{o:Option (α×β)}{K:α -> β->Prop}(h:iL m o K):∃a b,o=B1 (a,b)/\K a b:=by
 cases o with
 |none=>exact NP h
 |some a=>exact⟨a.1,a.2,rfl,h⟩
theorem bO.intro{α:Type}{m:Bool}{o:Option α}{K:α->Prop}{a:α}(h:o=B1 a)(hk:K a):bO m o K:=by subst h;exact hk
theorem iL.intro{α β:Type}{m:Bool}{o:Option (α×β)}{K:α -> β->Prop}{a:α}{b:β}(h:o=B1 (a,b))(hk:K a b):iL m o K:=by subst h;exact hk
def GK.dec{m:Bool}{p:Prop}[Decidable p]{A B:Prop}(c:p->A)(d:¬p->B):GK m (decide p) A B:=by
 by_cases h:p
 .rw [jz h];exact c h
 .rw [js h];exact d h
def GK.cases{m:Bool}{q:Bool}{A B:Prop}(c:q=B4->A)(d:q=B2->B):GK m q A B:=by
 cases q with
 |true=>exact c rfl
 |false=>exact d rfl
def asBool:AV->Option Bool
 | .bool q=>B1 q
 |_=>B5
noncomputable section
structure ak where
 prog:jG
 told:bZ
 mute:Nat->Bool
 ok:∀f vs up H,mute f=B2->told f vs up H=B5
def ak.call(M:ak)(n:Nat):bZ:=jY M.prog M.told n
def ak.func(M:ak)(f:Nat):Option bW:=cond (M.mute f) B5 (M.prog.func f)
def ak.kH(M:ak):Nat->String->Option Nat:=M.prog.kH
def ak.yR{M:ak}{f:Nat}{fn:bW}(h:M.func f=B1 fn):M.mute f=B2/\M.prog.func f=B1 fn:=by
 unfold ak.func at h;cases hm:M.mute f with
 |true=>rw[hm]at h;cases h
 |false=>rw[hm]at h;exact⟨rfl,h⟩
def ak.zW{M:ak}{f:Nat}(h:M.mute f=B2)(n:Nat)(vs:List AV)(up:Option aF)(H:ar):M.call (n+1) f vs up H=Il M.prog (M.call n) n f vs up H:=by
 show(match M.told f vs up H with|some r=>B1 r|none=>Il M.prog (jY M.prog M.told n) n f vs up H)=_;rw[M.ok f vs up H h];rfl
variable(AP:ak)
def yL(n k:Nat)(ctx:Ctx):RT:=⟨AP.prog,AP.call n,rounds AP.prog (AP.call n) n k,n,ctx⟩
def jI(f:Nat)(vs:List AV)(up:Option aF)(H:ar)(e:bG)(up':Option aF)(H':ar):Prop:=∃n0,∀n,n0<=n->AP.call n f vs up H=B1 (e,up',H')
def CALL(f:Nat)(vs:List AV)(H:ar)(e:bG)(H':ar):Prop:=jI AP f vs B5 H e B5 H'
def sk(l:Nat)(vs:List AV)(H:ar)(e:bG)(H':ar):Prop:=∃n0,∀n k,n0<=n->n0<=k->rounds AP.prog (AP.call n) n k vs l H=B1 (e,H')
def uD:mD->List AV->ar->bG->ar->Prop
 | .func g=>CALL AP g
 | .yield l=>sk AP l
def nH(m:Bool)(f:mD)(vs:List AV)(H:ar)(K:AV->ar->Prop)(E:aF->ar->Prop):Prop :=
 ∃e H',uD AP f vs H e H'/\match e with
  | .ret v=>K v H'
  | .panic c=>E c H'
@[congr]def aa2{AP:ak}{m d:Bool}{f:mD}{vs c:List AV}{H:ar}{K:AV->ar->Prop}{E:aF->ar->Prop}(hm:m=d)(h:vs=c):nH AP m f vs H K E=nH AP d f c H K E:=by rw[h,hm]
def M5(m:Bool)(vs:List AV)(K:mD->List AV->Prop):Prop:=match vs with
 | .fn (.func g) first cap::args=>K (.func g) (first++(args++cap))
 | .fn (.yield l) first []::args=>K (.yield l) (first++args)
 |_=>False
@[congr]def ab1{m d:Bool}{vs c:List AV}{K:mD->List AV->Prop}(hm:m=d)(h:vs=c):M5 m vs K=M5 d c K:=by rw[h,hm]
def NN(m:Bool)(name:String)(vs:List AV)(K:mD->List AV->Prop):Prop:=match vs with
 | .iface t v::args=>bO aH (AP.kH t name) λ g=>K (.func g) (v::args)
 |_=>False
@[congr]def ab5{AP:ak}{m d:Bool}{name:String}{vs c:List AV}{K:mD->List AV->Prop}(hm:m=d)(h:vs=c):NN AP m name vs K=NN AP d name c K:=by rw[h,hm]
def qE(tm:T AV):List bK->(List AV->Prop)->Prop
 |[],K=>K []
 | .tmp t::xs,K=>bO aH (tm.get t) λ v=>qE tm xs λ vs=>K (v::vs)
 | .const v::xs,K=>qE tm xs λ vs=>K (v::vs)
 | .eG g::xs,K=>qE tm xs λ vs=>K (.ptr g 0::vs)
 | .func f::xs,K=>qE tm xs λ vs=>K (.fn (.func f) [] []::vs)
def qE.elim{tm:T AV}:∀{l:List bK}{K:List AV->Prop},qE tm l K -> ∃vs,mE tm l=B1 vs/\K vs
 |[],K,h=>⟨[],rfl,h⟩
 | .tmp t::xs,K,h=>by
  obtain⟨v,f,h⟩:=bO.elim (m:=aH) h;obtain⟨vs,c,d⟩:=qE.elim h;exact⟨v::vs,by simp[mE,rO,f,c],d⟩
 | .const v::xs,K,h=>by
  obtain⟨vs,c,d⟩:=qE.elim (l:=xs) h;exact⟨v::vs,by simp[mE,rO,c],d⟩
 | .eG v::xs,K,h=>by
  obtain⟨vs,c,d⟩:=qE.elim (l:=xs) h;exact⟨_,by simp[mE,rO,c],d⟩
 | .func v::xs,K,h=>by
  obtain⟨vs,c,d⟩:=qE.elim (l:=xs) h;exact⟨_,by simp[mE,rO,c],d⟩
def FR(tm:T AV)(x:bK)(K:AV->Prop):Prop:=match x with
 | .tmp t=>bO aH (tm.get t) K
 | .const v=>K v
 | .eG g=>K (.ptr g 0)
 | .func f=>K (.fn (.func f) [] [])
def FR.elim{tm:T AV}{x:bK}{K:AV->Prop}(h:FR tm x K):∃v,rO tm x=B1 v/\K v:=by
 cases x with
 |tmp t=>exact bO.elim (m:=aH) h
 |const v=>exact⟨v,rfl,h⟩
 |eG v=>exact⟨_,rfl,h⟩
 |func v=>exact⟨_,rfl,h⟩
abbrev cJ:=aW->St->Prop
def AK(ps:Option (List Nat))(tm:T AV)(aY:List aK)(up:Option aF)(Q:cJ)(c:aF)(H:ar):Prop:=match ps with
 |some ds=>Q (.panic c) ⟨forget ds tm,aY,up,H⟩
 |none=>False
def yC(m:Bool)(ctx:Ctx)(up:Option aF)(K:AV->Option aF->Prop):Prop:=ctx.round=B5/\match up with
 |some ((v,B2)::older)=>K v (B1 ((v,B4)::older))
 |_=>K .nili up
@[congr]def aa3{m d:Bool}{ctx:Ctx}{up c:Option aF}{K:AV->Option aF->Prop}(hm:m=d)(h:up=c):yC m ctx up K=yC d ctx c K:=by rw[h,hm]
def HU(m:Bool)(ctx:Ctx)(vs:List AV)(aY:List aK)(K:List aK->Prop):Prop:=ctx.round=B5/\match vs with
 | .fn (.func f) first cap::args=>K (.fn (.func f) (first++(args++cap))::aY)
 |_=>False
@[congr]def aa4{m d:Bool}{ctx:Ctx}{vs c:List AV}{aY:List aK}{K:List aK->Prop}(hm:m=d)(h:vs=c):HU m ctx vs aY K=HU d ctx c aY K:=by rw[h,hm]
def gD(vs:List AV)(H:ar)(E:aF->ar->Prop):Prop:=match vs with
 |[.iface t v]=>E [(.iface t v,B2)] H
 |_=>False
@[congr]def aa0{vs c:List AV}{H:ar}{E:aF->ar->Prop}(h:vs=c):gD vs H E=gD c H E:=by rw[h]
def pT(ctx:Ctx)(dst:Option Nat)(ps:Option (List Nat))(st:St)(Q:cJ)(K:St->Prop)(vs:List AV):fG->Prop
 | .pure f=>bO aH (f vs) λ v=>K ⟨eD dst v st.tm,st.aY,st.up,st.H⟩
 | .read f=>bO aH (f vs st.H) λ v=>K ⟨eD dst v st.tm,st.aY,st.up,st.H⟩
 | .alloc f=>iL aH (f vs) λ o mk=>K ⟨eD dst (mk st.H.au) st.tm,st.aY,st.up,st.H.alloc o⟩
 | .gT f=>iL aH (f vs st.H) λ v H=>K ⟨eD dst v st.tm,st.aY,st.up,H⟩
 | .hJ g=>nH AP aH (.func g) vs st.H (λ v H=>K ⟨eD dst v st.tm,st.aY,st.up,H⟩) (AK ps st.tm st.aY st.up Q)
 | .ic=>M5 aH vs λ f vs=>nH AP aH f vs st.H (λ v H=>K ⟨eD dst v st.tm,st.aY,st.up,H⟩) (AK ps st.tm st.aY st.up Q)
 | .invoke name=>NN AP aH name vs λ f vs=>nH AP aH f vs st.H (λ v H=>K ⟨eD dst v st.tm,st.aY,st.up,H⟩) (AK ps st.tm st.aY st.up Q)
 | .recover=>match vs with
  |[]=>yC aH ctx st.up λ v up=>K ⟨eD dst v st.tm,st.aY,up,st.H⟩
  |_=>False
 | .defer=>HU aH ctx vs st.aY λ aY=>K ⟨eD dst .undef st.tm,aY,st.up,st.H⟩
 | .panic=>gD vs st.H (AK ps st.tm st.aY st.up Q)
def Ra(dst:Option Nat)(st:St)(vs:List AV):fG->Prop
 | .read f=>match dst with
  |some d=>bO aH (f vs st.H) λ v=>bO aH (st.tm.get d) λ v'=>v=v'
  |none=>False
 |_=>False
def qO(ctx:Ctx)(s:aN)(st:St)(Q:cJ)(K:St->Prop):Prop :=
 match s.ik with
 |false=>match s.guard with
  |none=>qE st.tm s.args λ vs=>pT AP ctx s.dst s.cI st Q K vs s.op
  |some g=>bO aH (cP g.2 (st.tm.get g.1)) λ w=>GK aH w (qE st.tm s.args λ vs=>pT AP ctx s.dst s.cI st Q K vs s.op) (K ⟨eD s.dst .undef st.tm,st.aY,st.up,st.H⟩)
 |true=>match s.guard with
  |none=>qE st.tm s.args λ vs=>Ra s.dst st vs s.op/\K st
  |some g=>bO aH (cP g.2 (st.tm.get g.1)) λ w=>GK aH w (qE st.tm s.args λ vs=>Ra s.dst st vs s.op/\K st) (s.dst.isSome=B4/\K st)
def oq(ctx:Ctx):List aN->St->cJ->Prop
 |[],st,Q=>Q .normal st
 |s::rest,st,Q=>qO AP ctx s st Q λ st'=>oq ctx rest st' Q
def EN(W:St->cJ->Prop)(Q:cJ):cJ:=λ e st=>match e with
 | .normal=>W st Q
 |e=>Q e st
def BLK(id:Nat)(Q:cJ):cJ:=λ e st=>match e with
 | .exit id'=>Q (cond (I6 id id') .normal (.exit id')) st
 |e=>Q e st
def SCP(b:ai)(Q:cJ):cJ:=λ e st=>match e with
 | .goto l=>FQ b l=B2/\Q (.goto l) st
 |e=>Q e st
def kQ(ah:Option (List Nat))(st:St):St:=match ah with
 |none=>st
 |some ks=>{st with tm:=VO st.tm ks .nil}
def Lx(W:St->cJ->Prop)(ah:Option (List Nat))(st:St)(Q:cJ):Prop :=
 ∃I:Nat->St->Prop,(∃n,I n st) /\ ∀n st,I n st->W (kQ ah st) λ e st'=>match e with
  | .normal=>∃m,m<n/\I m st'
  |e=>Q e st'
def ZA(st:St)(aY:List aK)(l:Nat)(Q:cJ)(e:bG)(H:ar):Prop:=match e with
 | .panic c=>Q (.panic c) {st with aY:=aY,H:=H}
 | .ret _=>∃s p f k tm d,H.get l=B1 (.loop s p f k tm d)/\s≠ .busy/\Q (qQ p) {st with aY:=aY,H:=H.set l (.loop .exhausted p f k tm d)}
def mP(ctx:Ctx)(st:St)(k:Nat)(H0:ar)(aY:List aK)(d:Nat)(Q:cJ):AV->Prop
 | .fn (.func g) first cap=>∃e H',CALL AP g (first++(.fn (.yield H0.au) [] []::cap)) (H0.alloc (.loop .ready B5 ctx.fn k st.tm d)) e H'/\ZA st aY H0.au Q e H'
 |_=>False
def Jz(ctx:Ctx)(k:Nat)(st:St)(Q:cJ)(v:AV):Prop:=match ctx.round with
 |none=>mP AP ctx st k (st.H.alloc (.deferred (B1 []))) (.jD st.H.au::st.aY) st.H.au Q v
 |some l=>bO aH (C2 st.H l) λ d=>mP AP ctx st k st.H st.aY d Q v
def WP(ctx:Ctx):ai->St->cJ->Prop
 | .skip,st,Q=>Q .normal st
 | .label _,st,Q=>Q .normal st
 | .region steps,st,Q=>oq AP ctx steps st Q
 | .seq a b,st,Q=>WP ctx a st (EN (WP ctx b) Q)
 | .cond c a b,st,Q=>FR st.tm c λ v=>bO aH (asBool v) λ q=>GK aH q (WP ctx a st Q) (WP ctx b st Q)
 | .block id b,st,Q=>WP ctx b st (BLK id Q)
 | .loop ah b,st,Q=>Lx (WP ctx b) ah st Q
 | .exit id,st,Q=>Q (.exit id) st
 | .goto l,st,Q=>Q (.goto l) st
 | .ret,st,Q=>Q .ret st
 | .stuck,_,_=>False
 | .scope b,st,Q=>WP ctx b st (SCP b Q)
 | .rangeFunc f k,st,Q=>FR st.tm f λ v=>Jz AP ctx k st Q v
section
variable(ctx:Ctx)(st:St)(Q:cJ)
def X0(s:aN)(l:List aN):oq AP ctx (s::l) st Q=qO AP ctx s st Q λ c=>oq AP ctx l c Q:=propext jx
end
def EX(ctx:Ctx)(c:ai)(st:St)(r:aW×St):Prop:=∃n0,∀n k,n0<=n->n0<=k->(bH c).run (yL AP n k ctx) st=B1 r
def EXS(ctx:Ctx)(l:List aN)(st:St)(r:aW×St):Prop:=∃n0,∀n k,n0<=n->n0<=k->(gZ l).run (yL AP n k ctx) st=B1 r
def uD.run{AP:ak}{f:mD}{vs:List AV}{H:ar}{e:bG}{H':ar}(h:uD AP f vs H e H') :
 ∃n0,∀n k,n0<=n->n0<=k->cV (AP.call n) (rounds AP.prog (AP.call n) n k) f vs H=B1 (e,H'):=by
 cases f with
 |func g=>obtain⟨n0,h⟩:=h;exact⟨n0,λ n k hn _=>by simp[cV,h n hn]⟩
 |yield l=>obtain⟨n0,h⟩:=h;exact⟨n0,λ n k hn hk=>by simp[cV,h n k hn hk]⟩
def q65:(∀v,cw v v=B4)/\(∀l,fg l l=B4):=by
 have e1:∀n,I6 n n=true:=λ n=>by simp
 have e2:∀k,tf k k=true:=λ k=>by cases k<;>rfl
 have c:∀i,uc i i=true:=λ i=>by rw[BM];simp
 have d:∀s,AJ s s=true:=λ s=>by rw[Ky];simp
 refine⟨λ v=>?_,λ l=>?_⟩
 .refine AV.rec (motive_1:=λ v=>cw v v=B4) (motive_2:=λ l=>fg l l=B4) ?_ ?_ ?_ ?_ ?_ ?_ ?_ ?_ ?_ ?_ ?_ ?_ ?_ ?_ ?_ ?_ ?_ ?_ ?_ v
  all_goals (intros;first|rfl|(simp only[cw,fg,jk,beq_self_eq_true, *];done)|(rename_i f _ _ _ _;cases f<;>simp only[cw,jk, *]))
 .refine AV.rec_1 (motive_1:=λ v=>cw v v=B4) (motive_2:=λ l=>fg l l=B4) ?_ ?_ ?_ ?_ ?_ ?_ ?_ ?_ ?_ ?_ ?_ ?_ ?_ ?_ ?_ ?_ ?_ ?_ ?_ l
  all_goals (intros;first|rfl|(simp only[cw,fg,jk,beq_self_eq_true, *];done)|(rename_i f _ _ _ _;cases f<;>simp only[cw,jk, *]))
def xiw(v:AV):cw v v=true:=q65.1 v
def Ra.run{d:Option Nat}{st:St}{vs:List AV}{op:fG}(h:Ra d st vs op):∃t,d=B1 t/\qG (T.oI (T.path t)).run st vs op=true:=by
 cases op with
 |read f =>
  cases d with
  |none=>exact NP h
  |some t =>
   refine⟨t,rfl,?_⟩;obtain⟨v,g,h⟩:=bO.elim (m:=aH) h;obtain⟨j,i,h⟩:=bO.elim (m:=aH) h;subst h;have c:(T.oI (T.path t)).run st.tm=B1 v:=by rw[T.jK];exact i
   simp[qG,g,c,xiw]
 |_=>exact NP h
def pT.run{AP:ak}{ctx:Ctx}{dst:Option Nat}{t:Option (List Nat)}{st:St}{Q:cJ}{K:St->Prop}{vs:List AV}{op:fG}(h:pT AP ctx dst t st Q K vs op)
 {kk:Nat->Nat->St->gP} (p:∀st,K st -> ∃e d,Q e d /\ ∃n0,∀n k,n0<=n->n0<=k->kk n k st=B1 (e,d)) :
 ∃e d,Q e d /\ ∃n0,∀n k,n0<=n->n0<=k->(qM (lI dst).run t op).run (yL AP n k ctx) st (kk n k) vs=B1 (e,d):=by
 have hp:∀v tm,(lI dst).run v tm=eD dst v tm:=Yj dst;have call:∀{f vs},nH AP aH f vs st.H (λ v H=>K ⟨eD dst v st.tm,st.aY,st.up,H⟩) (AK t st.tm st.aY st.up Q) ->
  ∃e d,Q e d /\ ∃n0,∀n k,n0<=n->n0<=k->((cV (AP.call n) (rounds AP.prog (AP.call n) n k) f vs st.H).bind λ r=>fM (lI dst).run t st (kk n k) r)=B1 (e,d):=by
  rintro f vs ⟨e,H',l,h⟩;obtain⟨n0,l⟩:=l.run;cases e with
  |ret v =>
   obtain⟨e,d,j,n1,i⟩:=p _ h;refine⟨e,d,j,max n0 n1,λ n k hn hk=>?_⟩;rw[l n k (by omega) (by omega)]
   simpa[fM,hp]using i n k (by omega) (by omega)
  |panic c =>
   cases t with
   |none=>exact NP h
   |some ds =>
    refine⟨_,_,h,n0,λ n k hn hk=>?_⟩;rw[l n k (by omega) (by omega)];simp[fM]
 cases op with
 |pure f =>
  obtain⟨v,l,h⟩:=bO.elim (m:=aH) h;obtain⟨e,d,j,n1,i⟩:=p _ h;exact⟨e,d,j,n1,λ n k hn hk=>by simp[qM,DE,l,hp,i n k hn hk]⟩
 |read f =>
  obtain⟨v,l,h⟩:=bO.elim (m:=aH) h;obtain⟨e,d,j,n1,i⟩:=p _ h;exact⟨e,d,j,n1,λ n k hn hk=>by simp[qM,B9,l,hp,i n k hn hk]⟩
 |alloc f =>
  simp only[pT]at h;obtain⟨o,mk,l,h⟩:=iL.elim (m:=aH) h;obtain⟨e,d,j,n1,i⟩:=p _ h;exact⟨e,d,j,n1,λ n k hn hk=>by simp[qM,wO,l,hp,i n k hn hk]⟩
 |gT f =>
  simp only[pT]at h;obtain⟨o,mk,l,h⟩:=iL.elim (m:=aH) h;obtain⟨e,d,j,n1,i⟩:=p _ h;exact⟨e,d,j,n1,λ n k hn hk=>by simp[qM,KE,l,hp,i n k hn hk]⟩
 |hJ f=>exact call h
 |ic =>
  simp only[pT,M5]at h;split at h
  .exact call h
  .exact call h
  .exact NP h
 |invoke name =>
  simp only[pT,NN]at h;split at h
  .obtain ⟨g,hg,h⟩:=bO.elim (m:=aH) h;obtain⟨e,d,j,n1,i⟩:=call h;exact⟨e,d,j,n1,λ n k hn hk=>by simpa[qM,sX,yL,(show AP.prog.kH _ name=B1 g from hg)]using i n k hn hk⟩
  .exact NP h
 |recover =>
  simp only[pT]at h;split at h
  .obtain ⟨hr,h⟩:=h;split at h
   .rename_i v s q;obtain⟨e,d,j,n1,i⟩:=p _ h;exact⟨e,d,j,n1,λ n k hn hk=>by simpa[qM,Sf,yL,hr,Qi,q,hp]using i n k hn hk⟩
   .rename_i q;obtain⟨e,d,j,n1,i⟩:=p _ h;refine⟨e,d,j,n1,λ n k hn hk=>?_⟩;have:Qi (lI dst).run st=⟨eD dst .nili st.tm,st.aY,st.up,st.H⟩:=by
     unfold Qi;split
     .rename_i v s hu;exact(q _ _ hu).elim
     .rw [hp]
    simpa[qM,Sf,yL,hr,this]using i n k hn hk
  .exact NP h
 |defer =>
  obtain⟨hr,h⟩:=h;split at h
  .obtain ⟨e,d,j,n1,i⟩:=p _ h;exact⟨e,d,j,n1,λ n k hn hk=>by simpa[qM,wQ,yL,hr,hp]using i n k hn hk⟩
  .exact NP h
 |panic =>
  simp only[pT,gD]at h;split at h
  .cases t with
   |none=>exact NP h
   |some ds=>exact⟨_,_,h,0,λ n k hn hk=>by simp[qM,wK,fM]⟩
  .exact NP h
def qO.run{AP:ak}{ctx:Ctx}{s:aN}{st:St}{Q:cJ}{K:St->Prop}(h:qO AP ctx s st Q K)
 {kk:Nat->Nat->St->gP} (o:∀st,K st -> ∃e c,Q e c /\ ∃n0,∀n k,n0<=n->n0<=k->kk n k st=B1 (e,c)) :
 ∃e c,Q e c /\ ∃n0,∀n k,n0<=n->n0<=k->(gU s).run (yL AP n k ctx) (kk n k) st=B1 (e,c):=by
 obtain⟨ik,dst,guard,args,op,u⟩:=s;have hp:∀v tm,(lI dst).run v tm=eD dst v tm:=Yj dst;have p:∀g,(T.oI (T.path g)).run st.tm=st.tm.get g:=λ g=>by rw[T.jK];rfl
 cases ik with
 |false =>
  cases guard with
  |none =>
   obtain⟨vs,l,h⟩:=qE.elim h;obtain⟨e,c,j,n0,f⟩:=h.run o;exact⟨e,c,j,n0,λ n k hn hk=>by simpa[gU,Ix,l]using f n k hn hk⟩
  |some g =>
   obtain⟨w,hw,h⟩:=bO.elim (m:=aH) h;cases w with
   |true =>
    obtain⟨vs,l,h⟩:=qE.elim h;obtain⟨e,c,j,n0,f⟩:=h.run o;exact⟨e,c,j,n0,λ n k hn hk=>by simpa[gU,p,hw,Ix,l]using f n k hn hk⟩
   |false =>
    obtain⟨e,c,j,n0,f⟩:=o _ h;exact⟨e,c,j,n0,λ n k hn hk=>by simpa[gU,p,hw,hp]using f n k hn hk⟩
 |true =>
  cases guard with
  |none =>
   obtain⟨vs,l,hk,q⟩:=qE.elim h;obtain⟨t,rfl,hk⟩:=hk.run;obtain⟨e,c,j,n0,f⟩:=o _ q;exact⟨e,c,j,n0,λ n k hn i=>by simpa[gU,Ix,l,hk]using f n k hn i⟩
  |some g =>
   obtain⟨w,hw,h⟩:=bO.elim (m:=aH) h;cases w with
   |true =>
    obtain⟨vs,l,hk,q⟩:=qE.elim h;obtain⟨t,rfl,hk⟩:=hk.run;obtain⟨e,c,j,n0,f⟩:=o _ q;exact⟨e,c,j,n0,λ n k hn i=>by simpa[gU,p,hw,Ix,l,hk]using f n k hn i⟩
   |false =>
    obtain⟨r,h⟩:=h;obtain⟨e,c,j,n0,f⟩:=o _ h;cases dst with
    |none=>cases r
    |some d=>exact⟨e,c,j,n0,λ n k hn i=>by simpa[gU,p,hw]using f n k hn i⟩
def oq.run{AP:ak}{ctx:Ctx}:∀{l:List aN}{st:St}{Q:cJ},oq AP ctx l st Q -> ∃e c,Q e c/\EXS AP ctx l st (e,c)
 |[],st,Q,h=>⟨_,_,h,0,λ _ _ _ _=>rfl⟩
 |s::rest,st,Q,h=>by
  obtain⟨e,c,d,n0,h⟩:=qO.run (kk:=λ n k=>(gZ rest).run (yL AP n k ctx)) h λ c hs=>oq.run hs;exact⟨e,c,d,n0,h⟩
def af7{AP:ak}{ctx:Ctx}{ah:Option (List Nat)}{b:ai}{Q:cJ}{I:Nat->St->Prop}
 (hb:∀n st,I n st -> ∃e f,(match e with| .normal=>∃m,m<n/\I m f|e=>Q e f)/\EX AP ctx b (kQ ah st) (e,f)) :
 ∀m n,n<=m -> ∀st,I n st -> ∃e f,Q e f /\ ∃n0 c,∀n k,n0<=n->n0<=k -> ∀d,c<=d->gO ah ((bH b).run (yL AP n k ctx)) d st=B1 (e,f):=by
 intro m
 induction m with
 |zero =>
  intro n hn st q;obtain⟨e,f,h,n0,g⟩:=hb n st q;cases e with
  |normal=>obtain⟨j,w,_⟩:=h;omega
  |exit id=>exact⟨_,_,h,n0,1,λ n k hn hk d i=>by obtain⟨c,rfl⟩:∃c,d=c+1:=⟨d-1,by omega⟩;have:=g n k hn hk;cases ah<;>simp[gO,kQ]at this⊢<;>simp[this]⟩
  |goto l=>exact⟨_,_,h,n0,1,λ n k hn hk d i=>by obtain⟨c,rfl⟩:∃c,d=c+1:=⟨d-1,by omega⟩;have:=g n k hn hk;cases ah<;>simp[gO,kQ]at this⊢<;>simp[this]⟩
  |ret=>exact⟨_,_,h,n0,1,λ n k hn hk d i=>by obtain⟨c,rfl⟩:∃c,d=c+1:=⟨d-1,by omega⟩;have:=g n k hn hk;cases ah<;>simp[gO,kQ]at this⊢<;>simp[this]⟩
  |panic p=>exact⟨_,_,h,n0,1,λ n k hn hk d i=>by obtain⟨c,rfl⟩:∃c,d=c+1:=⟨d-1,by omega⟩;have:=g n k hn hk;cases ah<;>simp[gO,kQ]at this⊢<;>simp[this]⟩
 |succ m ih =>
  intro n hn st q;obtain⟨e,f,h,n0,g⟩:=hb n st q;cases e with
  |normal =>
   obtain⟨j,w,r⟩:=h;obtain⟨e,s,x,n1,c,t⟩:=ih j (by omega) f r;refine⟨e,s,x,max n0 n1,c+1,λ n k hn hk d i=>?_⟩;obtain⟨o,rfl⟩:∃c,d=c+1:=⟨d-1,by omega⟩
   have:=g n k (by omega) (by omega);have u:=t n k (by omega) (by omega) o (by omega);cases ah<;>simp[gO,kQ]at this⊢<;>simp[this,u]
  |exit id=>exact⟨_,_,h,n0,1,λ n k hn hk d i=>by obtain⟨c,rfl⟩:∃c,d=c+1:=⟨d-1,by omega⟩;have:=g n k hn hk;cases ah<;>simp[gO,kQ]at this⊢<;>simp[this]⟩
  |goto l=>exact⟨_,_,h,n0,1,λ n k hn hk d i=>by obtain⟨c,rfl⟩:∃c,d=c+1:=⟨d-1,by omega⟩;have:=g n k hn hk;cases ah<;>simp[gO,kQ]at this⊢<;>simp[this]⟩
  |ret=>exact⟨_,_,h,n0,1,λ n k hn hk d i=>by obtain⟨c,rfl⟩:∃c,d=c+1:=⟨d-1,by omega⟩;have:=g n k hn hk;cases ah<;>simp[gO,kQ]at this⊢<;>simp[this]⟩
  |panic p=>exact⟨_,_,h,n0,1,λ n k hn hk d i=>by obtain⟨c,rfl⟩:∃c,d=c+1:=⟨d-1,by omega⟩;have:=g n k hn hk;cases ah<;>simp[gO,kQ]at this⊢<;>simp[this]⟩
def mP.run{AP:ak}{ctx:Ctx}{st:St}{j:Nat}{H0:ar}{aY:List aK}{d:Nat}{Q:cJ}{v:AV}(h:mP AP ctx st j H0 aY d Q v) :
 ∃e g,Q e g /\ ∃n0,∀n k,n0<=n->n0<=k->iZ (AP.call n) (rounds AP.prog (AP.call n) n k) ctx st j H0 aY d v=B1 (e,g):=by
 unfold mP at h;split at h
 .obtain ⟨e,H',⟨n0,i⟩,h⟩:=h;cases e with
  |panic c=>exact⟨_,_,h,n0,λ n k hn hk=>by simp[iZ,cV,i n hn,NC]⟩
  |ret v =>
   obtain⟨s,p,f,k,tm,d,hg,hs,h⟩:=h;refine⟨_,_,h,n0,λ n k hn hk=>?_⟩;simp only[iZ,cV,i n hn,NC,qr,hg]
 .exact NP h
def WP.run{AP:ak}{ctx:Ctx}:∀{c:ai}{st:St}{Q:cJ},WP AP ctx c st Q -> ∃e j,Q e j/\EX AP ctx c st (e,j)
 | .skip,st,Q,h=>⟨_,_,h,0,λ _ _ _ _=>rfl⟩
 | .label _,st,Q,h=>⟨_,_,h,0,λ _ _ _ _=>rfl⟩
 | .exit _,st,Q,h=>⟨_,_,h,0,λ _ _ _ _=>rfl⟩
 | .goto _,st,Q,h=>⟨_,_,h,0,λ _ _ _ _=>rfl⟩
 | .ret,st,Q,h=>⟨_,_,h,0,λ _ _ _ _=>rfl⟩
 | .stuck,st,Q,h=>NP h
 | .region steps,st,Q,h=>oq.run h
 | .seq a b,st,Q,h=>by
  obtain⟨e,df,i,n0,g⟩:=WP.run (c:=a) h;cases e with
  |normal =>
   obtain⟨e,t,o,n1,x⟩:=WP.run (c:=b) i;exact⟨e,t,o,max n0 n1,λ n k hn hk=>by simp[bH,g n k (by omega) (by omega),uR,x n k (by omega) (by omega)]⟩
  |exit id=>exact⟨_,_,i,n0,λ n k hn hk=>by simp[bH,g n k hn hk,uR]⟩
  |goto id=>exact⟨_,_,i,n0,λ n k hn hk=>by simp[bH,g n k hn hk,uR]⟩
  |ret=>exact⟨_,_,i,n0,λ n k hn hk=>by simp[bH,g n k hn hk,uR]⟩
  |panic p=>exact⟨_,_,i,n0,λ n k hn hk=>by simp[bH,g n k hn hk,uR]⟩
 | .cond c a b,st,Q,h=>by
  obtain⟨v,r,h⟩:=FR.elim h;obtain⟨q,o,h⟩:=bO.elim (m:=aH) h;have hv':v=.bool q:=by
   unfold asBool at o;split at o
   .injection o with o;rw[o]
   .cases o
  subst hv';cases q with
  |true =>
   obtain⟨e,df,i,n0,g⟩:=WP.run (c:=a) h;exact⟨e,df,i,n0,λ n k hn hk=>by simp[bH,Jd,r,uh,g n k hn hk]⟩
  |false =>
   obtain⟨e,df,i,n0,g⟩:=WP.run (c:=b) h;exact⟨e,df,i,n0,λ n k hn hk=>by simp[bH,Jd,r,uh,g n k hn hk]⟩
 | .block id b,st,Q,h=>by
  obtain⟨e,df,i,n0,g⟩:=WP.run (c:=b) h;cases e with
  |exit id'=>exact⟨_,_,i,n0,λ n k hn hk=>by simp[bH,g n k hn hk,kG]⟩
  |normal=>exact⟨_,_,i,n0,λ n k hn hk=>by simp[bH,g n k hn hk,kG]⟩
  |goto id=>exact⟨_,_,i,n0,λ n k hn hk=>by simp[bH,g n k hn hk,kG]⟩
  |ret=>exact⟨_,_,i,n0,λ n k hn hk=>by simp[bH,g n k hn hk,kG]⟩
  |panic p=>exact⟨_,_,i,n0,λ n k hn hk=>by simp[bH,g n k hn hk,kG]⟩
 | .scope b,st,Q,h=>by
  obtain⟨e,df,i,n0,g⟩:=WP.run (c:=b) h;cases e with
  |exit id'=>exact⟨_,_,i,n0,λ n k hn hk=>by simp[bH,g n k hn hk,lH]⟩
  |normal=>exact⟨_,_,i,n0,λ n k hn hk=>by simp[bH,g n k hn hk,lH]⟩
  |goto id=>exact⟨_,_,i.2,n0,λ n k hn hk=>by simp[bH,g n k hn hk,lH,i.1]⟩
  |ret=>exact⟨_,_,i,n0,λ n k hn hk=>by simp[bH,g n k hn hk,lH]⟩
  |panic p=>exact⟨_,_,i,n0,λ n k hn hk=>by simp[bH,g n k hn hk,lH]⟩
 | .loop ah b,st,Q,⟨I,⟨n,s⟩,h⟩=>by
  obtain⟨e,j,o,n0,c,g⟩:=af7 (AP:=AP) (ctx:=ctx) (ah:=ah) (b:=b) (Q:=Q) (I:=I) (λ n st s=>by
   obtain⟨e,j,i,u⟩:=WP.run (c:=b) (h n st s);exact⟨e,j,i,u⟩) n n (qm n) st s
  exact⟨e,j,o,max n0 c,λ n k hn hk=>g n k (by omega) (by omega) n (by omega)⟩
 | .rangeFunc f k0,st,Q,h=>by
  obtain⟨v,r,h⟩:=FR.elim h;unfold Jz at h;cases hr:ctx.round with
  |none =>
   rw[hr]at h;obtain⟨e,j,o,n0,g⟩:=mP.run h;exact⟨e,j,o,n0,λ n k hn hk=>by simpa[bH,Jd,r,rN,yL,hr]using g n k hn hk⟩
  |some l =>
   rw[hr]at h;obtain⟨d,w,h⟩:=bO.elim (m:=aH) h;obtain⟨e,j,o,n0,g⟩:=mP.run h;exact⟨e,j,o,n0,λ n k hn hk=>by simpa[bH,Jd,r,rN,yL,hr,w]using g n k hn hk⟩
def Aj(AP:ak)(rs:List eh)(tm:T AV)(Q:bG->ar->Prop):List aK->Option aF->ar->Prop
 |[],B5,H=>bO aH (dY H tm rs) λ l=>Q (.ret (iV l)) H
 |[],B1 c,H=>Q (.panic c) H
 | .jD b::ds,m,H=>H.get b=B1 (.deferred (B1 []))/\Aj AP rs tm Q ds m (H.set b (.deferred B5))
 | .fn (.func f) args::ds,m,H=>∃v up' H',jI AP f args (B1 (m.getD [])) H (.ret v) (B1 up') H'/\bO aH (nE m up') λ m'=>Aj AP rs tm Q ds m' H'
 | .fn (.yield _) _::_,_,_=>False
def Aj.run{AP:ak}{rs:List eh}{tm:T AV}{Q:bG->ar->Prop}:∀{ds:List aK}{m:Option aF}{H:ar},Aj AP rs tm Q ds m H ->
 ∃e H',Q e H' /\ ∃n0,∀n,n0<=n->cj (AP.call n) rs tm ds m H=B1 (e,H')
 |[],B5,H,h=>by
  obtain⟨l,hl,h⟩:=bO.elim (m:=aH) h;exact⟨_,_,h,0,λ n _=>by simp[cj,hl]⟩
 |[],B1 c,H,h=>⟨_,_,h,0,λ n _=>by simp[cj]⟩
 | .jD b::ds,m,H,⟨hb,h⟩=>by
  obtain⟨e,H',d,n0,g⟩:=Aj.run h;exact⟨e,H',d,n0,λ n hn=>by simp[cj,hb,g n hn]⟩
 | .fn (.func f) args::ds,m,H,⟨v,up',H',⟨n0,hc⟩,h⟩=>by
  obtain⟨j,hm,h⟩:=bO.elim (m:=aH) h;obtain⟨e,i,d,n1,g⟩:=Aj.run h;exact⟨e,i,d,max n0 n1,λ n hn=>by simp[cj,hc n (by omega),hm,g n (by omega)]⟩
 | .fn (.yield _) _::_,_,_,h=>NP h
def Zk(AP:ak)(rs:List eh)(Q:bG->Option aF->ar->Prop):cJ:=λ e st=>match e with
 | .normal=>Aj AP rs st.tm (λ e H=>Q e st.up H) st.aY B5 st.H
 | .ret=>Aj AP rs st.tm (λ e H=>Q e st.up H) st.aY B5 st.H
 | .panic c=>Aj AP rs st.tm (λ e H=>Q e st.up H) st.aY (B1 c) st.H
 |_=>False
def He{AP:ak}{f:Nat}{fn:bW}(i:AP.func f=B1 fn){vs:List AV}{up:Option aF}{H:ar}{Q:bG->Option aF->ar->Prop}
 (h:WP AP ⟨B5,f⟩ fn.body ⟨jQ 0 vs .nil,[],up,H⟩ (Zk AP fn.results Q)):∃e d H',jI AP f vs up H e d H'/\Q e d H':=by
 obtain⟨l,i⟩:=ak.yR i;obtain⟨e,st,g,n0,p⟩:=h.run;have key:∀m,Aj AP fn.results st.tm (λ e H=>Q e st.up H) st.aY m st.H->(∀call,qC call fn (e,st)=(cj call fn.results st.tm st.aY m st.H).bind λ q=>B1 (q.1,st.up,q.2)) ->
  ∃e d H',jI AP f vs up H e d H'/\Q e d H':=by
  intro m g he;obtain⟨e',H',o,n1,r⟩:=g.run;refine⟨e',st.up,H',⟨max n0 n1+1,λ n hn=>?_⟩,o⟩;obtain⟨n,rfl⟩:∃j,n=j+1:=⟨n-1,by omega⟩
  have:=p n n (by omega) (by omega);simp only[yL]at this;rw[ak.zW l];simp only[Il,i,qr,exec,this,he,r n (by omega)]
 cases e with
 |normal=>exact key B5 g λ _=>rfl
 |ret=>exact key B5 g λ _=>rfl
 |panic c=>exact key (B1 c) g λ _=>rfl
 |exit _=>exact NP g
 |goto _=>exact NP g
def q7j{AP:ak}{f:Nat}{fn:bW}(g:AP.func f=B1 fn){vs:List AV}{H:ar}{Q:bG->ar->Prop}
 (h:WP AP ⟨B5,f⟩ fn.body ⟨jQ 0 vs .nil,[],B5,H⟩ (Zk AP fn.results λ e up H=>up=B5/\Q e H)):∃e H',CALL AP f vs H e H'/\Q e H':=by
 obtain⟨e,i,H',c,rfl,d⟩:=He g h;exact⟨e,H',c,d⟩
def RE(l:Nat)(Q:bG->ar->Prop):cJ:=λ e st=>st.aY=[]/\match e with
 | .panic c=>Q (.panic c) st.H
 |e=>bO aH (cQ st.H l (cond (Au e) .ready .done) (kR e)) λ H=>Q (.ret (.bool (Au e))) H
def RB(W:St->cJ->Prop)(l:Nat)(Q:bG->ar->Prop):cJ:=λ e st=>match e with
 | .normal=>bO aH (beginRound st.H l) λ H=>W {st with H:=H} (RE l Q)
 |_=>False
def y_{AP:ak}{l:Nat}{H:ar}{s:mY}{p:Option ia}{f k:Nat}{tm:T AV}{d:Nat}{fn:bW}{lp:dV}{vs:List AV}{u:T AV}{Q:bG->ar->Prop}
 (hl:H.get l=B1 (.loop s p f k tm d)) (y:AP.func f=B1 fn) (hk:nth fn.loops k=B1 lp) (hb:Lh tm lp.params vs=B1 u)
 (h:WP AP ⟨B1 l,f⟩ lp.assign ⟨u,[],B5,H⟩ (RB (WP AP ⟨B1 l,f⟩ lp.body) l Q)):∃e H',sk AP l vs H e H'/\Q e H':=by
 obtain⟨F,y⟩:=ak.yR y;obtain⟨e,st,o,n0,J⟩:=h.run;cases e with
 |normal =>
  obtain⟨N,x,o⟩:=bO.elim (m:=aH) o;obtain⟨e,z,⟨C,g⟩,n1,L⟩:=WP.run o;have key:∀e' H',Q e' H'->IF l (e,z)=B1 (e',H') -> ∃e H',sk AP l vs H e H'/\Q e H':=by
   intro e' H' G he;refine⟨e',H',⟨max n0 n1+1,λ n j hn O=>?_⟩,G⟩;obtain⟨j,rfl⟩:∃i,j=i+1:=⟨j-1,by omega⟩
   have r:=J n j (by omega) (by omega);have t:=L n j (by omega) (by omega);simp only[yL]at r t;simp only[rounds,roundOf,hl,y,qr,hk,hb,exec,r,x,t,C,roundOf.noDefs,xu,he]
  cases e with
  |panic c=>exact key _ _ g rfl
  |normal=>obtain⟨w,q,g⟩:=bO.elim (m:=aH) g;exact key _ _ g (by simp[IF,q])
  |exit id=>obtain⟨w,q,g⟩:=bO.elim (m:=aH) g;exact key _ _ g (by simp[IF,q])
  |goto id=>obtain⟨w,q,g⟩:=bO.elim (m:=aH) g;exact key _ _ g (by simp[IF,q])
  |ret=>obtain⟨w,q,g⟩:=bO.elim (m:=aH) g;exact key _ _ g (by simp[IF,q])
 |exit _=>exact NP o
 |goto _=>exact NP o
 |ret=>exact NP o
 |panic _=>exact NP o
def CALL.Bg{AP:ak}{f:Nat}{vs:List AV}{H:ar}{e:bG}{H':ar}(h:CALL AP f vs H e H'):∃n,AP.call n f vs B5 H=B1 (e,B5,H'):=by
 obtain⟨n,h⟩:=h;exact⟨n,h n (qm n)⟩
end
end Go.Am
namespace Go.Am
abbrev Env:=List (Nat×AV)
def lK(dst:Option Nat)(v:AV)(E:Env):Env:=match dst with
 |some d=>(d,v)::E
 |none=>E
def sZ{α β:Type}(m:Bool)(o:Option (α×β))(K:Bool -> α -> β->Prop):Prop:=match o with
 |some a=>K aH a.1 a.2
 |none=>False
def LK{α:Type}(m:Bool)(o:Option α)(K:Bool -> α->Prop):Prop:=match o with
 |some a=>K m a
 |none=>False
def Gj{α:Type}(a:α)(K:Bool -> α->Prop):LK B4 (B1 a) K=K B4 a:=propext jx
@[congr]def ac0{α:Type}{m c:Bool}{o o':Option α}{K:Bool -> α->Prop}(hm:m=c)(h:o=o'):LK m o K=LK c o' K:=by grind
@[congr]def ab4{α β:Type}{m c:Bool}{o o':Option (α×β)}{K:Bool -> α -> β->Prop}(hm:m=c)(h:o=o'):sZ m o K=sZ c o' K:=by grind
theorem sZ.intro{α β:Type}{m:Bool}{o:Option (α×β)}{K:Bool -> α -> β->Prop}{a:α}{b:β}(h:o=B1 (a,b))(hk:K aH a b):sZ m o K:=by subst h;exact hk
noncomputable section
variable(AP:ak)
end
end Go.Am
namespace Go.Am
def xmo(n:Int):aj .i64 n=(n+9223372036854775808) % 18446744073709551616-9223372036854775808:=by
 simp[aj,IntKind.wrap,IntKind.bits,IntKind.signed];split<;>omega
def xda(n:Int):aj .u64 n=n % 18446744073709551616:=by simp[aj,IntKind.wrap,IntKind.bits,IntKind.signed]
theorem ji{n:Int}(h:-9223372036854775808<=n)(c:n<9223372036854775808):aj .i64 n=n:=by rw[xmo];omega
def qp{n:Int}(h:0<=n)(c:n<18446744073709551616):aj .u64 n=n:=by rw[xda];omega
section
variable(k:P0)(a b:Int)
def KM(v:AV):Op.move [v]=B1 v:=rfl
def KB(q:Bool)(a b:AV):Op.pick [.bool q,a,b]=B1 (cond q a b):=rfl
def Ol:Op.bin .add [.int k a,.int k b]=B1 (.int k (aj k (a+b))):=by cases k<;>rfl
def Qg:Op.bin .sub [.int k a,.int k b]=B1 (.int k (aj k (a-b))):=by cases k<;>rfl
def O6:Op.bin .mul [.int k a,.int k b]=B1 (.int k (aj k (a*b))):=by cases k<;>rfl
theorem Q1(hb:b≠0):Op.bin .quo [.int k a,.int k b]=B1 (.int k (aj k (a.tdiv b))):=by
 have:uc b 0=false:=by rw[BM];simpa using hb
 cases k<;>simp[Op.bin,nT,dZ,tf,kP,gC,this]
theorem ud(hb:b≠0):Op.bin .rem [.int k a,.int k b]=B1 (.int k (a.tmod b)):=by
 have:uc b 0=false:=by rw[BM];simpa using hb
 cases k<;>simp[Op.bin,nT,dZ,tf,kP,gC,this]
def Rr:Op.bin .eql [.int k a,.int k b]=B1 (.bool (decide (a=b))):=by
 have:uc a b=decide (a=b):=by rw[BM];rfl
 cases k<;>simp[Op.bin,nT,dZ,tf,kP,gC,this]
def OJ:Op.bin .neq [.int k a,.int k b]=B1 (.bool (decide (a≠b))):=by
 have:uc a b=decide (a=b):=by rw[BM];rfl
 cases k<;>simp[Op.bin,nT,dZ,tf,kP,gC,this]
def Qh:Op.bin .lss [.int k a,.int k b]=B1 (.bool (decide (a<b))):=by
 cases k<;>simp[Op.bin,nT,dZ,tf,kP,gC,Lw]
def Ql:Op.bin .leq [.int k a,.int k b]=B1 (.bool (decide (a<=b))):=by
 cases k<;>simp[Op.bin,nT,dZ,tf,kP,gC,Nj]
def O9:Op.bin .gtr [.int k a,.int k b]=B1 (.bool (decide (b<a))):=by
 cases k<;>simp[Op.bin,nT,dZ,tf,kP,gC,Lw]
def Q6:Op.bin .geq [.int k a,.int k b]=B1 (.bool (decide (b<=a))):=by
 cases k<;>simp[Op.bin,nT,dZ,tf,kP,gC,Nj]
def L3(k':P0):Op.wrap k [.int k' a]=B1 (.int k (aj k a)):=rfl
def Qo(q:Bool):Op.un .not [.bool q]=B1 (.bool (!q)):=rfl
def xks(a b:List UInt8):AJ a b=decide (a=b):=by
 by_cases h:a=b
 .subst h;simp[Ky]
 .simp [Ky,h]
def KY(a b:List UInt8):Op.bin .eql [.str a,.str b]=B1 (.bool (decide (a=b))):=by
 simp only[Op.bin,nT,qN,xks]
def Kq(a b:List UInt8):Op.bin .neq [.str a,.str b]=B1 (.bool (decide (a≠b))):=by
 simp[Op.bin,nT,qN,xks]
def DA(s:List UInt8):Op.fD [.str s]=B1 (.int .i64 s.length):=by simp[Op.fD,eT,Gx]
def xln(i:Nat)(l:List AV):Op.extract i [.tuple l]=l[i]?:=by simp[Op.extract,lC]
def ac6(f n:Nat)(l:List AV):Op.bJ f n l=B1 (.fn (.func f) (l.take n) (l.drop n)):=rfl
def xlp(t:Nat)(v:AV):Op.dC t [v]=B1 (.iface t v):=rfl
def xeu(off b o:Nat):Op.fieldAddr off [.ptr b o]=B1 (.ptr b (o+off)):=rfl
def DH(off:Nat)(l:List AV):Op.field off B5 [.agg l]=l[off]?:=by simp[Op.field,partAt,lC]
def Ld(q:Bool):cP B4 (B1 (.bool q))=B1 q:=by cases q<;>rfl
def Gq(q:Bool):cP B2 (B1 (.bool q))=B1 (!q):=by cases q<;>rfl
def GX(b:Bool):cP b (B1 .undef)=B1 false:=rfl
end
structure Fr(W:Nat->Prop)(H H':ar):Prop where
 au:H.au<=H'.au
 ah:∀b,b<H.au -> ¬W b->H'.get b=H.get b
def Em:Nat->Prop:=λ _=>False
def On(b:Nat):Nat->Prop:=λ x=>x=b
theorem Fr.refl{W:Nat->Prop}(H:ar):Fr W H H:=⟨qm _,λ _ _ _=>rfl⟩
theorem Fr.trans{W W':Nat->Prop}{H H1 d:ar}(a:Fr W H H1)(b:Fr W' H1 d)(h:∀x,W' x->W x\/H.au<=x):Fr W H d :=
 ⟨xw a.au b.au,λ x f hw=>by
  rw[b.ah x (qn f a.au) (λ c=>(h x c).elim hw (λ q=>by omega)),a.ah x f hw]⟩
def Fr.em{W:Nat->Prop}{H H1 c:ar}(a:Fr W H H1)(b:Fr Em H1 c):Fr W H c:=a.trans b λ _ h=>h.elim
def Fr.mono{W W':Nat->Prop}{H H':ar}(a:Fr W H H')(h:∀x,x<H.au->W x->W' x):Fr W' H H':=⟨a.au,λ x c hw=>a.ah x c λ q=>hw (h x c q)⟩
theorem xx(H:ar)(o:bD):(H.alloc o).au=H.au+1:=rfl
theorem tV(H:ar)(b:Nat)(o:bD):(H.set b o).au=H.au:=rfl
theorem HZ(H:ar)(b:Nat):(H.kill b).au=H.au:=rfl
theorem Fr.alloc{W:Nat->Prop}{H H1:ar}(a:Fr W H H1)(o:bD):Fr W H (H1.alloc o) :=
 ⟨Nat.le_succ_of_le a.au,λ x c hw=>by rw[ar.bM,qv (by have:=a.au;omega),a.ah x c hw]⟩
theorem Fr.set{W:Nat->Prop}{H H1:ar}(a:Fr W H H1){b:Nat}(h:W b\/H.au<=b)(o:bD):Fr W H (H1.set b o) :=
 ⟨a.au,λ x c hw=>by rw[ar.aJ,qv (by rintro rfl;exact h.elim hw (λ q=>by omega)),a.ah x c hw]⟩
def Fr.kill{W:Nat->Prop}{H H1:ar}(a:Fr W H H1){b:Nat}(h:W b\/H.au<=b):Fr W H (H1.kill b) :=
 ⟨a.au,λ x c hw=>by rw[ar.qS,qv (by rintro rfl;exact h.elim hw (λ q=>by omega)),a.ah x c hw]⟩
theorem xb{H:ar}{b:Nat}{c:List AV}{e:Nat}{fz:Nat×Nat}{ow:Bool}(h:H.get b=B1 (.row c e fz ow)):H.bU b=B1 c:=by simp[ar.bU,h]
def Ww{H:ar}{b m s:Nat}{c:List AV}{e:Nat}{fz:Nat×Nat}(h:H.get b=B1 (.grown m s c e fz)):H.bU b=B1 c:=by simp[ar.bU,h]
def ω{H H':ar}{b:Nat}(h:H'.get b=H.get b):H'.bU b=H.bU b:=by simp[ar.bU,h]
def Fr.cells{W:Nat->Prop}{H H':ar}(a:Fr W H H'){b:Nat}(hb:b<H.au)(hw:¬W b):H'.bU b=H.bU b:=ω (a.ah b hb hw)
def x9{H:ar}{b:Nat}{c:List AV}(h:H.bU b=B1 c)(o:Nat):Op.ae [.ptr b o] H=c[o]?:=by simp[Op.ae,ar.ae,h,lC]
theorem rR{H:ar}{b:Nat}{c:List AV}(h:H.bU b=B1 c){o n:Nat}(hn:o+n<=c.length):Op.aq n [.ptr b o] H=B1 (.agg ((c.drop o).take n)):=by
 simp only[Op.aq,ar.aq,h,qr,uJ];rw[xg (by omega)];rfl
def Sl(H:ar)(size:Nat)(v:AV)(n:Nat)(cells:List AV):Prop :=
 cells.length=n*size/\match v with
 | .nils=>n=0
 | .slice b o m c=>m=n/\n<=c/\(n=0\/b<H.au /\ ∃all,H.bU b=B1 all/\fK all o (n*size)=B1 cells)
 | .gslice b i m s alt k=>k=n/\s=size/\i+n<=m/\(n=0\/b<H.au /\ ∃all,H.bU b=B1 all/\fK all (i*size) (n*size)=B1 cells)
 | .eslice b=>n=0/\b<H.au
 |_=>False
def aE:AV->Nat
 | .slice b _ _ _=>b
 | .gslice b _ _ _ _ _=>b
 | .eslice b=>b
 |_=>0
def cM(size:Nat):AV->Nat->Nat
 | .slice _ o _ _,j=>o+j*size
 | .gslice _ i _ s _ _,j=>i*s+j*s
 |_,_=>0
def Sl.eR{H:ar}{size:Nat}{v:AV}{n:Nat}{cells:List AV}(h:Sl H size v n cells):eR v=B1 n:=by
 obtain⟨_,h⟩:=h;split at h
 .subst h;rfl
 .obtain ⟨rfl,_⟩:=h;rfl
 .obtain ⟨rfl,_⟩:=h;rfl
 .obtain ⟨rfl,_⟩:=h;rfl
 .exact h.elim
def Sl.len{H:ar}{size:Nat}{v:AV}{n:Nat}{cells:List AV}(h:Sl H size v n cells):Op.db [v]=B1 (.int .i64 n):=by
 obtain⟨_,h⟩:=h;split at h
 .subst h;rfl
 .obtain ⟨rfl,_⟩:=h;rfl
 .obtain ⟨rfl,_⟩:=h;rfl
 .obtain ⟨rfl,_⟩:=h;rfl
 .exact h.elim
def J5{z:Int}{i n:Nat}(c:z=i)(h:i<n):within z n=B1 i:=by
 subst c;show cond (PM i n) (B1 i) B5=B1 i;have:PM i n=true:=by simpa[xP]using h
 rw[this];rfl
def KJ{i j:Nat}(h:i≠j):I6 i j=false:=by
 cases q:I6 i j with
 |false=>rfl
 |true=>exact(h (KZ q)).elim
def FT{i n:Nat}(h:i<n):PM i n=true:=by simpa[xP]using h
theorem yr{i n:Nat}(h:i<=n):Oa i n=true:=by simpa using h
def Sl.idx{H:ar}{size:Nat}{v:AV}{n:Nat}{cells:List AV}(h:Sl H size v n cells){i:Nat}(d:i<n){z:Int}(g:z=i)(k:P0) :
 Op.aP size [v,.int k z]=B1 (.ptr (aE v) (cM size v i)):=by
 obtain⟨hl,h⟩:=h;split at h
 .omega
 .rename_i b o m c;obtain⟨rfl,p,h⟩:=h;have f:=FT d;simp[Op.aP,Am.eR,J5 g d,elemAt,f,aE,cM]
 .rename_i b j m s alt k;obtain⟨rfl,rfl,hm,h⟩:=h;have f:=FT d;have l:=FT (show j+i<m by omega);simp[Op.aP,Am.eR,J5 g d,elemAt,f,l,aE,cM]
 .omega
 .exact h.elim
def Oh{α:Type}{l r:List α}{o n:Nat}(h:fK l o n=B1 r):n<=l.length-o/\r=(l.drop o).take n:=by
 rw[uJ]at h;split at h
 .rename_i hn;injection h with h;exact⟨hn,h.symm⟩
 .cases h
def Sl.at{H:ar}{size:Nat}{v:AV}{n:Nat}{cells:List AV}(g:0<size)(h:Sl H size v n cells){i:Nat}(p:i<n) :
 aE v<H.au /\ ∃all,H.bU (aE v)=B1 all/\cM size v i+size<=all.length /\ ∀j,j<size->all[cM size v i+j]? = cells[i*size+j]?:=by
 obtain⟨hl,h⟩:=h;have t:0<n*size:=Nat.mul_pos (by omega) g;have u:i*size+size<=n*size:=by rw[<-yt];exact jw _ p
 split at h
 .omega
 .rename_i b o m c;obtain⟨rfl,w,h⟩:=h;rcases h with h|⟨hb,all,d,f⟩
  .omega
  obtain⟨l,rfl⟩:=Oh f;refine⟨hb,all,d,?_,λ j r=>?_⟩
  .simp only[cM];simp at hl;omega
  .simp only[cM];rw[N8,xg (by omega),we];congr 1;omega
 .rename_i b q m s alt k;obtain⟨rfl,rfl,hm,h⟩:=h;rcases h with h|⟨hb,all,d,f⟩
  .omega
  obtain⟨l,rfl⟩:=Oh f;refine⟨hb,all,d,?_,λ j r=>?_⟩
  .simp only[cM];simp at hl;omega
  .simp only[cM];rw[N8,xg (by omega),we];congr 1;omega
 .omega
 .exact h.elim
def Sl.fr{H H':ar}{W:Nat->Prop}{size:Nat}{v:AV}{n:Nat}{cells:List AV}(h:Sl H size v n cells)(f:Fr W H H')(hw:n=0 \/ ¬W (aE v)):Sl H' size v n cells:=by
 obtain⟨hl,h⟩:=h;refine⟨hl,?_⟩;split at h
 .exact h
 .obtain ⟨d,g,c⟩:=h;refine⟨d,g,?_⟩;rcases c with c|⟨hb,all,c,i⟩
  .exact .inl c
  .rcases hw with hw|hw
   .exact .inl hw
   .exact .inr ⟨qn hb f.au,all,by rw[f.cells hb hw];exact c,i⟩
 .obtain ⟨d,g,j,c⟩:=h;refine⟨d,g,j,?_⟩;rcases c with c|⟨hb,all,c,i⟩
  .exact .inl c
  .rcases hw with hw|hw
   .exact .inl hw
   .exact .inr ⟨qn hb f.au,all,by rw[f.cells hb hw];exact c,i⟩
 .exact ⟨h.1,qn h.2 f.au⟩
 .exact h.elim
def Sl.em{H H':ar}{size:Nat}{v:AV}{n:Nat}{cells:List AV}(h:Sl H size v n cells)(f:Fr Em H H'):Sl H' size v n cells:=h.fr f (.inr id)
def Sl.first{H:ar}{size:Nat}{v:AV}{n:Nat}{cells:List AV}(h:Sl H size v n cells):firstCells H size n v=B1 cells:=by
 obtain⟨hl,h⟩:=h;split at h
 .subst h;simp at hl;subst hl;rfl
 .rename_i b o m c;obtain⟨rfl,j,h⟩:=h;rcases h with rfl|⟨hb,all,d,f⟩
  .simp at hl;subst hl;rfl
  .by_cases hn:m=0
   .subst hn;simp at hl;subst hl;rfl
   .have:I6 m 0=false:=KJ hn;simp only[firstCells,this,zo,ar.aq,d,qr,f]
 .rename_i b i m s alt k;obtain⟨rfl,rfl,hm,h⟩:=h;rcases h with rfl|⟨hb,all,d,f⟩
  .simp at hl;subst hl;rfl
  .by_cases hn:k=0
   .subst hn;simp at hl;subst hl;rfl
   .have:I6 k 0=false:=KJ hn;have g:=FT (show i<m by omega);simp[firstCells,this,g,ar.aq,d,f]
 .obtain ⟨rfl,_⟩:=h;simp at hl;subst hl;rfl
 .exact h.elim
def bV{α:Type}(enc:α->List AV)(size:Nat)(H:ar)(v:AV)(xs:List α):Prop:=Sl H size v xs.length (xs.flatMap enc)
section
variable{α:Type}{enc:α->List AV}{size:Nat}{H H':ar}{v:AV}{xs:List α}
def bV.len(h:bV enc size H v xs):Op.db [v]=B1 (.int .i64 xs.length):=Sl.len h
def bV.fr{W:Nat->Prop}(h:bV enc size H v xs)(f:Fr W H H')(hw:¬W (aE v)):bV enc size H' v xs:=Sl.fr h f (.inr hw)
def bV.em(h:bV enc size H v xs)(f:Fr Em H H'):bV enc size H' v xs:=Sl.em h f
theorem JM(hs:∀x,(enc x).length=size):∀(xs:List α){i:Nat}{x:α},xs[i]? = B1 x -> ∀{j:Nat},j<size->(xs.flatMap enc)[i*size+j]? = (enc x)[j]?
 |[],i,x,h,j,hj=>by simp at h
 |y::ys,0,x,h,j,hj=>by
  simp at h;subst h;rw[j9,yp (by rw[hs];omega)];simp
 |y::ys,i+1,x,h,j,hj=>by
  simp only[jo]at h;rw[j9,z7 (by rw[hs,yt];omega),hs,<-JM hs ys h hj];congr 1;rw[yt];omega
def J3{i:Nat}{x:α}(h:xs[i]? = B1 x):i<xs.length:=(qt.1 h).1
def bV.idx(h:bV enc size H v xs){i:Nat}{x:α}(c:xs[i]? = B1 x){z:Int}(d:z=i)(k:P0):Op.aP size [v,.int k z]=B1 (.ptr (aE v) (cM size v i)) :=
 Sl.idx h (J3 c) d k
def bV.ae(hs:∀x,(enc x).length=size)(h:bV enc size H v xs){i:Nat}{x:α}(d:xs[i]? = B1 x){j:Nat}(c:j<size):Op.ae [.ptr (aE v) (cM size v i+j)] H=(enc x)[j]?:=by
 obtain⟨_,all,f,l,g⟩:=Sl.at (by omega) h (J3 d);rw[x9 f,g j c,JM hs xs d c]
def bV.kW(hs:∀x,(enc x).length=size)(h:bV enc size H v xs){i:Nat}{x:α}(d:xs[i]? = B1 x)(c:0<size):Op.ae [.ptr (aE v) (cM size v i)] H=(enc x)[0]?:=h.ae hs d c
def bV.aq(hs:∀x,(enc x).length=size)(d:0<size)(h:bV enc size H v xs){i:Nat}{x:α}(f:xs[i]? = B1 x):Op.aq size [.ptr (aE v) (cM size v i)] H=B1 (.agg (enc x)):=by
 obtain⟨_,all,g,l,m⟩:=Sl.at d h (J3 f);rw[rR g l];congr 2;refine kz λ j=>?_
 by_cases c:j<size
 .rw [N8,xg c,we,m j c,JM hs xs f c]
 .rw [jg (by simp;omega),jg (by rw[hs];omega)]
end
def Own(H:ar)(e size:Nat)(v:AV)(n:Nat)(cells:List AV):Prop :=
 cells.length=n*size/\(n=0/\(v=.nils \/ ∃b,v=.slice b 0 0 0/\b<H.au) \/ ∃b,v=.gslice b 0 n size 0 n/\b<H.au/\H.get b=B1 (.grown n size cells e (0,0)))
def aM(v:AV):Nat->Prop:=λ x=>v≠ .nils/\x=aE v
theorem Own.nil(H:ar)(e size:Nat):Own H e size .nils 0 []:=⟨by simp,.inl ⟨rfl,.inl rfl⟩⟩
def Own.sl{H:ar}{e size:Nat}{v:AV}{n:Nat}{cells:List AV}(h:Own H e size v n cells):Sl H size v n cells:=by
 obtain⟨hl,⟨rfl,rfl|⟨b,rfl,hb⟩⟩|⟨b,rfl,c,d⟩⟩:=h
 .exact ⟨hl,rfl⟩
 .exact ⟨hl,rfl,qm _,.inl rfl⟩
 .refine ⟨hl,rfl,rfl,by omega,.inr ⟨c,cells,Ww d,?_⟩⟩;rw[uJ,xg (by simp[hl])];simp[<-hl]
def Own.fr{H H':ar}{W:Nat->Prop}{e size:Nat}{v:AV}{n:Nat}{cells:List AV}(h:Own H e size v n cells)(f:Fr W H H')(hw:∀x,aM v x -> ¬W x):Own H' e size v n cells:=by
 obtain⟨hl,⟨c,h|⟨b,rfl,hb⟩⟩|⟨b,rfl,d,g⟩⟩:=h
 .exact ⟨hl,.inl ⟨c,.inl h⟩⟩
 .exact ⟨hl,.inl ⟨c,.inr ⟨b,rfl,qn hb f.au⟩⟩⟩
 .exact ⟨hl,.inr ⟨b,rfl,qn d f.au,by rw[f.ah b d (hw b ⟨by simp,rfl⟩)];exact g⟩⟩
def Own.em{H H':ar}{e size:Nat}{v:AV}{n:Nat}{cells:List AV}(h:Own H e size v n cells)(f:Fr Em H H'):Own H' e size v n cells:=h.fr f λ _ _ h=>h
def Own.lt{H:ar}{e size:Nat}{v:AV}{n:Nat}{cells:List AV}(h:Own H e size v n cells):∀x,aM v x->x<H.au:=by
 rintro x ⟨c,rfl⟩;obtain⟨hl,⟨d,h|⟨b,rfl,hb⟩⟩|⟨b,rfl,c,f⟩⟩:=h
 .exact (c h).elim
 .exact hb
 .exact c
def Sl.one{H:ar}{size:Nat}{v:AV}{n:Nat}{cells:List AV}(h:Sl H size v n cells):aB v=true:=by
 obtain⟨_,h⟩:=h;cases v<;>first|rfl|exact h.elim
def S4{n bytes:Nat}(c:n*bytes<=140737488355328)(d:n<=140737488355328):fits n bytes=true:=by
 simp[fits,c,d]
theorem u_{H:ar}{e size bytes:Nat}{v:AV}{n:Nat}{cells:List AV}(h:Own H e size v n cells){x:AV}{k:Nat}{new:List AV}(p:Sl H size x k new)(g:aL new=B4)(hs:0<size)
 (u:(n+k)*bytes<=140737488355328) (l:n+k<=140737488355328) {K:Bool->AV->ar->Prop} {m:Bool}
 (hk:∀q H',Own H' e size q (n+k) (cells++new)->Fr (aM v) H H'->(∀b,aM q b->aM v b\/H.au<=b)->K aH q H'):sZ m (Op.append e size bytes [v,x] H) K:=by
 have c:=S4 u l;have hlen:new.length=k*size:=p.1;have f:=FT hs;have e1:∀n,I6 n n=true:=λ n=>by simp
 simp only[Op.append,p.eR,p.first,qr,g,xu];obtain⟨hl,⟨rfl,rfl|⟨b,rfl,hb⟩⟩|⟨b,rfl,s,r⟩⟩:=h
 .simp only[DQ,ku]at hl;subst hl
  by_cases d:k=0
  .subst d;simp at hlen;subst hlen;exact hk .nils H (Own.nil H e size) (Fr.refl H) λ b hb=>.inl hb
  .have i:I6 k 0=false:=KJ d;simp only[de,i,zo,yu]at c⊢;simp only[c,f,jk,xu,dA,sZ];refine hk _ _ ⟨by simpa using hlen,.inr ⟨H.au,by simp,by rw[xx];omega,?_⟩⟩ ((Fr.refl H).alloc _) λ b hb=>.inr (by rw[hb.2];exact qm _);rw[ar.bM,xg rfl];simp
 .simp only[DQ,ku]at hl;subst hl
  by_cases d:k=0
  .subst d;simp at hlen;subst hlen;simp only[de,AY,yr (qm 0),xu,e1,sZ];exact hk _ H ⟨by simp,.inl ⟨rfl,.inr ⟨b,rfl,hb⟩⟩⟩ (Fr.refl H) λ b hb=>.inl hb
  .have i:I6 k 0=false:=KJ d;have j:Oa k 0=false:=by cases o:Oa k 0 with|false=>rfl|true=>rw[tQ]at o;omega
   have t:firstCells H size 0 (.slice b 0 0 0)=B1 []:=rfl;simp only[de,yu,j,zo]at c⊢;simp only[c,yr (xz k),f,jk,xu,t,qr,pe,jr,dA,sZ];refine hk _ _ ⟨by simpa using hlen,.inr ⟨H.au,by simp,by rw[xx];omega,?_⟩⟩ ((Fr.refl H).alloc _) λ b hb=>.inr (by rw[hb.2];exact qm _);rw[ar.bM,xg rfl];simp
 .by_cases d:k=0
  .subst d;simp at hlen;subst hlen;simp only[de,I6,xu,yu,yr (qm n),sZ];refine hk _ _ ⟨by simpa using hl,.inr ⟨b,rfl,s,by simpa using r⟩⟩ (Fr.refl H) λ b hb=>.inl hb
  .have i:I6 k 0=false:=KJ d;have j:Oa (0+n+k) n=false:=by cases o:Oa (0+n+k) n with|false=>rfl|true=>rw[tQ]at o;omega
   simp only[de,i,zo,e1,yu,yr (qm n),f,jk,xu]at j⊢;simp only[j,zo,c,xu,r,e1,jk,I6,yr (xz (n*size)),dA,sZ];refine hk _ _ ⟨by simp[hl,hlen,vr],.inr ⟨H.au,by simp[HZ],by rw[xx,HZ];omega,?_⟩⟩ (((Fr.refl H).kill (.inl ⟨by simp,rfl⟩)).alloc _) λ b hb=>.inr (by rw[hb.2];exact qm _);rw[ar.bM,HZ,xg rfl,pe]
def UK(e n:Nat)(zero:List AV)(v:AV)(d:zero.length=n)(c:v.cells.length=n):Op.buildSlice e 1 zero [(0,n)] [v]=B1 (.row v.cells e (0,0) B4,Op.sliceTo 1 1):=by
 have e1:∀n,I6 n n=true:=λ n=>by simp
 simp only[Op.buildSlice,fV,pe,zq,jB,Gx,c,e1,xu,FA,yu,d,xg (qm n),yq,jr,qr];rw[jh (by omega)];simp
def DV{H:ar}{size e:Nat}{cells:List AV}(c:cells.length=size):Sl (H.alloc (.row cells e (0,0) B4)) size (Op.sliceTo 1 1 H.au) 1 cells:=by
 refine⟨by simp[c],rfl,qm 1,.inr ⟨by rw[xx];omega,cells,xb (by rw[ar.bM,xg rfl]),?_⟩⟩;rw[uJ,xg (by simp[c])];simp[<-c]
def FZ{H:ar}{e size bytes:Nat}{v:AV}{n:Nat}{cells:List AV}(h:Own H e size v n cells){zero:List AV}{x:AV}(t:zero.length=size)(l:x.cells.length=size)(d:aL x.cells=B4)(hs:0<size)
 (s:(n+1)*bytes<=140737488355328) (i:n+1<=140737488355328) {K:bD->(Nat->AV)->Bool->AV->ar->Prop} {m:Bool}
 (hk:∀f H',Own H' e size f (n+1) (cells++x.cells)->Fr (aM v) H H'->(∀b,aM f b->aM v b\/H.au<=b)->K (.row x.cells e (0,0) B4) (Op.sliceTo 1 1) aH f H') :
 sZ m (Op.buildSlice e 1 zero [(0,size)] [x]) λ g o mk=>sZ g (Op.append e size bytes [v,mk H.au] (H.alloc o)) (K o mk):=by
 rw[UK e size zero x t l];have c:Fr Em H (H.alloc (.row x.cells e (0,0) B4)):=(Fr.refl H).alloc _;refine sZ.intro rfl ?_;refine u_ (m:=aH) (h.em c) (DV l) d hs s i λ f H' p j r=>hk f H' p ?_ λ b hb=>?_
 .exact ⟨xw c.au j.au,λ b hb hw=>by rw[j.ah b (qn hb c.au) hw,c.ah b hb (λ q=>q)]⟩
 .exact (r b hb).imp id λ q=>xw c.au q
theorem Lx.intro{W:St->cJ->Prop}{ah:Option (List Nat)}{st:St}{Q:cJ}(I:Nat->St->Prop)(n:Nat)(d:I n st)
 (h:∀n st,I n st->W (kQ ah st) λ e c=>match e with
  | .normal=>∃m,m<n/\I m c
  |e=>Q e c):Lx W ah st Q:=⟨I,⟨n,d⟩,h⟩
end Go.Am
namespace Go.Am
def IB(H:ar)(tm:T AV)(t:Nat)(rs:List eh):dY H tm (.tmp t::rs)=(tm.get t).bind λ v=>(dY H tm rs).bind λ vs=>B1 (v::vs):=rfl
def xl5(H:ar)(tm:T AV)(t:Nat)(rs:List eh):dY H tm (.kK t::rs)=(((tm.get t).bind λ v=>Op.ae [v] H)).bind λ v=>(dY H tm rs).bind λ vs=>B1 (v::vs):=by
 simp only[dY,Oc];congr 1;cases tm.get t with
 |none=>rfl
 |some v=>cases v<;>rfl
def xl6(H:ar)(tm:T AV)(n t:Nat)(rs:List eh):dY H tm (.cR n t::rs)=(((tm.get t).bind λ v=>Op.aq n [v] H)).bind λ v=>(dY H tm rs).bind λ vs=>B1 (v::vs):=by
 simp only[dY,Oc];congr 1;cases tm.get t with
 |none=>rfl
 |some v=>cases v<;>rfl
def V0(v:AV):iV [v]=v:=rfl
def Xf:iV []=.tuple []:=rfl
def ZF(a b:AV)(l:List AV):iV (a::b::l)=.tuple (a::b::l):=rfl
def O0(b:Nat):Op.ptrTo b=.ptr b 0:=rfl
def τ(t:aS)(x y:AV)(H:ar)(q:Bool)(h:bm t x y=B1 q):Op.eq (.agg t) B4 [x,y] H=B1 (.bool (!q)):=by simp[Op.eq,I8,h]
def zJ(t:aS)(x y:AV)(H:ar)(q:Bool)(h:bm t x y=B1 q):Op.eq (.agg t) B2 [x,y] H=B1 (.bool q):=by simp[Op.eq,I8,h]
structure eW where
 kind:Int
 time:Int
 core:Int
 block:Int
 Za:Int
 lane:Int
 addr:Int
 value:Int
 code:Int
deriving DecidableEq
def eW.enc(x:eW):List AV:=[.int .i64 x.kind,.int .i64 x.time,.int .i64 x.core,.int .i64 x.block,.int .i64 x.Za,.int .i64 x.lane,.int .i64 x.addr,.int .u64 x.value,.int .i64 x.code]
def eW.len(x:eW):x.enc.length=9:=rfl
def Xj(a b:Int):uc a b=decide (a=b):=by rw[BM];rfl
end Go.Am
namespace Go.Am
theorem T.tg{α:Type}(v c:Option α):∀(p:List Bool)(t:T α),T.fR v p (T.fR c p t)=T.fR v p t
 |[],t=>rfl
 |b::p,t=>by cases b<;>simp[T.fR,T.l,T.r,T.val,T.tg v c p]
def Np(H:ar)(o o':bD):(H.alloc o).set H.au o'=H.alloc o':=by
 grind [ar.alloc,ar.set,T.set,T.put,T.tg]
theorem xm(H:ar)(o:bD):(H.alloc o).get H.au=B1 o:=by rw[ar.bM,xg rfl]
def cD(H:ar)(o:bD):∃Z,Z=H.alloc o/\Fr Em H Z/\Z.au=H.au+1/\Z.get H.au=B1 o:=⟨_,rfl,(Fr.refl H).alloc _,xx ..,xm ..⟩
theorem wn{H:ar}{b:Nat}(h:b<H.au)(o:bD):(H.alloc o).get b=H.get b:=by rw[ar.bM,qv (by omega)]
theorem xc(H:ar)(b:Nat)(o:bD):(H.set b o).get b=B1 o:=by rw[ar.aJ,xg rfl]
theorem ki{H:ar}{b c:Nat}(h:b≠c)(o:bD):(H.set b o).get c=H.get c:=by rw[ar.aJ,qv h]
def wY{H:ar}{b:Nat}{c:List AV}{e:Nat}(h:H.get b=B1 (.row c e (0,0) B4)){o n:Nat}{v:AV}(f:v.cells.length=n)(hn:o+n<=c.length)(d:aL v.cells=B4) :
 Op.store n [.ptr b o,v] H=B1 (.undef,H.set b (.row (c.take o++v.cells++c.drop (o+n)) e (0,0) B4)):=by
 have e1:∀n,I6 n n=true:=λ n=>by simp
 simp only[Op.store,Gx,f,e1,xu,ar.store,d,h];have:eC (0,0) o n=true:=by simp[eC]
 simp_all[FA]
def Yu{H:ar}{b m s:Nat}{c:List AV}{e:Nat}(h:H.get b=B1 (.grown m s c e (0,0))){o n:Nat}{v:AV}(f:v.cells.length=n)(hn:o+n<=c.length)(d:aL v.cells=B4) :
 Op.store n [.ptr b o,v] H=B1 (.undef,H.set b (.grown m s (c.take o++v.cells++c.drop (o+n)) e (0,0))):=by
 have e1:∀n,I6 n n=true:=λ n=>by simp
 simp only[Op.store,Gx,f,e1,xu,ar.store,d,h];have:eC (0,0) o n=true:=by simp[eC]
 simp_all[FA]
def O'(H:ar)(c:List AV)(e:Nat)(fz:Nat×Nat)(ow:Bool)(n:Nat)(hn:c.length=n):Op.aq n [.ptr H.au 0] (H.alloc (.row c e fz ow))=B1 (.agg c):=by
 rw[rR (xb (xm H _)) (by omega)];simp[<-hn]
def aT{α:Type}(enc:α->List AV)(e size:Nat)(H:ar)(v:AV)(xs:List α):Prop:=Own H e size v xs.length (xs.flatMap enc)
structure AD{α:Type}(enc:α->List AV)(e size:Nat)(H0 H:ar)(v:AV)(xs:List α):Prop where
 own:aT enc e size H v xs
 fr:Fr Em H0 H
 fresh:∀b,aM v b->H0.au<=b
section
variable{α:Type}{enc:α->List AV}{e size:Nat}{H0 H H':ar}{v:AV}{xs:List α}
def bV.one(h:bV enc size H v xs):aB v=true:=Sl.one h
theorem AD.nil(H:ar):AD enc e size H H .nils ([]:List α):=⟨Own.nil H e size,Fr.refl H,λ b h=>(h.1 rfl).elim⟩
def AD.sl(h:AD enc e size H0 H v xs):bV enc size H v xs:=Own.sl h.own
def aT.sl(h:aT enc e size H v xs):bV enc size H v xs:=Own.sl h
def AD.em(h:AD enc e size H0 H v xs)(f:Fr Em H H'):AD enc e size H0 H' v xs:=⟨Own.em h.own f,h.fr.em f,h.fresh⟩
def AD.len(h:AD enc e size H0 H v xs):Op.db [v]=B1 (.int .i64 xs.length):=h.sl.len
def AD.step(h:AD enc e size H0 H v xs){c:AV}{ys:List α}(d:aT enc e size H' c ys)(f:Fr (aM v) H H')(g:∀b,aM c b->aM v b\/H.au<=b):AD enc e size H0 H' c ys :=
 ⟨d,h.fr.trans f λ x i=>.inr (h.fresh x i),λ b hb=>(g b hb).elim (h.fresh b) λ q=>xw h.fr.au q⟩
def SU{f:α->List AV}(hs:∀x,(f x).length=size):∀(xs:List α){i:Nat}{x:α},xs[i]? = B1 x -> ∀(y:α),(xs.set i y).flatMap f=(xs.flatMap f).take (i*size)++f y++(xs.flatMap f).drop (i*size+size)
 |[],i,x,h,y=>by grind
 |z::zs,0,x,h,y=>by
  grind
 |z::zs,i+1,x,h,y=>by
  simp only[jo]at h;have e1:(f z++zs.flatMap f).take ((i+1)*size)=f z++(zs.flatMap f).take (i*size):=by
   grind [yt]
  have e2:(f z++zs.flatMap f).drop ((i+1)*size+size)=(zs.flatMap f).drop (i*size+size):=by
   rw[show(i+1)*size+size=(f z).length+(i*size+size)from by rw[hs,yt];omega,Qj]
  rw[List.set_cons_succ,j9,j9,SU hs zs h y,e1,e2]
  grind
theorem Fw(hs:∀x,(enc x).length=size)(l:List α):(l.flatMap enc).length=l.length*size:=by
 induction l with
 |nil=>simp
 |cons a l ih=>grind
def xh{L E:List AV}{c j:Nat}{u:AV}(d:E.length=size)(f:j<size)(hk:c+size<=L.length)(h:∀r,r<size->L[c+r]? = E[r]?) :
 L.take c++E.set j u++L.drop (c+size)=L.set (c+j) u:=by
 refine kz λ k=>?_
 grind
def aT.Ax(hs:∀x,(enc x).length=size)(h:aT enc e size H v xs){i:Nat}{x y:α}(d:xs[i]? = B1 x){j:Nat}(p:j<size){u:AV}(hu:aB u=B4)(q:enc y=(enc x).set j u) :
 ∃H',Op.store 1 [.ptr (aE v) (cM size v i+j),u] H=B1 (.undef,H')/\aT enc e size H' v (xs.set i y)/\Fr (aM v) H H':=by
 obtain⟨hl,h|⟨b,rfl,f,g⟩⟩:=h
 .grind
 .have m:=J3 d;have hb:(i+1)*size<=xs.length*size:=jw _ m;rw[yt]at hb;have l:u.cells=[u]:=by cases u<;>first|rfl|cases hu
  have c:=Yu g (o:=i*size+j) (n:=1) (v:=u) (by grind) (by omega) (by grind [vc]);have ho:cM size (AV.gslice b 0 xs.length size 0 xs.length) i=i*size:=by simp[cM]
  rw[ho];refine⟨_,c,⟨?_,.inr ⟨b,?_,f,?_⟩⟩,(Fr.refl H).set (.inl ⟨by simp,rfl⟩) _⟩
  .grind [Fw]
  .grind
  .rw [zf,xc,SU hs xs d,q,l,xh (L:=xs.flatMap enc) (E:=enc x) (hs x) p (by omega) (λ r hr=>JM hs xs d hr),List.set_eq_take_append_cons_drop,xg (by omega)];simp
end
abbrev OR(c:List AV)(e:Nat):bD:=.row c e (0,0) B4
end Go.Am
namespace Go.Am
def tI{k mx d:Nat}{z:Int}(c:z=k)(h:k<=mx)(kk:P0):bound (B1 (.int kk z)) d mx=B1 k:=by
 subst c;show cond (Oa k mx) (B1 k) B5=B1 k;rw[yr h];rfl
def Sl.from{H:ar}{size:Nat}{v:AV}{n:Nat}{cells:List AV}(h:Sl H size v n cells){k:Nat}(hk:k<=n){z:Int}(j:z=k)(kk:P0) :
 ∃l,Op.aD size [B1 0,B5,B5] [v,.int kk z]=B1 l/\Sl H size l (n-k) (cells.drop (k*size))/\(l=.nils\/aE l=aE v):=by
 obtain⟨hl,h⟩:=h;have hlen:(cells.drop (k*size)).length=(n-k)*size:=by grind [Nat.sub_mul]
 have x:k*size<=n*size:=jw _ hk;have u:(n-k)*size=n*size-k*size:=Nat.sub_mul n k size;split at h
 .subst h;have:k=0:=by omega
  subst this;refine⟨.nils,?_,⟨hlen,rfl⟩,.inl rfl⟩;have g:bound B5 0 0=B1 0:=rfl;simp[Op.aD,arg,lC,dQ,g,tI j (qm 0)]
 .rename_i b o m c;obtain⟨rfl,C,h⟩:=h;have f:∀d m,bound B5 d m=B1 d:=λ _ _=>rfl;refine⟨.slice b (cond (I6 c k) o (o+k*size)) (m-k) (c-k),by simp[Op.aD,arg,lC,dQ,f,tI j hk],⟨hlen,rfl,by omega,?_⟩,.inr rfl⟩;rcases h with h|⟨hb,all,p,r⟩
  .omega
  .by_cases he:c=k
   .omega
   .right;obtain⟨w,rfl⟩:=Oh r;refine⟨hb,all,p,?_⟩;rw[KJ he,zo,uJ,xg (by omega),List.drop_take,Fv]
    grind
 .rename_i b i m s alt q;obtain⟨rfl,rfl,hm,h⟩:=h;have e1:∀n,I6 n n=true:=λ n=>by simp
  have f:∀d m,bound B5 d m=B1 d:=λ _ _=>rfl;have y:=yr (show q<=m-i by omega);have t:=yr (show i<=m by omega);refine⟨.gslice b (i+k) m s (cond (I6 k 0) alt (i*s)) (q-k),by simp only[Op.aD,arg,lC,z4,qr,dQ,f,tI j hk,e1,t,y,jk,xu],⟨hlen,rfl,rfl,by omega,?_⟩,.inr rfl⟩;rcases h with h|⟨hb,all,p,r⟩
  .omega
  .right;obtain⟨w,rfl⟩:=Oh r;refine⟨hb,all,p,?_⟩;rw[uJ,xg (by rw[vr];omega),List.drop_take,Fv,vr]
   grind
 .rename_i b;obtain⟨rfl,hb⟩:=h;have:k=0:=by omega
  subst this;have g:bound B5 0 0=B1 0:=rfl;refine⟨.eslice b,?_,⟨hlen,rfl,hb⟩,.inr rfl⟩;simp[Op.aD,arg,lC,dQ,g,tI j (qm 0)]
 grind
def Sl.upto{H:ar}{size:Nat}{v:AV}{n:Nat}{cells:List AV}(h:Sl H size v n cells){k:Nat}(hk:k<=n){z:Int}(l:z=k)(kk:P0) :
 ∃p,Op.aD size [B5,B1 0,B5] [v,.int kk z]=B1 p/\Sl H size p k (cells.take (k*size))/\(p=.nils\/aE p=aE v):=by
 obtain⟨hl,h⟩:=h;have j:k*size<=n*size:=jw _ hk;have hlen:(cells.take (k*size)).length=k*size:=by grind
 split at h
 .subst h;have:k=0:=by omega
  subst this;refine⟨.nils,?_,⟨hlen,rfl⟩,.inl rfl⟩;have g:bound B5 0 0=B1 0:=rfl;simp[Op.aD,arg,lC,dQ,g,tI l (qm 0)]
 .rename_i b o m c;obtain⟨rfl,C,h⟩:=h;have u:∀h,bound B5 0 h=B1 0:=λ h=>rfl;have f:∀d m,bound B5 d m=B1 d:=λ _ _=>rfl;refine⟨.slice b (cond (I6 c 0) o (o+0*size)) (k-0) (c-0),by simp only[Op.aD,arg,lC,z4,qr,dQ,tI l (show k<=c by omega),u,f],⟨hlen,by omega,by omega,?_⟩,.inr rfl⟩;rcases h with h|⟨hb,all,r,t⟩
  .omega
  .right;obtain⟨x,rfl⟩:=Oh t;refine⟨hb,all,r,?_⟩;have:cond (I6 c 0) o (o+0*size)=o:=by grind
   rw[this,uJ,xg (by omega),List.take_take,Nat.min_eq_left j]
 .rename_i b i m s alt q;obtain⟨rfl,rfl,hm,h⟩:=h;have e1:∀n,I6 n n=true:=λ n=>by simp
  have f:∀d m,bound B5 d m=B1 d:=λ _ _=>rfl;have y:=yr (show k<=m-i by omega);have w:=yr (show i<=m by omega);refine⟨.gslice b (i+0) m s (cond (I6 0 0) alt (i*s)) (k-0),by simp only[Op.aD,arg,lC,z4,qr,dQ,f,tI l (show k<=m-i by omega),e1,w,y,jk,xu],⟨hlen,by omega,rfl,by omega,?_⟩,.inr rfl⟩;rcases h with h|⟨hb,all,r,t⟩
  .omega
  .right;obtain⟨x,rfl⟩:=Oh t;refine⟨hb,all,r,?_⟩;rw[AY,uJ,xg (by omega),List.take_take,Nat.min_eq_left j]
 .rename_i b;obtain⟨rfl,hb⟩:=h;have:k=0:=by omega
  subst this;have g:bound B5 0 0=B1 0:=rfl;refine⟨.eslice b,?_,⟨hlen,rfl,hb⟩,.inr rfl⟩;simp[Op.aD,arg,lC,dQ,g,tI l (qm 0)]
 grind
section
variable{α:Type}{enc:α->List AV}{size:Nat}{H H':ar}{v:AV}{xs:List α}
theorem qyv(hs:∀x,(enc x).length=size):∀(xs:List α)(k:Nat),(xs.flatMap enc).drop (k*size)=(xs.drop k).flatMap enc
 |[],k=>by simp
 |x::xs,0=>by simp
 |x::xs,k+1=>by
  rw[j9,show(k+1)*size=(enc x).length+k*size from by rw[hs,yt];omega,Qj,qyv hs xs k];rfl
theorem ZU(hs:∀x,(enc x).length=size):∀(xs:List α)(k:Nat),(xs.flatMap enc).take (k*size)=(xs.take k).flatMap enc
 |[],k=>by simp
 |x::xs,0=>by simp
 |x::xs,k+1=>by
  rw[j9,show(k+1)*size=(enc x).length+k*size from by rw[hs,yt];omega,List.take_length_add_append,ZU hs xs k];rfl
def bV.from(hs:∀x,(enc x).length=size)(h:bV enc size H v xs){k:Nat}(hk:k<=xs.length){z:Int}(d:z=k)(kk:P0) :
 ∃c,Op.aD size [B1 0,B5,B5] [v,.int kk z]=B1 c/\bV enc size H c (xs.drop k)/\(c=.nils\/aE c=aE v):=by
 obtain⟨c,f,g,i⟩:=Sl.from h hk d kk
 grind [bV,qyv]
def bV.upto(hs:∀x,(enc x).length=size)(h:bV enc size H v xs){k:Nat}(hk:k<=xs.length){z:Int}(d:z=k)(kk:P0) :
 ∃c,Op.aD size [B5,B1 0,B5] [v,.int kk z]=B1 c/\bV enc size H c (xs.take k)/\(c=.nils\/aE c=aE v):=by
 obtain⟨c,f,g,i⟩:=Sl.upto h hk d kk
 grind [bV,ZU]
def gN(enc:α->List AV)(e size:Nat)(H:ar)(v:AV)(xs:List α):Prop:=∃b,v=.slice b 0 xs.length xs.length/\b<H.au/\H.get b=B1 (.row (xs.flatMap enc) e (0,0) B4)
def gN.sl{e:Nat}(hs:∀x,(enc x).length=size)(h:gN enc e size H v xs):bV enc size H v xs:=by
 obtain⟨b,rfl,c,d⟩:=h;refine⟨Fw hs xs,rfl,qm _,.inr ⟨c,_,xb d,?_⟩⟩;rw[uJ,xg (by grind [Fw]),yo,ze (by grind [Fw])]
def gN.fr{e:Nat}{W:Nat->Prop}(h:gN enc e size H v xs)(f:Fr W H H')(hw:¬W (aE v)):gN enc e size H' v xs:=by
 obtain⟨b,rfl,c,d⟩:=h;exact⟨b,rfl,qn c f.au,by rw[f.ah b c hw];exact d⟩
def gN.lt{e:Nat}(h:gN enc e size H v xs):aE v<H.au:=by
 obtain⟨b,rfl,c,d⟩:=h;exact c
def gN.Ax{e:Nat}(hs:∀x,(enc x).length=size)(h:gN enc e size H v xs){i:Nat}{x y:α}(d:xs[i]? = B1 x){j:Nat}(p:j<size){u:AV}(hu:aB u=B4)(q:enc y=(enc x).set j u) :
 ∃H',Op.store 1 [.ptr (aE v) (cM size v i+j),u] H=B1 (.undef,H')/\gN enc e size H' v (xs.set i y)/\Fr (On (aE v)) H H':=by
 obtain⟨b,rfl,f,g⟩:=h;have m:=J3 d;have hl:=Fw hs xs;have hb:(i+1)*size<=xs.length*size:=jw _ m;rw[yt]at hb;have l:u.cells=[u]:=by cases u<;>first|rfl|cases hu
 have c:=wY g (o:=i*size+j) (n:=1) (v:=u) (by grind) (by omega) (by grind [vc]);have ho:cM size (AV.slice b 0 xs.length xs.length) i=i*size:=by simp[cM]
 rw[ho];refine⟨_,c,⟨b,?_,f,?_⟩,(Fr.refl H).set (W:=On b) (.inl rfl) _⟩
 .grind
 .rw [xc,SU hs xs d,q,l,xh (L:=xs.flatMap enc) (E:=enc x) (hs x) p (by omega) (λ r hr=>JM hs xs d hr),List.set_eq_take_append_cons_drop,xg (by omega)];simp
end
def WY(e bytes:Nat)(z:List AV)(n:Nat)(k k':P0)(h:n*bytes<=140737488355328)(c:n<=140737488355328) :
 Op.mkSlice e bytes z [.int k n,.int k' n]=B1 (.row (fV n z) e (0,0) B4,Op.sliceTo n n):=by
 grind [Nj,Op.mkSlice]
end Go.Am
namespace Go.Am
def hH{tm:T AV}{x:bK}{K K':AV->Prop}(h:FR tm x K)(hk:∀v,K v->K' v):FR tm x K':=by
 have⟨v,d,f⟩:=h.elim;cases x with
 |tmp t=>grind [rO,FR,bO]
 |const c=>cases d;exact hk _ f
 |eG c=>cases d;exact hk _ f
 |func c=>cases d;exact hk _ f
def J4{tm:T AV}:∀{l:List bK}{K K':List AV->Prop},qE tm l K->(∀v,K v->K' v)->qE tm l K'
 |[],K,K',h,hk=>hk _ h
 | .tmp t::xs,K,K',h,hk=>by
  simp only[qE]at h⊢;unfold bO at h⊢;split at h
  .exact J4 h λ vs=>hk _
  omega
 | .const v::xs,K,K',h,hk=>J4 (l:=xs) h λ vs=>hk _
 | .eG v::xs,K,K',h,hk=>J4 (l:=xs) h λ vs=>hk _
 | .func v::xs,K,K',h,hk=>J4 (l:=xs) h λ vs=>hk _
theorem Fg{α:Type}{m:Bool}{o:Option α}{K K':α->Prop}(h:bO m o K)(hk:∀a,K a->K' a):bO m o K':=by
 cases o with
 |none=>exact h
 |some a=>exact hk a h
theorem q69{α β:Type}{m:Bool}{o:Option (α×β)}{K K':α -> β->Prop}(h:iL m o K)(hk:∀a b,K a b->K' a b):iL m o K':=by
 cases o with
 |none=>exact h
 |some a=>exact hk a.1 a.2 h
section
variable{AP:ak}
theorem ZQ{m:Bool}{f:mD}{vs:List AV}{H:ar}{K K':AV->ar->Prop}{E d:aF->ar->Prop}(h:nH AP m f vs H K E)(hk:∀v H,K v H->K' v H)(he:∀c H,E c H->d c H):nH AP m f vs H K' d:=by
 have⟨e,H',i,g⟩:=h;refine⟨e,H',i,?_⟩;cases e with
 |ret v=>exact hk _ _ g
 |panic c=>exact he _ _ g
theorem SM{d:Option (List Nat)}{tm:T AV}{aY:List aK}{up:Option aF}{Q Q':cJ}(f:∀e st,Q e st->Q' e st)(c:aF)(H:ar)(h:AK d tm aY up Q c H):AK d tm aY up Q' c H:=by
 cases d with
 |none=>exact h
 |some ds=>exact f _ _ h
def xfj{ctx:Ctx}{dst:Option Nat}{c:Option (List Nat)}{st:St}{Q Q':cJ}{K K':St->Prop}{vs:List AV}{op:fG}(h:pT AP ctx dst c st Q K vs op)(d:∀e st,Q e st->Q' e st)(hk:∀st,K st->K' st):pT AP ctx dst c st Q' K' vs op:=by
 cases op with
 |pure f=>exact Fg (m:=aH) h λ _=>hk _
 |read f=>exact Fg (m:=aH) h λ _=>hk _
 |alloc f=>grind [pT,q69]
 |gT f=>grind [pT,q69]
 |hJ f=>exact ZQ (m:=aH) h (by grind) (SM d)
 |ic =>
  simp only[pT,M5]at h⊢
  grind [ZQ,SM]
 |invoke n =>
  simp only[pT,NN]at h⊢;split at h
  .grind [Fg,ZQ,SM]
  omega
 |recover =>
  simp only[pT,yC]at h⊢
  grind
 |defer =>
  simp only[pT,HU]at h⊢
  grind
 |panic =>
  simp only[pT,gD]at h⊢
  grind [SM]
def xav{ctx:Ctx}{s:aN}{st:St}{Q Q':cJ}{K K':St->Prop}(h:qO AP ctx s st Q K)(c:∀e st,Q e st->Q' e st)(hk:∀st,K st->K' st):qO AP ctx s st Q' K':=by
 have⟨ik,dst,guard,args,op,d⟩:=s;cases ik with
 |false =>
  cases guard with
  |none=>exact J4 h λ _ q=>xfj q c hk
  |some g =>
   refine Fg (m:=aH) h λ w q=>?_;cases w with
   |true=>exact J4 (K:=_) q λ _ q=>xfj q c hk
   |false=>exact hk _ q
 |true =>
  cases guard with
  |none=>exact J4 h λ _ q=>(by grind)
  |some g =>
   refine Fg (m:=aH) h λ w q=>?_;cases w with
   |true=>exact J4 (K:=_) q λ _ q=>(by grind)
   |false=>exact⟨q.1,hk _ q.2⟩
def j1{ctx:Ctx}:∀{l:List aN}{st:St}{Q Q':cJ},oq AP ctx l st Q->(∀e st,Q e st->Q' e st)->oq AP ctx l st Q'
 |[],st,Q,Q',h,hq=>hq _ _ h
 |s::rest,st,Q,Q',h,hq=>xav h hq λ d c=>j1 c hq
theorem RJ{ctx:Ctx}{st:St}{k:Nat}{H0:ar}{aY:List aK}{d:Nat}{Q Q':cJ}{v:AV}(h:mP AP ctx st k H0 aY d Q v)(i:∀e st,Q e st->Q' e st):mP AP ctx st k H0 aY d Q' v:=by
 unfold mP at h⊢;split at h
 .have ⟨e,H',j,g⟩:=h;refine⟨e,H',j,?_⟩;cases e with
  |panic c=>exact i _ _ g
  |ret v=>have⟨s,p,f,k,tm,d,l,m,o⟩:=g;exact⟨s,p,f,k,tm,d,l,m,i _ _ o⟩
 omega
def pM{ctx:Ctx}:∀{c:ai}{st:St}{Q Q':cJ},WP AP ctx c st Q->(∀e st,Q e st->Q' e st)->WP AP ctx c st Q'
 | .skip,st,Q,Q',h,hq=>hq _ _ h
 | .label _,st,Q,Q',h,hq=>hq _ _ h
 | .exit _,st,Q,Q',h,hq=>hq _ _ h
 | .goto _,st,Q,Q',h,hq=>hq _ _ h
 | .ret,st,Q,Q',h,hq=>hq _ _ h
 | .stuck,st,Q,Q',h,hq=>h.elim
 | .region l,st,Q,Q',h,hq=>j1 h hq
 | .seq a b,st,Q,Q',h,hq=>pM (c:=a) h λ e g d=>by
  cases e with
  |normal=>exact pM (c:=b) d hq
  |exit _=>exact hq _ _ d
  |goto _=>exact hq _ _ d
  |ret=>exact hq _ _ d
  |panic _=>exact hq _ _ d
 | .cond c a b,st,Q,Q',h,hq=>hH h λ v q=>Fg (m:=aH) q λ w q=>by
  cases w with
  |true=>exact pM (c:=a) q hq
  |false=>exact pM (c:=b) q hq
 | .block id b,st,Q,Q',h,hq=>pM (c:=b) h λ e g d=>by cases e<;>exact hq _ _ d
 | .scope b,st,Q,Q',h,hq=>pM (c:=b) h λ e g d=>by
  cases e with
  |goto l=>exact⟨d.1,hq _ _ d.2⟩
  |normal=>exact hq _ _ d
  |exit _=>exact hq _ _ d
  |ret=>exact hq _ _ d
  |panic _=>exact hq _ _ d
 | .loop ah b,st,Q,Q',⟨I,h0,h⟩,hq=>⟨I,h0,λ n st i=>pM (c:=b) (h n st i) λ e g d=>by grind⟩
 | .rangeFunc f k,st,Q,Q',h,hq=>hH h λ v q=>by
  grind [Jz,RJ,Fg]
def gH:aW->Prop
 | .exit _=>True
 | .goto _=>True
 | .ret=>True
 |_=>False
end
end Go.Am
namespace Go.Am
noncomputable section
abbrev aG:=aW->Env->List aK->ar->Prop
def lk(E:Env)(t:Nat):Option AV:=A5 (motive:=λ _=>Option AV) B5 (λ p _ ih=>cond (I6 p.1 t) (B1 p.2) ih) E
def Cr(t:Nat):lk [] t=none:=rfl
def wP(k t:Nat)(v:AV)(E:Env):lk ((k,v)::E) t=if k=t then B1 v else lk E t:=by
 show cond (I6 k t) (B1 v) (lk E t)=_;simp_all
def bF(t:Nat)(l:List Nat):Bool:=A5 (motive:=λ _=>Bool) B2 (λ x _ ih=>cond (I6 x t) B4 ih) l
def fY(ks:List Nat)(E:Env)(tm:T AV):Prop:=∀t v,lk E t=B1 v->tm.get t=B1 v/\bF t ks=B4
def yG:Env->Env->Prop
 |[],_=>True
 |(k,v)::r,E=>lk E k=B1 v/\yG r E
def HA(E:Env):yG [] E=True:=rfl
def ag3(k:Nat)(v:AV)(r E:Env):yG ((k,v)::r) E=(lk E k=B1 v/\yG r E):=rfl
def yG.look:∀{A E:Env},yG A E -> ∀{t:Nat}{v:AV},lk A t=B1 v->lk E t=B1 v
 |[],E,_,t,v,h=>by cases h
 |(k,w)::r,E,h,t,v,hl=>by
  rw[wP]at hl;split at hl
  .rename_i e;subst e;cases hl;exact h.1
  .exact yG.look h.2 hl
def yG.sub{ks:List Nat}{A E:Env}(h:yG A E){tm:T AV}(he:fY ks E tm):fY ks A tm:=λ t v hl=>he t v (h.look hl)
def SS(A E:Env):Prop:=∀t v,lk A t=B1 v->lk E t=B1 v
def yG.ss{A E:Env}(h:yG A E):SS A E:=λ t v hl=>h.look hl
def SS.sub{ks:List Nat}{A E:Env}(h:SS A E){tm:T AV}(he:fY ks E tm):fY ks A tm:=λ t v hl=>he t v (h t v hl)
theorem SS.refl(E:Env):SS E E:=λ _ _ h=>h
def B3{α:Type}(m:Bool)(o:Option α)(K:Bool -> α->Prop):Prop:=match o with
 |some a=>K m a
 |none=>False
def iW{α β:Type}(m:Bool)(o:Option (α×β))(K:Bool -> α -> β->Prop):Prop:=match o with
 |some a=>K m a.1 a.2
 |none=>False
def mS(m:Bool)(v:AV)(A B:Bool->Prop):Prop:=match v with
 | .bool q=>match q with
  |true=>A m
  |false=>B m
 |_=>False
def ua(m:Bool)(q:Bool)(A B:Bool->Prop):Prop:=match q with
 |true=>A m
 |false=>B m
def N9(m:Bool)(o o':Option AV)(K:Bool->Prop):Prop:=(∃v,o=B1 v/\o'=B1 v)/\K m
def A3(m:Bool)(e:Nat)(z:List AV)(H:ar)(K:Bool->AV->ar->Prop):Prop:=K m (.ptr H.au 0) (H.alloc (.row z e (0,0) B4))
def JN{α:Type}(F:α->Prop)(K:α):Prop:=F K
def rD(m:Bool)(Q:aG)(e:aW)(E:Env)(D:List aK)(H:ar):Prop:=Q e E D H
def Hk{α:Type}(a:α)(K:Bool -> α->Prop):B3 B4 (B1 a) K=K B4 a:=propext jx
def EO{α β:Type}(a:α)(b:β)(K:Bool -> α -> β->Prop):iW B4 (B1 (a,b)) K=K B4 a b:=propext jx
def DI(A B:Bool->Prop):mS B4 (.bool B4) A B=A true:=propext jx
def xje(A B:Bool->Prop):mS B4 (.bool B2) A B=B true:=propext jx
def af3(A B:Bool->Prop):ua B4 B4 A B=A true:=propext jx
def xjf(A B:Bool->Prop):ua B4 B2 A B=B true:=propext jx
def af4(v:AV)(K:Bool->Prop):N9 B4 (B1 v) (B1 v) K=K true:=propext ⟨λ h=>h.2,λ h=>⟨⟨v,rfl,rfl⟩,h⟩⟩
def QU(e:Nat)(z:List AV)(H:ar)(K:Bool->AV->ar->Prop):A3 B4 e z H K=K B4 (.ptr H.au 0) (H.alloc (.row z e (0,0) B4)):=propext jx
def JB{α:Type}(F:α->Prop)(K:α):JN F K=F K:=propext jx
def DZ(Q:aG)(e:aW)(E:Env)(D:List aK)(H:ar):rD B4 Q e E D H=Q e E D H:=propext jx
@[congr]def ab6{α:Type}{F:α->Prop}{K:α}:JN F K=JN F K:=rfl
@[congr]def ab8{α:Type}{m c:Bool}{o o':Option α}{K:Bool -> α->Prop}(hm:m=c)(h:o=o'):B3 m o K=B3 c o' K:=by grind
@[congr]def ab0{α β:Type}{m c:Bool}{o o':Option (α×β)}{K:Bool -> α -> β->Prop}(hm:m=c)(h:o=o'):iW m o K=iW c o' K:=by grind
@[congr]def aa5{m c:Bool}{v d:AV}{A B:Bool->Prop}(hm:m=c)(h:v=d):mS m v A B=mS c d A B:=by grind
@[congr]def ab2{m c:Bool}{v d:Bool}{A B:Bool->Prop}(hm:m=c)(h:v=d):ua m v A B=ua c d A B:=by grind
@[congr]def aa9{m c:Bool}{o o' p p':Option AV}{K:Bool->Prop}(hm:m=c)(h:o=o')(d:p=p'):N9 m o p K=N9 c o' p' K:=by grind
@[congr]def ac3{m c:Bool}{e:Nat}{z d:List AV}{H H':ar}{K:Bool->AV->ar->Prop}(hm:m=c)(h:z=d)(f:H=H'):A3 m e z H K=A3 c e d H' K:=by grind
def B3.elim{α:Type}{m:Bool}{o:Option α}{K:Bool -> α->Prop}(h:B3 m o K):∃a,o=B1 a/\K m a:=by
 cases o with
 |none=>exact NP h
 |some a=>exact⟨a,rfl,h⟩
def iW.elim{α β:Type}{m:Bool}{o:Option (α×β)}{K:Bool -> α -> β->Prop}(h:iW m o K):∃a b,o=B1 (a,b)/\K m a b:=by
 cases o with
 |none=>exact NP h
 |some a=>exact⟨a.1,a.2,rfl,h⟩
def LK.elim{α:Type}{m:Bool}{o:Option α}{K:Bool -> α->Prop}(h:LK m o K):∃a,o=B1 a/\K m a:=by
 cases o with
 |none=>exact NP h
 |some a=>exact⟨a,rfl,h⟩
theorem B3.intro{α:Type}{m:Bool}{o:Option α}{K:Bool -> α->Prop}{a:α}(h:o=B1 a)(hk:K m a):B3 m o K:=by subst h;exact hk
theorem iW.intro{α β:Type}{m:Bool}{o:Option (α×β)}{K:Bool -> α -> β->Prop}{a:α}{b:β}(h:o=B1 (a,b))(hk:K m a b):iW m o K:=by subst h;exact hk
def mS.dec{m:Bool}{p:Prop}[Decidable p]{A B:Bool->Prop}(c:p->A m)(d:¬p->B m):mS m (.bool (decide p)) A B:=by
 by_cases h:p
 .rw [jz h];exact c h
 .rw [js h];exact d h
def mS.cases{m:Bool}{q:Bool}{A B:Bool->Prop}(c:q=B4->A m)(d:q=B2->B m):mS m (.bool q) A B:=by
 cases q with
 |true=>exact c rfl
 |false=>exact d rfl
def ua.dec{m:Bool}{p:Prop}[Decidable p]{A B:Bool->Prop}(c:p->A m)(d:¬p->B m):ua m (decide p) A B:=by
 by_cases h:p
 .rw [jz h];exact c h
 .rw [js h];exact d h
def ua.cases{m:Bool}{q:Bool}{A B:Bool->Prop}(c:q=B4->A m)(d:q=B2->B m):ua m q A B:=by
 cases q with
 |true=>exact c rfl
 |false=>exact d rfl
def mS.elim{m:Bool}{v:AV}{A B:Bool->Prop}(h:mS m v A B):∃q,v=.bool q/\(match q with|true=>A m|false=>B m):=by
 unfold mS at h
 grind
section
variable(M:ak)
structure Kp where
 ah:List Nat
 dg:Bool
 named:List Nat
def dG(K:List Nat)(E L:Env):Env:=A5 (motive:=λ _=>Env) E (λ p _ ih=>cond (bF p.1 K) (p::ih) ih) L
def sL(ds:List Nat)(E:Env):Env:=A5 (motive:=λ _=>Env) [] (λ p _ ih=>cond (bF p.1 ds) ih (p::ih)) E
def lT(L:Env):List Nat:=A5 (motive:=λ _=>List Nat) [] (λ p _ ih=>p.1::ih) L
abbrev KR:=Bool->Env->Env->ar->Prop
def TV(E L R:Env)(t:Nat)(g:Bool)(K:Bool->Env->AV->Prop):Prop :=
 RD (motive:=λ _=>Prop) (RD (motive:=λ _=>Prop) (LK g (lk E t) λ g v=>K g ((t,v)::R) v) (λ v=>K g R v) (lk R t)) (λ v=>K g R v) (lk L t)
def xZ(E L:Env)(l:List bK):Bool->Env->(Bool->Env->List AV->Prop)->Prop:=A5 (motive:=λ _=>Bool->Env->(Bool->Env->List AV->Prop)->Prop) (λ g R K=>K g R [])
 (λ x _ ih g R K=>bK.casesOn x (λ t=>TV E L R t g λ g R v=>ih g R λ g R vs=>K g R (v::vs)) (λ v=>ih g R λ g R vs=>K g R (v::vs)) (λ b=>ih g R λ g R vs=>K g R (.ptr b 0::vs)) (λ f=>ih g R λ g R vs=>K g R (.fn (.func f) [] []::vs))) l
def C3(m:Bool)(f:mD)(vs:List AV)(H:ar)(K:Bool->AV->ar->Prop):Prop:=∃v H',uD M f vs H (.ret v) H'/\K m v H'
def P3(m:Bool)(X:aF->ar->Prop)(f:mD)(vs:List AV)(H:ar)(K:Bool->AV->ar->Prop):Prop:=∃e H',uD M f vs H e H'/\match e with
 | .ret v=>K m v H'
 | .panic c=>X c H'
@[congr]def ab7{M:ak}{m d:Bool}{f f':mD}{vs c:List AV}{H H':ar}{K:Bool->AV->ar->Prop}(hm:m=d)(i:f=f')(h:vs=c)(g:H=H'):C3 M m f vs H K=C3 M d f' c H' K:=by grind
@[congr]def ac2{M:ak}{m d:Bool}{X:aF->ar->Prop}{f f':mD}{vs c:List AV}{H H':ar}{K:Bool->AV->ar->Prop}(hm:m=d)(i:f=f')(h:vs=c)(g:H=H'):P3 M m X f vs H K=P3 M d X f' c H' K:=by grind
def V3(m:Bool)(vs:List AV)(K:Bool->mD->List AV->Prop):Prop:=match vs with
 | .fn (.func g) first cap::args=>K m (.func g) (first++(args++cap))
 | .fn (.yield l) first []::args=>K m (.yield l) (first++args)
 |_=>False
@[congr]def ac1{m d:Bool}{vs c:List AV}{K:Bool->mD->List AV->Prop}(hm:m=d)(h:vs=c):V3 m vs K=V3 d c K:=by grind
def Gy(g:Nat)(first cap args:List AV)(K:Bool->mD->List AV->Prop):V3 B4 (.fn (.func g) first cap::args) K=K B4 (.func g) (first++(args++cap)):=propext jx
def Dq(l:Nat)(first args:List AV)(K:Bool->mD->List AV->Prop):V3 B4 (.fn (.yield l) first []::args) K=K B4 (.yield l) (first++args):=propext jx
def N3(m:Bool)(name:String)(vs:List AV)(K:Bool->mD->List AV->Prop):Prop:=match vs with
 | .iface t v::args=>B3 m (M.kH t name) λ m g=>K m (.func g) (v::args)
 |_=>False
@[congr]def ab9{M:ak}{m d:Bool}{name:String}{vs c:List AV}{K:Bool->mD->List AV->Prop}(hm:m=d)(h:vs=c):N3 M m name vs K=N3 M d name c K:=by grind
def DL(name:String)(t:Nat)(v:AV)(args:List AV)(K:Bool->mD->List AV->Prop):N3 M B4 name (.iface t v::args) K=B3 B4 (M.kH t name) λ m g=>K m (.func g) (v::args):=propext jx
def PX(ps:Option (List Nat))(ks:List Nat)(Q:aG)(E:Env)(D:List aK)(c:aF)(H:ar):Prop:=match ps with
 |some ds=>Q (.panic c) (sL ds (sL ks E)) D H
 |none=>False
def FY(dg:Bool)(ps:Option (List Nat))(L:Env)(Q:aG)(E:Env)(D:List aK)(g:Bool)(f:mD)(vs:List AV)(H:ar)(K:Bool->AV->ar->Prop):Prop :=
 cond dg (P3 M g (PX ps (lT L) Q E D) f vs H K) (C3 M g f vs H K)
def vC(dg:Bool)(dst:Option Nat)(ps:Option (List Nat))(Q:aG)(E:Env)(D:List aK)(L R:Env)(H:ar)(K:KR)(g:Bool)(vs:List AV):fG->Prop
 | .pure f=>B3 g (f vs) λ g v=>K g (lK dst v L) R H
 | .read f=>B3 g (f vs H) λ g v=>K g (lK dst v L) R H
 | .alloc f=>iW g (f vs) λ g o mk=>K g (lK dst (mk H.au) L) R (H.alloc o)
 | .gT f=>iW g (f vs H) λ g v H=>K g (lK dst v L) R H
 | .hJ f=>FY M dg ps L Q E D g (.func f) vs H (λ g v H=>K g (lK dst v L) R H)
 | .ic=>V3 g vs λ g f vs=>FY M dg ps L Q E D g f vs H (λ g v H=>K g (lK dst v L) R H)
 | .invoke name=>N3 M g name vs λ g f vs=>FY M dg ps L Q E D g f vs H (λ g v H=>K g (lK dst v L) R H)
 | .panic=>cond dg (gD vs H (PX ps (lT L) Q E D)) False
 |_=>False
def YM(L E:Env)(d:Nat):Option AV:=RD (motive:=λ _=>Option AV) (lk E d) (λ v=>B1 v) (lk L d)
def T1(dst:Option Nat)(E L R:Env)(H:ar)(K:KR)(g:Bool)(vs:List AV):fG->Prop
 | .read f=>match dst with
  |some d=>N9 g (f vs H) (YM L E d) λ g=>K g L R H
  |none=>False
 |_=>False
def GP(dg:Bool)(s:aN)(Q:aG)(E:Env)(D:List aK)(K:KR):KR:=λ g L R H =>
 xZ E L s.args g R λ g R vs=>match s.ik with
  |false=>vC M dg s.dst s.cI Q E D L R H K g vs s.op
  |true=>T1 s.dst E L R H K g vs s.op
def pQ(dg:Bool)(Q:aG)(E:Env)(D:List aK)(K:KR)(l:List aN):KR:=A5 (motive:=λ _=>KR) K (λ s _ ih=>GP M dg s Q E D ih) l
abbrev Fx:=Option (Nat×Bool)×List aN
def sn:Option (Nat×Bool)->Option (Nat×Bool)->Bool
 |none,B5=>B4
 |some (t,b),B1 (u,c)=>cond (I6 t u) (cond b c (!c)) B2
 |_,_=>B2
def I3(l:List aN):List Fx:=A5 (motive:=λ _=>List Fx) [] (λ s _ ih=>List.casesOn (motive:=λ _=>List Fx) ih [(s.guard,[s])] λ g r=>cond (sn g.1 s.guard) ((g.1,s::g.2)::r) ((s.guard,[s])::g::r)) l
def Qk(o:Option Nat)(t:Nat):Bool:=RD (motive:=λ _=>Bool) B2 (λ d=>I6 d t) o
def vP(t:Nat)(l:List aN):Bool:=A5 (motive:=λ _=>Bool) B4 (λ s _ ih=>cond (Qk s.dst t) B2 (cond s.ik (cond s.dst.isSome ih B2) ih)) l
def CT(n:Nat):Type:=Nat.rec (motive:=λ _=>Type) (ar->Prop) (λ _ T=>AV->T) n
def qZ(n:Nat):(List AV->ar->Prop)->CT n:=Nat.rec (motive:=λ n=>(List AV->ar->Prop)->CT n) (λ f=>f []) (λ _ ih f v=>ih λ l=>f (v::l)) n
def pP(n:Nat):CT n->List AV->ar->Prop:=Nat.rec (motive:=λ n=>CT n->List AV->ar->Prop) (λ k _=>k) (λ _ ih k l=>List.casesOn (motive:=λ _=>ar->Prop) l (λ _=>False) λ v l=>ih (k v) l) n
def bq(l:List aN):List Nat->List Nat:=A5 (motive:=λ _=>List Nat->List Nat) (λ acc=>acc) (λ s _ ih acc=>ih (cond s.ik acc (RD (motive:=λ _=>List Nat) acc (λ d=>d::acc) s.dst))) l
def kZ(ks:List Nat)(L:Env):List AV->Env:=A5 (motive:=λ _=>List AV->Env) (λ _=>L) (λ k _ ih l=>List.casesOn (motive:=λ _=>Env) l L λ v l=>(k,v)::ih l) ks
def rp(n:Nat):Env->List AV:=Nat.rec (motive:=λ _=>Env->List AV) (λ _=>[]) (λ _ ih L=>List.casesOn (motive:=λ _=>List AV) L [] λ p L=>p.2::ih L) n
def rU(n:Nat):List AV:=Nat.rec (motive:=λ _=>List AV) [] (λ _ ih=>.undef::ih) n
def Ti(dg:Bool)(Q:aG)(E:Env)(D:List aK)(x:Fx)(K:KR):KR:=λ g L R H=>match x.1 with
 |none=>pQ M dg Q E D K x.2 g L R H
 |some q=>cond (vP q.1 x.2) (TV E L R q.1 g λ g R v=>JN (α:=Bool->CT (cW (bq x.2 [])))
  (λ k=>B3 g (cP q.2 (B1 v)) λ g w=>ua g w (λ g=>pQ M dg Q E D (λ g L _ H=>pP (cW (bq x.2 [])) (k g) (rp (cW (bq x.2 [])) L) H) x.2 g L R H) (λ g=>pP (cW (bq x.2 [])) (k g) (rU (cW (bq x.2 []))) H))
  (λ g=>qZ (cW (bq x.2 [])) λ vs H=>K g (kZ (bq x.2 []) L vs) R H)) False
def xM(dg:Bool)(Q:aG)(E:Env)(D:List aK)(K:KR)(l:List Fx):KR:=A5 (motive:=λ _=>KR) K (λ x _ ih=>Ti M dg Q E D x ih) l
def rJ(dg:Bool)(Q:aG)(E:Env)(D:List aK)(l:List aN)(g:Bool)(H:ar)(K:KR):Prop:=xM M dg Q E D K (I3 l) g [] [] H
abbrev WX:=Bool->aG->Env->List aK->ar->Prop
def fj(X:WX)(Q:aG):aG:=λ e E D H=>match e with
 | .normal=>X B4 Q E D H
 |e=>Q e E D H
def eS(id:Nat)(Q:aG):aG:=λ e E D H=>match e with
 | .exit id'=>Q (cond (I6 id id') .normal (.exit id')) E D H
 |e=>Q e E D H
def jU(b:ai)(Q:aG):aG:=λ e E D H=>match e with
 | .goto l=>FQ b l=B2/\Q (.goto l) E D H
 |e=>Q e E D H
abbrev Kf:=Nat->Env->List aK->ar->Prop
def LP3(I:Kf)(n:Nat)(Q:aG):aG:=λ e E D H=>match e with
 | .normal=>∃m E',I m E' D H/\SS E' E/\m<n
 |e=>Q e E D H
def da(X:WX)(Q:aG)(E:Env)(D:List aK)(H:ar):Prop :=
 ∃I:Kf,(∃n E0,I n E0 D H/\SS E0 E) /\ ∀n E D H,I n E D H->X B4 (LP3 I n Q) E D H
def iI(ks:List Nat)(ctx:Ctx)(k:Nat)(E:Env)(D:List aK)(H:ar)(Q:aG)(v:AV):Prop :=
 ∀tm up,fY ks E tm->Jz M ctx k ⟨tm,D,up,H⟩ (λ e st=>st.up=up/\st.tm=tm/\Q e E st.aY st.H) v
def OV(E:Env)(x:bK)(g:Bool)(K:Bool->AV->Prop):Prop:=match x with
 | .tmp t=>LK g (lk E t) K
 | .const v=>K g v
 | .eG b=>K g (.ptr b 0)
 | .func f=>K g (.fn (.func f) [] [])
def CV(E L R:Env)(x:bK)(g:Bool)(K:Bool->AV->Prop):Prop:=match x with
 | .tmp t=>TV E L R t g λ g _ v=>K g v
 | .const v=>K g v
 | .eG b=>K g (.ptr b 0)
 | .func f=>K g (.fn (.func f) [] [])
def W3(ctx:Ctx)(K:Kp):ai->Bool->aG->Env->List aK->ar->Prop
 | .skip,g,Q,E,D,H=>rD g Q .normal E D H
 | .label _,g,Q,E,D,H=>rD g Q .normal E D H
 | .exit id,g,Q,E,D,H=>rD g Q (.exit id) E D H
 | .goto l,g,Q,E,D,H=>rD g Q (.goto l) E D H
 | .ret,g,Q,E,D,H=>rD g Q .ret E D H
 | .stuck,_,_,_,_,_=>False
 | .region l,g,Q,E,D,H=>rJ M K.dg Q E D l g H λ g L _ H=>rD g Q .normal (dG K.ah E L) D H
 | .seq a b,g,Q,E,D,H=>match a,b with
  | .region l,.cond c x y=>rJ M K.dg Q E D l g H λ g L R H=>CV E L R c g λ g v=>mS g v (λ g=>W3 ctx K x g Q (dG K.ah E L) D H) (λ g=>W3 ctx K y g Q (dG K.ah E L) D H)
  | .region l,.seq (.cond c x y) r=>rJ M K.dg Q E D l g H λ g L R H=>CV E L R c g λ g v=>mS g v (λ g=>W3 ctx K x g (fj (W3 ctx K r) Q) (dG K.ah E L) D H) (λ g=>W3 ctx K y g (fj (W3 ctx K r) Q) (dG K.ah E L) D H)
  | .region l,b=>rJ M K.dg Q E D l g H λ g L _ H=>W3 ctx K b g Q (dG K.ah E L) D H
  |a,b=>W3 ctx K a g (fj (W3 ctx K b) Q) E D H
 | .cond c x y,g,Q,E,D,H=>OV E c g λ g v=>mS g v (λ g=>W3 ctx K x g Q E D H) (λ g=>W3 ctx K y g Q E D H)
 | .block id b,g,Q,E,D,H=>W3 ctx K b g (eS id Q) E D H
 | .scope b,g,Q,E,D,H=>W3 ctx K b g (jU b Q) E D H
 | .loop (B1 _) _,_,_,_,_,_=>False
 | .loop B5 b,g,Q,E,D,H=>da (W3 ctx K b) Q E D H
 | .rangeFunc f k,g,Q,E,D,H=>OV E f g λ g v=>iI M K.ah ctx k E D H Q v
end
structure lV(E L R:Env)(tm:T AV):Prop where
 l:∀t v,lk L t=B1 v->tm.get t=B1 v
 r:∀t v,lk L t=B5->lk R t=B1 v->tm.get t=B1 v
 e:∀t v,lk L t=B5->lk E t=B1 v->tm.get t=B1 v
def lV.first{ks:List Nat}{E:Env}{tm:T AV}(h:fY ks E tm):lV E [] [] tm:=⟨λ _ _ h=>(by cases h),λ _ _ _ h=>(by cases h),λ t v _ c=>(h t v c).1⟩
theorem lV.put{E L R:Env}{tm:T AV}(h:lV E L R tm)(dst:Option Nat)(v:AV):lV E (lK dst v L) R (eD dst v tm):=by
 cases dst with
 |none=>exact h
 |some d =>
  show lV E ((d,v)::L) R (tm.set d v);refine⟨λ t w hw=>?_,λ t w hn hw=>?_,λ t w hn hw=>?_⟩
  .rw [wP]at hw;rw[T.aJ];split at hw
   .grind
   .rename_i e;rw[qv e];exact h.l t w hw
  .rw [wP]at hn;rw[T.aJ];split at hn
   .cases hn
   .rename_i e;rw[qv e];exact h.r t w hn hw
  .rw [wP]at hn;rw[T.aJ];split at hn
   .cases hn
   .rename_i e;rw[qv e];exact h.e t w hn hw
def TV.elim{E L R:Env}{t:Nat}{g:Bool}{K:Bool->Env->AV->Prop}{tm:T AV}(hr:lV E L R tm)(h:TV E L R t g K):∃v d,tm.get t=B1 v/\lV E L d tm/\K g d v:=by
 unfold TV at h;cases hl:lk L t with
 |some v=>rw[hl]at h;exact⟨v,R,hr.l t v hl,hr,h⟩
 |none =>
  rw[hl]at h;cases c:lk R t with
  |some v=>rw[c]at h;exact⟨v,R,hr.r t v hl c,hr,h⟩
  |none =>
   rw[c]at h;have⟨v,f,h⟩:=LK.elim h;refine⟨v,_,hr.e t v hl f,⟨hr.l,λ u w hn hw=>?_,hr.e⟩,h⟩;rw[wP]at hw;split at hw
   .rename_i e;subst e;cases hw;exact hr.e t v hl f
   .exact hr.r u w hn hw
def ND{tm:T AV}:∀{l:List bK}{vs:List AV}{K:List AV->Prop},mE tm l=B1 vs->K vs->qE tm l K
 |[],vs,K,h,hk=>by cases h;exact hk
 |x::xs,vs,K,h,hk=>by
  simp only[mE,qj]at h;have⟨v,d,ws,f,g⟩:=h;cases g;cases x with
  |tmp t=>exact bO.intro (m:=aH) d (ND f hk)
  |const c=>injection d with d;subst d;exact ND (K:=λ vs=>K (c::vs)) f hk
  |eG c=>cases d;exact ND (K:=λ vs=>K (_::vs)) f hk
  |func c=>cases d;exact ND (K:=λ vs=>K (_::vs)) f hk
def xZ.elim{E L:Env}{tm:T AV}{g:Bool}:∀{l:List bK}{R:Env}{K:Bool->Env->List AV->Prop},lV E L R tm->xZ E L l g R K -> ∃vs j,mE tm l=B1 vs/\lV E L j tm/\K g j vs
 |[],R,K,hr,h=>⟨[],R,rfl,hr,h⟩
 | .tmp t::xs,R,K,hr,h=>by
  have⟨v,o,m,i,h⟩:=TV.elim hr (show TV E L R t g (λ g R v=>xZ E L xs g R λ g R vs=>K g R (v::vs))from h);have⟨vs,d,f,c,h⟩:=xZ.elim i h;exact⟨v::vs,d,by simp[mE,rO,m,f],c,h⟩
 | .const v::xs,R,K,hr,h=>by
  have⟨vs,d,f,c,h⟩:=xZ.elim (l:=xs) hr h;exact⟨v::vs,d,by simp[mE,rO,f],c,h⟩
 | .eG v::xs,R,K,hr,h=>by
  have⟨vs,d,f,c,h⟩:=xZ.elim (l:=xs) hr h;exact⟨_,d,by simp[mE,rO,f],c,h⟩
 | .func v::xs,R,K,hr,h=>by
  have⟨vs,d,f,c,h⟩:=xZ.elim (l:=xs) hr h;exact⟨_,d,by simp[mE,rO,f],c,h⟩
def Tz(ds:List Nat):∀(E:Env)(t:Nat),lk (sL ds E) t=if bF t ds then B5 else lk E t
 |[],t=>by simp[sL,Cr]
 |(k,v)::r,t=>by
  show lk (cond (bF k ds) (sL ds r) ((k,v)::sL ds r)) t=_;cases hm:bF k ds with
  |true =>
   rw[xu,Tz ds r,wP]
   grind
  |false =>
   rw[zo,wP,Tz ds r,wP]
   grind
def sM:∀(L:Env)(t:Nat),bF t (lT L)=B2->lk L t=B5
 |[],t,_=>rfl
 |(k,v)::r,t,h=>by
  have h:cond (I6 k t) B4 (bF t (lT r))=false:=h;rw[wP];cases hb:I6 k t with
  |true=>grind
  |false=>rw[hb,zo]at h;rw[qv (Nat.ne_of_beq_eq_false hb)];exact sM r t h
def B_{t:Nat}:∀{l:List Nat},t∈l->bF t l=B4
 |x::r,h=>by
  show cond (I6 x t) B4 (bF t r)=B4;cases hb:I6 x t with
  |true=>rfl
  |false =>
   rw[zo];rcases j7.1 h with e|h
   .simp_all
   .exact B_ h
def ZY:∀(ds:List Nat)(tm:T AV)(t:Nat),t∉ds->(forget ds tm).get t=tm.get t
 |[],tm,t,_=>rfl
 |d::ds,tm,t,h=>by
  show(forget ds (tm.put d B5)).get t=_;rw[ZY ds _ t (by grind),T.kA,qv (λ e=>h (by rw[e];exact J2 ..))]
def QQ(ks:List Nat)(Q:aG)(up:Option aF):cJ:=λ e st=>st.up=up /\ ∃E',fY ks E' st.tm/\Q e E' st.aY st.H
section
variable{M:ak}{ctx:Ctx}{dg:Bool}{Q:aG}{E:Env}{D:List aK}{up:Option aF}
theorem PX.JW{Z:cJ}(hp:∀c tm H g,(∀t v,lk g t=B1 v->tm.get t=B1 v/\lk E t=B1 v)->Q (.panic c) g D H->Z (.panic c) ⟨tm,D,up,H⟩){f:Option (List Nat)}{L R:Env}{tm:T AV}(hr:lV E L R tm){c:aF}{H:ar}(h:PX f (lT L) Q E D c H):AK f tm D up Z c H:=by
 cases f with
 |none=>exact h
 |some ds =>
  refine hp _ _ _ _ (λ t v d=>?_) h;rw[Tz,Tz]at d;split at d
  .cases d
  .rename_i i;split at d
   .cases d
   .rename_i j;rw[ZY ds tm t (λ q=>i (B_ q))];exact⟨hr.e t v (sM L t (by simpa using j)) d,d⟩
theorem FY.B7{Z:cJ}(hp:∀c tm H j,(∀t v,lk j t=B1 v->tm.get t=B1 v/\lk E t=B1 v)->Q (.panic c) j D H->Z (.panic c) ⟨tm,D,up,H⟩){i:Option (List Nat)}{L R:Env}{tm:T AV}(hr:lV E L R tm){g:Bool}{f:mD}{vs:List AV}{H:ar}{K:Bool->AV->ar->Prop}{K':AV->ar->Prop}
 (h:FY M dg i L Q E D g f vs H K) (hk:∀v H,K g v H->K' v H):nH M aH f vs H K' (AK i tm D up Z):=by
 cases dg with
 |false =>
  have⟨v,H',d,l⟩:=(show C3 M g f vs H K from h)
  exact⟨_,H',d,hk _ _ l⟩
 |true =>
  have⟨e,H',d,l⟩:=(show P3 M g (PX i (lT L) Q E D) f vs H K from h)
  refine⟨_,H',d,?_⟩
  grind [PX.JW]
def GP.body{Z:cJ}(hp:∀c tm H x,(∀t v,lk x t=B1 v->tm.get t=B1 v/\lk E t=B1 v)->Q (.panic c) x D H->Z (.panic c) ⟨tm,D,up,H⟩){s:aN}{K:KR}{g:Bool}{L R R0:Env}{tm:T AV}{H:ar}(hr:lV E L R tm)(r:lV E L R0 tm)(h:GP M dg s Q E D K g L R H){KK:St->Prop}
 (C:∀j y i H',(s.ik=B4/\j=L/\i=tm \/ ∃v,s.ik=B2/\j=lK s.dst v L/\i=eD s.dst v tm)->lV E j y i->lV E j R0 i->K g j y H'->KK ⟨i,D,up,H'⟩) :
 match s.ik with
 |false=>qE tm s.args λ vs=>pT M ctx s.dst s.cI ⟨tm,D,up,H⟩ Z KK vs s.op
 |true=>qE tm s.args λ vs=>Ra s.dst ⟨tm,D,up,H⟩ vs s.op/\KK ⟨tm,D,up,H⟩:=by
 have⟨ik,dst,guard,args,op,u⟩:=s;have⟨vs,p,z,q,h⟩:=xZ.elim hr h;cases ik with
 |true =>
  refine ND z ?_;have h:T1 dst E L p H K g vs op:=h;cases op with
  |read f =>
   cases dst with
   |none=>exact h.elim
   |some d =>
    have h:N9 g (f vs H) (YM L E d) (λ g=>K g L p H):=h;have⟨⟨v,e1,e2⟩,h⟩:=h;refine⟨?_,(by grind)⟩;refine bO.intro (m:=aH) e1 (bO.intro (m:=aH) (a:=v) ?_ rfl);unfold YM at e2;cases hl:lk L d with
    |some w=>rw[hl]at e2;injection e2 with e2;subst e2;exact hr.l d w hl
    |none=>rw[hl]at e2;exact hr.e d v hl e2
  |_=>exact h.elim
 |false =>
  have put:∀v H',K g (lK dst v L) p H'->KK ⟨eD dst v tm,D,up,H'⟩:=λ v H' hk=>C _ p _ H' (by grind) (q.put dst v) (r.put dst v) hk;refine ND z ?_;have h:vC M dg dst u Q E D L p H K g vs op:=h;cases op with
  |pure f=>simp only[vC]at h;have⟨v,e,h⟩:=B3.elim h;exact bO.intro (m:=aH) e (put _ _ h)
  |read f=>simp only[vC]at h;have⟨v,e,h⟩:=B3.elim h;exact bO.intro (m:=aH) e (put _ _ h)
  |alloc f=>simp only[vC]at h;simp only[pT];have⟨o,mk,e,h⟩:=iW.elim h;exact iL.intro (m:=aH) e (put _ _ h)
  |gT f=>simp only[vC]at h;simp only[pT];have⟨v,H',e,h⟩:=iW.elim h;exact iL.intro (m:=aH) e (put _ _ h)
  |hJ f=>exact FY.B7 hp q h λ v H' hk=>put v H' hk
  |ic =>
   simp only[vC,V3]at h
   grind [pT,M5,FY.B7]
  |invoke n =>
   simp only[vC,N3]at h;simp only[pT,NN];split at h
   .have ⟨f,e,h⟩:=B3.elim h;exact bO.intro (m:=aH) e ((by grind [FY.B7]))
   grind
  |recover=>exact NP h
  |defer=>exact NP h
  |panic =>
   cases dg with
   |false=>exact NP h
   |true =>
    have h:gD vs H (PX u (lT L) Q E D):=h;show gD vs H (AK u tm D up Z);unfold gD at h⊢
    grind [PX.JW]
def NT(g:Option (Nat×Bool))(l:List aN):Prop:=∀s∈l,s.guard=g
def pQ.free{Z:cJ}(hp:∀c tm H f,(∀t v,lk f t=B1 v->tm.get t=B1 v/\lk E t=B1 v)->Q (.panic c) f D H->Z (.panic c) ⟨tm,D,up,H⟩){K:KR}{g:Bool}{R0:Env}{rest:List aN}(i:∀L R tm H,lV E L R tm->lV E L R0 tm->K g L R H->oq M ctx rest ⟨tm,D,up,H⟩ Z) :
 ∀{l:List aN}{L R:Env}{tm:T AV}{H:ar},NT B5 l->lV E L R tm->lV E L R0 tm->pQ M dg Q E D K l g L R H->oq M ctx (l++rest) ⟨tm,D,up,H⟩ Z
 |[],L,R,tm,H,_,hr,hr0,h=>i _ _ _ _ hr hr0 h
 |s::l,L,R,tm,H,hg,hr,hr0,h=>by
  rw[I7,X0];have hs:s.guard=none:=hg s (J2 ..);have:=GP.body hp (ctx:=ctx) (up:=up) (KK:=λ d=>oq M ctx (l++rest) d Z) hr hr0 (show GP M dg s Q E D (pQ M dg Q E D K l) g L R H from h)
   λ r u q H' _ m o p=>pQ.free hp i (λ x j=>hg x (List.mem_cons_of_mem _ j)) m o p
  have⟨ik,dst,guard,args,op,w⟩:=s;subst hs;cases ik<;>exact this
theorem XO:∀(n:Nat)(f:List AV->ar->Prop)(l:List AV)(H:ar),l.length=n->pP n (qZ n f) l H=f l H
 |0,f,[],H,_=>rfl
 |n+1,f,v::l,H,h=>XO n (λ l=>f (v::l)) l H (by simpa using h)
 |0,f,_::_,H,h=>by cases h
 |n+1,f,[],H,h=>by cases h
def Ez{α:Type}(l:List α):cW l=l.length:=by
 induction l with
 |nil=>rfl
 |cons x l ih=>grind [cW]
theorem xgu:∀(ks:List Nat)(L:Env)(vs:List AV),vs.length=ks.length->rp ks.length (kZ ks L vs)=vs
 |[],L,[],_=>rfl
 |k::ks,L,v::vs,h=>by
  show v::rp ks.length (kZ ks L vs)=_;rw[xgu ks L vs (by simpa using h)]
 |[],L,_::_,h=>by cases h
 |_::_,L,[],h=>by cases h
def A_:∀n,(rU n).length=n
 |0=>rfl
 |n+1=>by show(rU n).length+1=_;rw[A_ n]
def pQ.under{Z:cJ}(hp:∀c tm H u,(∀t v,lk u t=B1 v->tm.get t=B1 v/\lk E t=B1 v)->Q (.panic c) u D H->Z (.panic c) ⟨tm,D,up,H⟩){K:KR}{g:Bool}{R0:Env}{rest:List aN}{t:Nat}{b:Bool}{v:AV}(hw:cP b (B1 v)=B1 B4){kf:List Nat}{L0:Env}(y:∀vs R tm H,vs.length=kf.length->lV E (kZ kf L0 vs) R tm->lV E (kZ kf L0 vs) R0 tm->K g (kZ kf L0 vs) R H->oq M ctx rest ⟨tm,D,up,H⟩ Z) :
 ∀{l:List aN}{acc:List Nat}{us:List AV}{L R:Env}{tm:T AV}{H:ar},bq l acc=kf->us.length=acc.length->L=kZ acc L0 us->NT (B1 (t,b)) l->vP t l=B4->tm.get t=B1 v->lV E L R tm->lV E L R0 tm->pQ M dg Q E D K l g L R H->oq M ctx (l++rest) ⟨tm,D,up,H⟩ Z
 |[],acc,us,L,R,tm,H,e1,e2,e3,_,_,_,hr,hr0,h=>by
  have e1:acc=kf:=e1;subst e1;subst e3;exact y _ _ _ _ e2 hr hr0 h
 |s::l,acc,us,L,R,tm,H,e1,e2,e3,hg,ho,ht,hr,hr0,h=>by
  rw[I7,X0];have hs:s.guard=B1 (t,b):=hg s (J2 ..);have ho:cond (Qk s.dst t) B2 (cond s.ik (cond s.dst.isSome (vP t l) B2) (vP t l))=true:=ho;have o:Qk s.dst t=false:=by grind
  rw[o,zo]at ho;have q:vP t l=true:=by
   grind
  have:=GP.body hp (ctx:=ctx) (up:=up) (KK:=λ r=>oq M ctx (l++rest) r Z) hr hr0 (show GP M dg s Q E D (pQ M dg Q E D K l) g L R H from h)
   λ F U S H' C J N O=>by
    have e1:bq l (cond s.ik acc (RD (motive:=λ _=>List Nat) acc (λ d=>d::acc) s.dst))=kf:=e1;obtain⟨f,i,j⟩:∃f,f.length=(cond s.ik acc (RD (motive:=λ _=>List Nat) acc (λ d=>d::acc) s.dst)).length/\F=kZ (cond s.ik acc (RD (motive:=λ _=>List Nat) acc (λ d=>d::acc) s.dst)) L0 f:=by
     rcases C with⟨z,rfl,_⟩|⟨w,z,rfl,_⟩
     .grind
     .rw [z];cases s.dst with
      |none=>exact⟨us,e2,e3⟩
      |some d=>exact⟨w::us,by simpa using e2,by rw[e3];rfl⟩
    exact pQ.under hp hw y e1 i j (λ x G=>hg x (List.mem_cons_of_mem _ G)) q (by
     rcases C with⟨_,_,rfl⟩|⟨w,_,_,rfl⟩
     .exact ht
     .cases p:s.dst with
      |none=>exact ht
      |some d =>
       rw[p]at o;show(tm.set d w).get t=_;rw[T.aJ,qv (Nat.ne_of_beq_eq_false o)];exact ht) J N O
  have⟨ik,dst,guard,args,op,V⟩:=s;subst hs;have e:cP b (tm.get t)=B1 true:=by grind
  cases ik with
  |false=>exact bO.intro (m:=aH) e this
  |true=>exact bO.intro (m:=aH) e this
def pQ.over{Z:cJ}{R0:Env}{rest:List aN}{t:Nat}{b:Bool}{v:AV}(hw:cP b (B1 v)=B1 B2){kf:List Nat}{L0:Env}{H:ar}(j:∀tm,lV E (kZ kf L0 (rU kf.length)) R0 tm->oq M ctx rest ⟨tm,D,up,H⟩ Z) :
 ∀{l:List aN}{acc:List Nat}{tm:T AV},bq l acc=kf->NT (B1 (t,b)) l->vP t l=B4->tm.get t=B1 v->lV E (kZ acc L0 (rU acc.length)) R0 tm->oq M ctx (l++rest) ⟨tm,D,up,H⟩ Z
 |[],acc,tm,e1,_,_,_,hr0=>by
  have e1:acc=kf:=e1
  grind
 |s::l,acc,tm,e1,hg,ho,ht,hr0=>by
  rw[I7,X0];have hs:s.guard=B1 (t,b):=hg s (J2 ..);have ho:cond (Qk s.dst t) B2 (cond s.ik (cond s.dst.isSome (vP t l) B2) (vP t l))=true:=ho;have i:Qk s.dst t=false:=by grind
  rw[i,zo]at ho;have e:cP b (tm.get t)=B1 false:=by grind
  have g:NT (B1 (t,b)) l:=λ x o=>hg x (List.mem_cons_of_mem _ o);have e1:bq l (cond s.ik acc (RD (motive:=λ _=>List Nat) acc (λ d=>d::acc) s.dst))=kf:=e1;cases h:s.ik with
  |true =>
   rw[h]at ho e1;cases f:s.dst.isSome with
   |false=>grind
   |true =>
    rw[f]at ho;have:=pQ.over hw j e1 g ho ht hr0;have⟨ik,dst,guard,args,op,p⟩:=s;subst hs;subst h;exact bO.intro (m:=aH) e ⟨f,this⟩
  |false =>
   rw[h]at ho e1;have:=pQ.over hw j (tm:=eD s.dst .undef tm) e1 g ho (by
    cases c:s.dst with
     |none=>exact ht
     |some d =>
      rw[c]at i;show(tm.set d _).get t=_;rw[T.aJ,qv (Nat.ne_of_beq_eq_false i)];exact ht) (by
    have:=hr0.put s.dst .undef;cases c:s.dst with
     |none=>rw[c]at this;exact this
     |some d=>rw[c]at this;exact this)
   have⟨ik,dst,guard,args,op,p⟩:=s;subst hs;subst h;exact bO.intro (m:=aH) e this
theorem D6{a b:Option (Nat×Bool)}(h:sn a b=B4):a=b:=by
 cases a with
 |none=>cases b with
  |none=>rfl
  |some _=>cases h
 |some p=>cases b with
  |none=>cases h
  |some q =>
   have⟨t,x⟩:=p;have⟨u,y⟩:=q;have h:cond (I6 t u) (cond x y (!y)) B2=true:=h
   grind [KZ]
def Dl:∀(l:List aN),(I3 l).flatMap (·.2)=l /\ ∀x∈I3 l,NT x.1 x.2
 |[]=>⟨rfl,λ x c=>by cases c⟩
 |s::l=>by
  have⟨d,h⟩:=Dl l;have e:I3 (s::l)=List.casesOn (motive:=λ _=>List Fx) (I3 l) [(s.guard,[s])] λ g r=>cond (sn g.1 s.guard) ((g.1,s::g.2)::r) ((s.guard,[s])::g::r):=rfl;rw[e];cases hg:I3 l with
  |nil =>
   rw[hg]at d;exact⟨by simpa using d,λ x c=>by simp at c;subst c;intro y f;grind⟩
  |cons g r =>
   rw[hg]at d h;show(cond (sn g.1 s.guard) ((g.1,s::g.2)::r) ((s.guard,[s])::g::r)).flatMap _=_ /\ ∀x∈cond (sn g.1 s.guard) ((g.1,s::g.2)::r) ((s.guard,[s])::g::r),_;cases hs:sn g.1 s.guard with
   |true =>
    refine⟨by simpa using d,λ x c=>?_⟩;rcases j7.1 c with rfl|c
    .intro y f;rcases j7.1 f with rfl|f
     .grind [D6]
     .exact h g (J2 ..) y f
    grind
   |false =>
    refine⟨by simpa using d,λ x c=>?_⟩;rcases j7.1 c with rfl|c
    .intro y f;grind
    grind
def xM.Pn{Z:cJ}(hp:∀c tm H j,(∀t v,lk j t=B1 v->tm.get t=B1 v/\lk E t=B1 v)->Q (.panic c) j D H->Z (.panic c) ⟨tm,D,up,H⟩){K:KR}{g:Bool}(m:∀L R tm H,lV E L R tm->K g L R H->Z .normal ⟨tm,D,up,H⟩):∀{gs:List Fx}{L R:Env}{tm:T AV}{H:ar},(∀x∈gs,NT x.1 x.2)->lV E L R tm->xM M dg Q E D K gs g L R H ->
 oq M ctx (gs.flatMap (·.2)) ⟨tm,D,up,H⟩ Z
 |[],L,R,tm,H,_,hr,h=>m _ _ _ _ hr h
 |x::gs,L,R,tm,H,hg,hr,h=>by
  rw[j9];have r:∀L R tm H,lV E L R tm->xM M dg Q E D K gs g L R H->oq M ctx (gs.flatMap (·.2)) ⟨tm,D,up,H⟩ Z:=λ L R tm H hr h=>xM.Pn hp m (by grind) hr h;have i:=hg x (J2 ..);have⟨q,l⟩:=x;cases q with
  |none=>exact pQ.free hp (R0:=R) (by grind) i hr hr (show pQ M dg Q E D (xM M dg Q E D K gs) l g L R H from h)
  |some q =>
   have⟨t,b⟩:=q;cases ho:vP t l with
   |false =>
    have h:cond (vP t l) _ False:=h
    grind
   |true =>
    have h:cond (vP t l) _ False:=h;rw[ho,xu]at h;have⟨v,f,o,d,h⟩:=TV.elim hr h;have kl:cW (bq l [])=(bq l []).length:=Ez _;have h:B3 g (cP b (B1 v)) λ g w=>ua g w (λ g=>pQ M dg Q E D (λ g p _ H=>pP (cW (bq l [])) (qZ (cW (bq l [])) λ vs H=>xM M dg Q E D K gs g (kZ (bq l []) L vs) f H) (rp (cW (bq l [])) p) H) l g L f H)
     (λ g=>pP (cW (bq l [])) (qZ (cW (bq l [])) λ vs H=>xM M dg Q E D K gs g (kZ (bq l []) L vs) f H) (rU (cW (bq l []))) H):=h
    have⟨w,hw,h⟩:=B3.elim h;cases w with
    |true =>
     refine pQ.under hp (R0:=f) hw (kf:=bq l []) (L0:=L) (λ vs R tm H q u s y=>?_) (acc:=[]) (us:=[]) rfl rfl rfl i ho o d d h
     grind [xgu,XO]
    |false =>
     have h:pP (cW (bq l [])) (qZ (cW (bq l [])) λ vs H=>xM M dg Q E D K gs g (kZ (bq l []) L vs) f H) (rU (cW (bq l []))) H:=h;rw[kl,XO _ _ _ _ (A_ _)]at h;exact pQ.over hw (kf:=bq l []) (L0:=L) (by grind) (acc:=[]) rfl i ho o d
def rJ.Pn{Z:cJ}(hp:∀c tm H d,(∀t v,lk d t=B1 v->tm.get t=B1 v/\lk E t=B1 v)->Q (.panic c) d D H->Z (.panic c) ⟨tm,D,up,H⟩){l:List aN}{g:Bool}{H:ar}{K:KR}{tm:T AV}{ks:List Nat}(he:fY ks E tm)(h:rJ M dg Q E D l g H K)(i:∀L R tm H,lV E L R tm->K g L R H->Z .normal ⟨tm,D,up,H⟩):oq M ctx l ⟨tm,D,up,H⟩ Z:=by
 have⟨j,f⟩:=Dl l;have:=xM.Pn hp (ctx:=ctx) i f (lV.first he) h
 grind
end
end
end Go.Am
namespace Go.Am
noncomputable section
variable{M:ak}{ctx:Ctx}{K:Kp}
def Vj(ks:List Nat)(E:Env):∀(L:Env)(t:Nat)(v:AV),bF t ks=B4->lk (dG ks E L) t=B1 v->lk L t=B1 v\/lk L t=B5/\lk E t=B1 v
 |[],t,v,_,h=>.inr ⟨rfl,h⟩
 |(k,w)::r,t,v,ht,h=>by
  have h:lk (cond (bF k ks) ((k,w)::dG ks E r) (dG ks E r)) t=B1 v:=h;rw[wP];cases hm:bF k ks with
  |true =>
   rw[hm,xu,wP]at h;split at h
   .grind
   .rename_i e;rw[qv e];exact Vj ks E r t v ht h
  |false =>
   rw[hm,zo]at h
   by_cases e:k=t
   .grind
   .rw [qv e];exact Vj ks E r t v ht h
def ZD(ks:List Nat)(E:Env)(c:∀t v,lk E t=B1 v->bF t ks=B4):∀(L:Env)(t:Nat)(v:AV),lk (dG ks E L) t=B1 v->bF t ks=B4
 |[],t,v,h=>c t v h
 |(k,w)::r,t,v,h=>by
  have h:lk (cond (bF k ks) ((k,w)::dG ks E r) (dG ks E r)) t=B1 v:=h;cases hm:bF k ks with
  |true =>
   rw[hm,xu,wP]at h;split at h
   .grind
   .exact ZD ks E c r t v h
  |false=>rw[hm,zo]at h;exact ZD ks E c r t v h
def lV.ah{E L R:Env}{tm:T AV}(h:lV E L R tm){ks:List Nat}(d:∀t v,lk E t=B1 v->bF t ks=B4):fY ks (dG ks E L) tm:=λ t v c=>by
 have hm:=ZD ks E d L t v c;refine⟨?_,hm⟩;rcases Vj ks E L t v hm c with q|⟨f,g⟩
 .exact h.l t v q
 .exact h.e t v f g
def fY.keys{ks:List Nat}{E:Env}{tm:T AV}(h:fY ks E tm):∀t v,lk E t=B1 v->bF t ks=true:=λ t v c=>(h t v c).2
def fY.dg{ks:List Nat}{E d:Env}{tm c:T AV}(h:fY ks E tm)(f:∀t v,lk d t=B1 v->c.get t=B1 v/\lk E t=B1 v):fY ks d c:=λ t v g=>⟨(f t v g).1,(h t v (f t v g).2).2⟩
def TV.cv{E L R:Env}{x:bK}{g:Bool}{P:Bool->AV->Prop}{tm:T AV}(hr:lV E L R tm)(h:CV E L R x g P):∃v,rO tm x=B1 v/\P g v:=by
 cases x with
 |tmp t=>have⟨v,_,c,_,d⟩:=TV.elim hr (show TV E L R t g (λ g _ v=>P g v)from h);exact⟨v,c,d⟩
 |const v=>exact⟨v,rfl,h⟩
 |eG v=>exact⟨_,rfl,h⟩
 |func v=>exact⟨_,rfl,h⟩
def OV.elim{ks:List Nat}{E:Env}{x:bK}{g:Bool}{P:Bool->AV->Prop}{tm:T AV}(hr:fY ks E tm)(h:OV E x g P):∃v,rO tm x=B1 v/\P g v:=by
 cases x with
 |tmp t=>have⟨v,c,d⟩:=LK.elim (show LK g (lk E t) P from h);exact⟨v,(hr t v c).1,d⟩
 |const v=>exact⟨v,rfl,h⟩
 |eG v=>exact⟨_,rfl,h⟩
 |func v=>exact⟨_,rfl,h⟩
def xas{tm:T AV}{x:bK}{v:AV}{P:AV->Prop}(h:rO tm x=B1 v)(hp:P v):FR tm x P:=by
 cases x with
 |tmp t=>exact bO.intro (m:=aH) h hp
 |const c=>cases h;exact hp
 |eG c=>cases h;exact hp
 |func c=>cases h;exact hp
def mS.wp{a b:ai}{g:Bool}{v:AV}{A B:Bool->Prop}{tm:T AV}{c:bK}{st:St}{Q:cJ}(d:rO st.tm c=B1 v)(h:mS g v A B)(ha:A g->WP M ctx a st Q)(hb:B g->WP M ctx b st Q):WP M ctx (.cond c a b) st Q:=by
 obtain⟨q,rfl,h⟩:=h.elim;refine xas d ?_;cases q with
 |true=>exact ha h
 |false=>exact hb h
def fp:ai->Nat
 | .seq a b=>fp a+fp b+1
 | .cond _ a b=>fp a+fp b+1
 | .block _ b=>fp b+1
 | .loop _ b=>fp b+1
 | .scope b=>fp b+1
 |_=>0
def W3.wp:∀(n:Nat)(c:ai),fp c<=n -> ∀{g:Bool}{Q:aG}{E:Env}{D:List aK}{H:ar}{tm:T AV}{up:Option aF},W3 M ctx K c g Q E D H->fY K.ah E tm->WP M ctx c ⟨tm,D,up,H⟩ (QQ K.ah Q up):=by
 intro n
 induction n with
 |zero =>
  intro c hc g Q E D H tm up h he;cases c with
  |skip=>exact⟨rfl,E,he,h⟩
  |label _=>exact⟨rfl,E,he,h⟩
  |exit _=>exact⟨rfl,E,he,h⟩
  |goto _=>exact⟨rfl,E,he,h⟩
  |ret=>exact⟨rfl,E,he,h⟩
  |stuck=>exact NP h
  |region l=>exact rJ.Pn (λ c w H' j p i=>⟨rfl,j,he.dg p,i⟩) he (show rJ M K.dg Q E D l g H _ from h) λ L R tm H hr hk=>⟨rfl,_,hr.ah he.keys,hk⟩
  |rangeFunc f k =>
   have⟨v,s,h⟩:=OV.elim he (show OV E f g _ from h);exact xas s (by
    have:=h tm up he;unfold Jz at this⊢;split
    .rename_i hr;rw[hr]at this;exact RJ this λ e st⟨p,i,o⟩=>⟨p,E,by rw[i];exact he,o⟩
    .rename_i l hr;rw[hr]at this;exact Fg (m:=aH) this λ d q=>RJ q λ e st⟨p,i,o⟩=>⟨p,E,by rw[i];exact he,o⟩)
  |seq _ _=>grind [fp]
  |cond _ _ _=>grind [fp]
  |block _ _=>grind [fp]
  |loop _ _=>grind [fp]
  |scope _=>grind [fp]
 |succ n ih =>
  intro c hc g Q E D H tm up h he;have t:∀{a b:ai}{tm:T AV}{H:ar},fp b<=n->WP M ctx a ⟨tm,D,up,H⟩ (QQ K.ah (fj (W3 M ctx K b) Q) up)->WP M ctx a ⟨tm,D,up,H⟩ (EN (WP M ctx b) (QQ K.ah Q up)):=λ{a b tm H}hb h=>pM h λ e st⟨p,j,i,o⟩=>by
   have⟨w,D',U,H'⟩:=st;subst p;cases e with
   |normal=>exact ih b hb o i
   |exit _=>exact⟨rfl,j,i,o⟩
   |goto _=>exact⟨rfl,j,i,o⟩
   |ret=>exact⟨rfl,j,i,o⟩
   |panic _=>exact⟨rfl,j,i,o⟩
  have z:∀{c:bK}{x y:ai}{E:Env}{tm:T AV}{v:AV}{g:Bool}{Q:aG}{H:ar},fp x<=n->fp y<=n->rO tm c=B1 v->fY K.ah E tm->mS g v (λ g=>W3 M ctx K x g Q E D H) (λ g=>W3 M ctx K y g Q E D H)->WP M ctx (.cond c x y) ⟨tm,D,up,H⟩ (QQ K.ah Q up) :=
   λ{c x y E tm v g Q H}hx hy s he h=>mS.wp (tm:=tm) (st:=⟨tm,D,up,H⟩) s h (by grind) (by grind)
  cases c with
  |seq a b =>
   have O:fp a+fp b<=n:=by grind [fp]
   have gen:W3 M ctx K a g (fj (W3 M ctx K b) Q) E D H->WP M ctx (.seq a b) ⟨tm,D,up,H⟩ (QQ K.ah Q up):=λ h=>t (a:=a) (b:=b) (by omega) (ih a (by omega) h he);have pj:∀(l:List aN)(N:KR),a=.region l->rJ M K.dg Q E D l g H N->(∀L R tm H,lV E L R tm->N g L R H->WP M ctx b ⟨tm,D,up,H⟩ (QQ K.ah Q up))->WP M ctx (.seq a b) ⟨tm,D,up,H⟩ (QQ K.ah Q up):=λ l N e Y hk=>by
    subst e;exact rJ.Pn (Z:=EN (WP M ctx b) (QQ K.ah Q up)) (λ c w H' j p i=>⟨rfl,j,he.dg p,i⟩) he Y hk
   cases a with
   |region l =>
    have plain:(rJ M K.dg Q E D l g H λ g L _ H=>W3 M ctx K b g Q (dG K.ah E L) D H)->WP M ctx (.seq (.region l) b) ⟨tm,D,up,H⟩ (QQ K.ah Q up):=λ h=>pj l _ rfl h λ L R tm H hr hk=>ih b (by omega) hk (hr.ah he.keys);cases b with
    |cond c x y =>
     have S:fp x+fp y+1<=n:=by grind [fp]
     refine pj l _ rfl h λ L R tm H hr hk=>?_;have⟨v,s,hk⟩:=TV.cv hr hk;exact z (by omega) (by omega) s (hr.ah he.keys) hk
    |seq b1 r =>
     cases b1 with
     |cond c x y =>
      have S:fp x+fp y+1+fp r+1<=n:=by grind [fp]
      refine pj l _ rfl h λ L R tm H hr hk=>?_;have⟨v,s,hk⟩:=TV.cv hr hk;exact t (by omega) (z (by omega) (by omega) s (hr.ah he.keys) hk)
     |_=>exact plain h
    |_=>exact plain h
   |_=>exact gen h
  |cond c x y =>
   have O:fp x+fp y<=n:=by grind [fp]
   have⟨v,s,h⟩:=OV.elim he (show OV E c g _ from h)
   grind
  |block id b =>
   have hb:fp b<=n:=by grind [fp]
   exact pM (c:=b) (ih b hb (show W3 M ctx K b g (eS id Q) E D H from h) he) λ e st⟨p,j,i,o⟩=>by cases e<;>exact⟨p,j,i,o⟩
  |scope b =>
   have hb:fp b<=n:=by grind [fp]
   refine pM (c:=b) (ih b hb (show W3 M ctx K b g (jU b Q) E D H from h) he) λ e st⟨p,j,i,o⟩=>?_;cases e with
   |goto l=>exact⟨o.1,p,j,i,o.2⟩
   |normal=>exact⟨p,j,i,o⟩
   |exit _=>exact⟨p,j,i,o⟩
   |ret=>exact⟨p,j,i,o⟩
   |panic _=>exact⟨p,j,i,o⟩
  |loop ah b =>
   have hb:fp b<=n:=by grind [fp]
   cases ah with
   |some _=>exact NP h
   |none =>
    have⟨I,⟨n0,V,h0,hs⟩,u⟩:=(show da (W3 M ctx K b) Q E D H from h)
    refine⟨λ n st=>st.up=up /\ ∃j,fY K.ah j st.tm/\I n j st.aY st.H,⟨n0,rfl,V,hs.sub he,h0⟩,λ n st⟨p,j,i,o⟩=>?_⟩;have⟨w,D',U,H'⟩:=st;subst p;refine pM (c:=b) (ih b hb (u n j D' H' o) i) λ e st⟨C,J,F,G⟩=>?_;cases e with
    |normal=>have⟨m,W,q1,q2,q3⟩:=G;exact⟨m,q3,C,W,q2.sub F,q1⟩
    |exit _=>exact⟨C,J,F,G⟩
    |goto _=>exact⟨C,J,F,G⟩
    |ret=>exact⟨C,J,F,G⟩
    |panic _=>exact⟨C,J,F,G⟩
  |skip=>exact⟨rfl,E,he,h⟩
  |label _=>exact⟨rfl,E,he,h⟩
  |exit _=>exact⟨rfl,E,he,h⟩
  |goto _=>exact⟨rfl,E,he,h⟩
  |ret=>exact⟨rfl,E,he,h⟩
  |stuck=>exact NP h
  |region l=>exact ih _ (xz _) h he
  |rangeFunc f k=>exact ih _ (xz _) h he
def jC(E:Env)(H:ar):List eh->(List AV->Prop)->Prop
 |[],P=>P []
 | .tmp t::rs,P=>LK B4 (lk E t) λ _ v=>jC E H rs λ vs=>P (v::vs)
 | .kK a::rs,P=>LK B4 (lk E a) λ _ v=>B3 B4 (Op.ae [v] H) λ _ v=>jC E H rs λ vs=>P (v::vs)
 | .cR n a::rs,P=>LK B4 (lk E a) λ _ v=>B3 B4 (Op.aq n [v] H) λ _ v=>jC E H rs λ vs=>P (v::vs)
def nZ(M:ak)(rs:List eh)(E:Env)(Q:bG->ar->Prop):List aK->Option aF->ar->Prop
 |[],B5,H=>jC E H rs λ l=>Q (.ret (iV l)) H
 |[],B1 c,H=>Q (.panic c) H
 | .jD b::ds,m,H=>H.get b=B1 (.deferred (B1 []))/\nZ M rs E Q ds m (H.set b (.deferred B5))
 | .fn (.func f) args::ds,m,H=>∃v up' H',jI M f args (B1 (m.getD [])) H (.ret v) (B1 up') H'/\bO aH (nE m up') λ m'=>nZ M rs E Q ds m' H'
 | .fn (.yield _) _::_,_,_=>False
def jC.elim{ks:List Nat}{E:Env}{tm:T AV}(he:fY ks E tm){H:ar}:∀{rs:List eh}{P:List AV->Prop},jC E H rs P -> ∃l,dY H tm rs=B1 l/\P l
 |[],P,h=>⟨[],rfl,h⟩
 | .tmp t::rs,P,h=>by
  have⟨v,c,h⟩:=LK.elim (show LK B4 (lk E t) _ from h);have⟨l,d,h⟩:=jC.elim he h;exact⟨v::l,by rw[IB,(he t v c).1,d];rfl,h⟩
 | .kK t::rs,P,h=>by
  have⟨v,c,h⟩:=LK.elim (show LK B4 (lk E t) _ from h);have⟨w,d,h⟩:=B3.elim h;have⟨l,f,h⟩:=jC.elim he h;exact⟨w::l,by rw[xl5,(he t v c).1,qr,d,qr,f];rfl,h⟩
 | .cR n t::rs,P,h=>by
  have⟨v,c,h⟩:=LK.elim (show LK B4 (lk E t) _ from h);have⟨w,d,h⟩:=B3.elim h;have⟨l,f,h⟩:=jC.elim he h;exact⟨w::l,by rw[xl6,(he t v c).1,qr,d,qr,f];rfl,h⟩
theorem nZ.Tw{ks:List Nat}{E:Env}{tm:T AV}(he:fY ks E tm){rs:List eh}{Q:bG->ar->Prop}:∀{D:List aK}{m:Option aF}{H:ar},nZ M rs E Q D m H->Aj M rs tm Q D m H
 |[],B5,H,h=>by have⟨l,d,g⟩:=jC.elim he h;exact bO.intro (m:=aH) d g
 |[],B1 c,H,h=>h
 | .jD b::ds,m,H,⟨d,g⟩=>⟨d,nZ.Tw he g⟩
 | .fn (.func f) args::ds,m,H,⟨v,up',H',d,g⟩=>⟨v,up',H',d,Fg g λ i h=>nZ.Tw he h⟩
 | .fn (.yield _) _::_,_,_,h=>h
def fh(M:ak)(rs:List eh)(Q:bG->ar->Prop):aG:=λ e E D H=>match e with
 | .normal=>nZ M rs E Q D B5 H
 | .ret=>nZ M rs E Q D B5 H
 | .panic c=>nZ M rs E Q D (B1 c) H
 |_=>False
def Fp(M:ak)(f:Nat)(vs:List AV)(H:ar)(Q:bG->ar->Prop):Prop:=∃e H',CALL M f vs H e H'/\Q e H'
def uI(Q:AV->ar->Prop)(e:bG)(H:ar):Prop:=match e with
 | .ret v=>Q v H
 | .panic _=>False
def zb(M:ak)(f:Nat)(vs:List AV)(H:ar)(Q:AV->ar->Prop):Prop:=Fp M f vs H (uI Q)
def zb.elim{f:Nat}{vs:List AV}{H:ar}{Q:AV->ar->Prop}(h:zb M f vs H Q):∃v H',CALL M f vs H (.ret v) H'/\Q v H':=by
 have⟨e,H',d,c⟩:=h;cases e with
 |ret v=>exact⟨v,H',d,c⟩
 |panic _=>exact c.elim
theorem zb.intro{f:Nat}{vs:List AV}{H:ar}{Q:AV->ar->Prop}{v:AV}{H':ar}(h:CALL M f vs H (.ret v) H')(c:Q v H'):zb M f vs H Q:=⟨_,H',h,c⟩
def zb.mono{f:Nat}{vs:List AV}{H:ar}{Q Q':AV->ar->Prop}(h:zb M f vs H Q)(g:∀v H',Q v H'->Q' v H'):zb M f vs H Q':=by
 have⟨v,H',c,d⟩:=h.elim;exact⟨_,H',c,g _ _ d⟩
def C3.q{m:Bool}{f:Nat}{vs:List AV}{H:ar}{R:AV->ar->Prop}{P:Bool->AV->ar->Prop}(h:zb M f vs H R)(hk:∀v H',R v H'->P m v H'):C3 M m (.func f) vs H P:=by
 have⟨v,H',c,d⟩:=h.elim;exact⟨v,H',c,hk v H' d⟩
def C3.ret{m:Bool}{f:Nat}{vs:List AV}{H:ar}{P:Bool->AV->ar->Prop}{v:AV}{H':ar}(h:CALL M f vs H (.ret v) H')(hk:P m v H'):C3 M m (.func f) vs H P:=⟨v,H',h,hk⟩
def C3.uo{m:Bool}{l:Nat}{vs:List AV}{H:ar}{P:Bool->AV->ar->Prop}{v:AV}{H':ar}(h:sk M l vs H (.ret v) H')(hk:P m v H'):C3 M m (.yield l) vs H P:=⟨v,H',h,hk⟩
def P3.q{m:Bool}{X:aF->ar->Prop}{f:Nat}{vs:List AV}{H:ar}{R:bG->ar->Prop}{P:Bool->AV->ar->Prop}(h:Fp M f vs H R)(hk:∀v H',R (.ret v) H'->P m v H')(i:∀c H',R (.panic c) H'->X c H'):P3 M m X (.func f) vs H P:=by
 have⟨e,H',d,g⟩:=h;refine⟨e,H',d,?_⟩
 grind
def kC:Nat->List AV->Env
 |_,[]=>[]
 |i,v::vs=>(i,v)::kC (i+1) vs
def jP:Nat->Nat->List Nat->Bool
 |_,0,_=>B4
 |i,n+1,ks=>bF i ks && jP (i+1) n ks
def S':∀(vs:List AV)(i t:Nat)(tm:T AV),(jQ i vs tm).get t=if i<=t then(match vs[t-i]? with|some v=>B1 v|none=>tm.get t)else tm.get t
 |[],i,t,tm=>by simp[jQ]
 |v::vs,i,t,tm=>by
  rw[jQ,S' vs (i+1) t,T.aJ]
  grind
def R2:∀(vs:List AV)(i t:Nat)(v:AV),lk (kC i vs) t=B1 v->i<=t/\vs[t-i]? = B1 v
 |[],i,t,v,h=>by cases h
 |w::vs,i,t,v,h=>by
  rw[kC,wP]at h;split at h
  .grind
  .have ⟨c,d⟩:=R2 vs (i+1) t v h
   grind
def xbx:∀(n i:Nat)(ks:List Nat),jP i n ks=B4 -> ∀t,i<=t->t<i+n->bF t ks=B4
 |0,i,ks,_,t,h1,h2=>by omega
 |n+1,i,ks,h,t,h1,h2=>by
  simp only[jP,za]at h
  by_cases e:i=t
  .grind
  .exact xbx n (i+1) ks h.2 t (by omega) (by omega)
def UN{ks:List Nat}{vs:List AV}(h:jP 0 vs.length ks=B4):fY ks (kC 0 vs) (jQ 0 vs .nil):=λ t v d=>by
 have⟨_,c⟩:=R2 vs 0 t v d;rw[Nat.sub_zero]at c;refine⟨by simp_all[S'],xbx _ 0 ks h t (xz _) ?_⟩
 grind
structure Fn3 where
 n:Nat
 F:bW
 K:Kp
def pre:ai->List ai
 | .seq a b=>.seq a b::jT (pre a) (pre b)
 | .cond c a b=>.cond c a b::jT (pre a) (pre b)
 | .block i b=>.block i b::pre b
 | .loop k b=>.loop k b::pre b
 | .scope b=>.scope b::pre b
 |c=>[c]
def part(c:ai)(k:Nat):ai:=RD (motive:=λ _=>ai) .stuck (λ c=>c) (nth (pre c) k)
def dy:ai->Nat
 | .seq a b=>dy a+dy b+1
 | .cond _ a b=>dy a+dy b+1
 | .block _ b=>dy b+1
 | .loop _ b=>dy b+1
 | .scope b=>dy b+1
 |_=>1
def HH:∀(c:ai),(pre c).length=dy c
 | .seq a b=>by simp[pre,dy,pe,HH a,HH b]
 | .cond _ a b=>by simp[pre,dy,pe,HH a,HH b]
 | .block _ b=>by simp[pre,dy,HH b]
 | .loop _ b=>by simp[pre,dy,HH b]
 | .scope b=>by simp[pre,dy,HH b]
 | .skip=>rfl
 | .label _=>rfl
 | .exit _=>rfl
 | .goto _=>rfl
 | .ret=>rfl
 | .stuck=>rfl
 | .region _=>rfl
 | .rangeFunc _ _=>rfl
def V9(c:ai):∃l,pre c=c::l:=by cases c<;>exact⟨_,rfl⟩
def Y2{α:Type}:∀(l:List α)(i:Nat),nth l i=l[i]?
 |[],i=>rfl
 |x::l,0=>rfl
 |x::l,i+1=>by rw[jo,<-Y2 l i];rfl
def Ml:∀(r:ai)(k:Nat)(c:ai),(pre r)[k]? = B1 c -> ∃l,(pre r).drop k=pre c++l:=by
 intro r
 induction r with
 |seq a b iha ihb =>
  intro k c h;cases k with
  |zero=>simp[pre]at h;simp_all
  |succ k =>
   simp only[pre,pe,jo]at h
   grind [pre,pe,G7,jh]
 |cond x a b iha ihb =>
  intro k c h;cases k with
  |zero=>simp[pre]at h;simp_all
  |succ k =>
   simp only[pre,pe,jo]at h
   grind [pre,pe,G7,jh]
 |block i b ih =>
  intro k c h;cases k with
  |zero=>simp[pre]at h;simp_all
  |succ k=>grind [pre]
 |loop i b ih =>
  intro k c h;cases k with
  |zero=>simp[pre]at h;simp_all
  |succ k=>grind [pre]
 |scope b ih =>
  intro k c h;cases k with
  |zero=>simp[pre]at h;simp_all
  |succ k=>grind [pre]
 |_ =>
  intro k c h;cases k with
  |zero=>simp[pre]at h;simp_all
  |succ k=>grind [pre]
def xi{r:ai}{k:Nat}{c:ai}(h:(pre r)[k]? = B1 c):part r k=c:=by
 simp_all[part,Y2]
def um{r:ai}{k:Nat}{c:ai}(h:part r k=c)(i:c≠ .stuck):∀(j:Nat)(d:ai),(pre c)[j]? = B1 d->part r (k+j)=d:=λ j d f=>by
 have g:(pre r)[k]? = B1 c:=by
  unfold part at h;rw[Y2]at h;cases m:(pre r)[k]? with
  |none=>simp_all
  |some x=>simp_all
 have⟨l,hl⟩:=Ml r k c g;refine xi ?_;rw[<-we,hl,yp (qt.1 f).1,f]
def Ey(c:ai):(pre c)[0]? = B1 c:=by have⟨l,h⟩:=V9 c;grind
def Gm{r:ai}{k:Nat}{c a b:ai}(h:part r k=c)(d:c≠ .stuck)(e:∃x l,pre c=x::(pre a++l)):part r (k+1)=a:=by
 have⟨x,l,e⟩:=e;have⟨f,e'⟩:=V9 a;simp_all[um]
def Og{r:ai}{k:Nat}{c a b:ai}(h:part r k=c)(d:c≠ .stuck)(e:∃x,pre c=x::(pre a++pre b)):part r (k+1+dy a)=b:=by
 have⟨x,e⟩:=e;have⟨f,e'⟩:=V9 b;rw[zZ];exact um h d (1+dy a) b (by rw[e,Nat.add_comm,jo,z7 (by rw[HH];exact qm _),HH,Kk,e'];rfl)
def U(M:ak)(ctx:Ctx)(K:Kp)(X:Nat->WX):ai->Nat->WX
 | .skip,_,g,Q,E,D,H=>rD g Q .normal E D H
 | .label _,_,g,Q,E,D,H=>rD g Q .normal E D H
 | .exit id,_,g,Q,E,D,H=>rD g Q (.exit id) E D H
 | .goto l,_,g,Q,E,D,H=>rD g Q (.goto l) E D H
 | .ret,_,g,Q,E,D,H=>rD g Q .ret E D H
 | .stuck,_,_,_,_,_,_=>False
 | .region l,_,g,Q,E,D,H=>rJ M K.dg Q E D l g H λ g L _ H=>rD g Q .normal (dG K.ah E L) D H
 | .seq a b,k,g,Q,E,D,H=>match a,b with
  | .region l,.cond c x y=>rJ M K.dg Q E D l g H λ g L R H=>CV E L R c g λ g v=>mS g v (λ g=>(Ob (motive:=λ _=>WX) (U M ctx K X x (k+3)) (X (k+3)) (bF (k+3) K.named)) g Q (dG K.ah E L) D H) (λ g=>(Ob (motive:=λ _=>WX) (U M ctx K X y (k+3+dy x)) (X (k+3+dy x)) (bF (k+3+dy x) K.named)) g Q (dG K.ah E L) D H)
  | .region l,.seq (.cond c x y) r=>rJ M K.dg Q E D l g H λ g L R H=>CV E L R c g λ g v=>mS g v (λ g=>(Ob (motive:=λ _=>WX) (U M ctx K X x (k+4)) (X (k+4)) (bF (k+4) K.named)) g (fj (Ob (motive:=λ _=>WX) (U M ctx K X r (k+4+dy x+dy y)) (X (k+4+dy x+dy y)) (bF (k+4+dy x+dy y) K.named)) Q) (dG K.ah E L) D H)
   (λ g=>(Ob (motive:=λ _=>WX) (U M ctx K X y (k+4+dy x)) (X (k+4+dy x)) (bF (k+4+dy x) K.named)) g (fj (Ob (motive:=λ _=>WX) (U M ctx K X r (k+4+dy x+dy y)) (X (k+4+dy x+dy y)) (bF (k+4+dy x+dy y) K.named)) Q) (dG K.ah E L) D H)
  | .region l,b=>rJ M K.dg Q E D l g H λ g L _ H=>(Ob (motive:=λ _=>WX) (U M ctx K X b (k+2)) (X (k+2)) (bF (k+2) K.named)) g Q (dG K.ah E L) D H
  |a,b=>(Ob (motive:=λ _=>WX) (U M ctx K X a (k+1)) (X (k+1)) (bF (k+1) K.named)) g (fj (Ob (motive:=λ _=>WX) (U M ctx K X b (k+1+dy a)) (X (k+1+dy a)) (bF (k+1+dy a) K.named)) Q) E D H
 | .cond c x y,k,g,Q,E,D,H=>OV E c g λ g v=>mS g v (λ g=>(Ob (motive:=λ _=>WX) (U M ctx K X x (k+1)) (X (k+1)) (bF (k+1) K.named)) g Q E D H) (λ g=>(Ob (motive:=λ _=>WX) (U M ctx K X y (k+1+dy x)) (X (k+1+dy x)) (bF (k+1+dy x) K.named)) g Q E D H)
 | .block id b,k,g,Q,E,D,H=>(Ob (motive:=λ _=>WX) (U M ctx K X b (k+1)) (X (k+1)) (bF (k+1) K.named)) g (eS id Q) E D H
 | .scope b,k,g,Q,E,D,H=>(Ob (motive:=λ _=>WX) (U M ctx K X b (k+1)) (X (k+1)) (bF (k+1) K.named)) g (jU b Q) E D H
 | .loop (B1 _) _,_,_,_,_,_,_=>False
 | .loop B5 b,k,g,Q,E,D,H=>da (Ob (motive:=λ _=>WX) (U M ctx K X b (k+1)) (X (k+1)) (bF (k+1) K.named)) Q E D H
 | .rangeFunc f n,_,g,Q,E,D,H=>OV E f g λ g v=>iI M K.ah ctx n E D H Q v
def UU(r:ai):∀(n:Nat)(c:ai),dy c<=n -> ∀k,part r k=c->U M ctx K (λ j=>W3 M ctx K (part r j)) c k=W3 M ctx K c:=by
 intro n
 induction n with
 |zero=>intro c p;cases c<;>simp[dy]at p
 |succ n ih =>
  intro c p k hk;have sub:∀(d:ai)(j:Nat),dy d<=n->part r j=d->Ob (motive:=λ _=>WX) (U M ctx K (λ j=>W3 M ctx K (part r j)) d j) (W3 M ctx K (part r j)) (bF j K.named)=W3 M ctx K d:=λ d j t u=>by
   cases bF j K.named with
   |true=>grind
   |false=>grind
  have pl:=@Gm r;have w:=@Og r;cases c with
  |seq a b =>
   have e:pre (.seq a b)=.seq a b::(pre a++pre b):=by simp[pre,pe]
   have ha:=Gm (b:=b) hk (by simp) ⟨_,_,e⟩;have hb:=Og hk (by simp) ⟨_,e⟩;have hs:dy a+dy b<=n:=by grind [dy]
   have gen:(Ob (motive:=λ _=>WX) (U M ctx K (λ j=>W3 M ctx K (part r j)) a (k+1)) (W3 M ctx K (part r (k+1))) (bF (k+1) K.named))=W3 M ctx K a/\(Ob (motive:=λ _=>WX) (U M ctx K (λ j=>W3 M ctx K (part r j)) b (k+1+dy a)) (W3 M ctx K (part r (k+1+dy a))) (bF (k+1+dy a) K.named))=W3 M ctx K b :=
    ⟨sub a _ (by omega) ha,sub b _ (by omega) hb⟩
   cases a with
   |region l =>
    have plain:(Ob (motive:=λ _=>WX) (U M ctx K (λ j=>W3 M ctx K (part r j)) b (k+2)) (W3 M ctx K (part r (k+2))) (bF (k+2) K.named))=W3 M ctx K b:=sub b _ (by omega) hb;cases b with
    |cond c x y =>
     have e2:pre (.cond c x y)=.cond c x y::(pre x++pre y):=by simp[pre,pe]
     have h:=Gm (b:=y) hb (by simp) ⟨_,_,e2⟩;have o:=Og hb (by simp) ⟨_,e2⟩;have m:dy x+dy y+1<=n:=by grind [dy]
     have s1:=sub x (k+3) (by omega) h;have s2:=sub y (k+3+dy x) (by omega) o;funext g Q E D H;simp only[U,W3,s1,s2]
    |seq b1 q =>
     cases b1 with
     |cond c x y =>
      have e1:pre (.seq (.cond c x y) q)=.seq (.cond c x y) q::(pre (.cond c x y)++pre q):=by simp[pre,pe]
      have e2:pre (.cond c x y)=.cond c x y::(pre x++pre y):=by simp[pre,pe]
      have f:=Gm (b:=q) hb (by simp) ⟨_,_,e1⟩;have s:=Og hb (by simp) ⟨_,e1⟩;have h:=Gm (b:=y) f (by simp) ⟨_,_,e2⟩;have o:=Og f (by simp) ⟨_,e2⟩;have m:dy x+dy y+1+dy q+1<=n:=by grind [dy]
      have s1:=sub x (k+4) (by omega) h;have s2:=sub y (k+4+dy x) (by omega) o;have z:=sub q (k+4+dy x+dy y) (by omega) (by rw[<-s];simp only[dy];congr 1;omega);simp_all[U,W3]
     |_=>simp_all[U,W3]
    |_=>simp_all[U,W3]
   |_=>funext g Q E D H;simp only[U,W3]at gen⊢;simp only[gen.1,gen.2]
  |cond c x y =>
   have e2:pre (.cond c x y)=.cond c x y::(pre x++pre y):=by simp[pre,pe]
   have h:=Gm (b:=y) hk (by simp) ⟨_,_,e2⟩;have o:=Og hk (by simp) ⟨_,e2⟩;have m:dy x+dy y<=n:=by grind [dy]
   have s1:=sub x (k+1) (by omega) h;have s2:=sub y (k+1+dy x) (by omega) o;simp_all[U,W3]
  |block i b =>
   have s1:=sub b (k+1) (by grind [dy]) (Gm (b:=b) hk (by simp) (by simp_all[pre]));simp_all[U,W3]
  |scope b =>
   have s1:=sub b (k+1) (by grind [dy]) (Gm (b:=b) hk (by simp) (by simp_all[pre]));simp_all[U,W3]
  |loop i b =>
   have s1:=sub b (k+1) (by grind [dy]) (Gm (b:=b) hk (by simp) (by simp_all[pre]));funext g Q E D H;cases i with
   |none=>grind [U,W3]
   |some _=>rfl
  |_=>funext g Q E D H;rfl
def PY:∃F:ak->Ctx->Kp×ai->WX,F=λ M ctx p=>W3 M ctx p.1 p.2:=⟨_,rfl⟩
def W:ak->Ctx->Kp×ai->WX:=Classical.choose PY
theorem lQ(M:ak)(ctx:Ctx)(p:Kp×ai):W M ctx p=W3 M ctx p.1 p.2:=congrFun (congrFun (congrFun (Classical.choose_spec PY) M) ctx) p
def funcAt(P:JL)(n:Nat):bW:=RD (motive:=λ _=>bW) ⟨[],.stuck,[]⟩ (λ f=>f) ((aX P).func n)
def iz(F:bW)(i:Nat):dV:=RD (motive:=λ _=>dV) ⟨[],.stuck,.stuck⟩ (λ l=>l) (nth F.loops i)
def A6{M:ak}{ctx:Ctx}{K:Kp}{r:ai}{k:Nat}{g:Bool}{Q:aG}{E:Env}{D:List aK}{H:ar}{R:Prop}(h:U M ctx K (λ j=>W M ctx (K,part r j)) (part r k) k g Q E D H=R):W M ctx (K,part r k) g Q E D H=R:=by
 rw[<-h];have e:(λ j=>W M ctx (K,part r j))=λ j=>W3 M ctx K (part r j):=by grind [lQ]
 rw[e,UU (ctx:=ctx) (K:=K) r _ (part r k) (qm _) k rfl,lQ]
abbrev uu:AV:=.undef
def TP(c:ai):part c 0=c:=xi (Ey c)
def k_{α β:Type}{a b:α}{x y:β}(h:(a,x)=(b,y)):a=b/\x=y:=by grind
def PG{M:ak}{f:Nat}{fn:bW}(j:M.func f=B1 fn){ks:Kp}{vs:List AV}(hk:jP 0 vs.length ks.ah=B4){H:ar}{Q:bG->ar->Prop}
 (h:W M ⟨B5,f⟩ (ks,part fn.body 0) B4 (fh M fn.results Q) (kC 0 vs) [] H):Fp M f vs H Q:=by
 rw[lQ,TP]at h;refine q7j j (pM (W3.wp (fp fn.body) fn.body (qm _) (up:=B5) h (UN hk)) λ e st⟨g,i,o,d⟩=>?_);have⟨tm,D,up,H'⟩:=st;have g:up=none:=g;subst g;have mono:∀{m:Option aF},nZ M fn.results i Q D m H'->Aj M fn.results tm (λ e H=>(B5:Option aF)=B5/\Q e H) D m H':=λ{m}h=>by
  have l:nZ M fn.results i (λ e H=>(B5:Option aF)=B5/\Q e H) D m H':=by
   grind
  grind [nZ.Tw]
 cases e with
 |normal=>exact mono d
 |ret=>exact mono d
 |panic c=>exact mono d
 |exit _=>exact d.elim
 |goto _=>exact d.elim
section
variable(E:Env)(H:ar)(K:Bool->AV->Prop)(K2:Bool->AV->ar->Prop)(A B:Bool->Prop)
def Lz(E:Env)(n:Nat)(K:Bool->AV->Prop):Prop:=LK B4 (lk E n) K
def Ly(g:Bool)(E:Env)(n:Nat)(K:Bool->AV->Prop):Prop:=LK g (lk E n) K
def Fl(g:Bool)(i:Nat)(a:AV)(H:ar)(K:Bool->AV->Prop):Prop:=B3 g (Op.fieldAddr i [a]) λ g x=>B3 g (Op.ae [x] H) K
def Nf(g:Bool)(i:Nat)(a:AV)(H:ar)(K:Bool->AV->Prop):Prop:=B3 g (Op.nilCheck [a]) λ g x=>Fl g i x H K
def Fs(g:Bool)(i:Nat)(a b:AV)(H:ar)(K:Bool->AV->ar->Prop):Prop:=B3 g (Op.fieldAddr i [a]) λ g x=>iW g (Op.store 1 [x,b] H) K
def Ns(g:Bool)(i:Nat)(a b:AV)(H:ar)(K:Bool->AV->ar->Prop):Prop:=B3 g (Op.nilCheck [a]) λ g x=>Fs g i x b H K
def Xl(g:Bool)(a b:AV)(H:ar)(K:Bool->AV->Prop):Prop:=B3 g (Op.aP 1 [a,b]) λ g x=>B3 g (Op.ae [x] H) K
def Xs(g:Bool)(a b c:AV)(H:ar)(K:Bool->AV->ar->Prop):Prop:=B3 g (Op.aP 1 [a,b]) λ g x=>iW g (Op.store 1 [x,c] H) K
def Bn(g:Bool)(o:BinOp)(a b:AV)(K:Bool->AV->Prop):Prop:=B3 g (Op.bin o [a,b]) K
def Cb(g:Bool)(o:BinOp)(a b:AV)(A B:Bool->Prop):Prop:=B3 g (Op.bin o [a,b]) λ g v=>mS g v A B
def Gt(g:Bool)(M:ak)(c:Ctx)(p:Kp×ai)(Q:aG)(E:Env)(D:List aK)(H:ar):Prop:=rD g (fj (W M c p) Q) .normal E D H
def YI(n:Nat):Lz E n K=LK B4 (lk E n) K:=propext jx
def Vq(n:Nat):Ly B4 E n K=LK B4 (lk E n) K:=propext jx
def ZI(i:Nat)(a:AV):Fl B4 i a H K=B3 B4 (Op.fieldAddr i [a]) λ g x=>B3 g (Op.ae [x] H) K:=propext jx
def VM(i:Nat)(a:AV):Nf B4 i a H K=B3 B4 (Op.nilCheck [a]) λ g x=>Fl g i x H K:=propext jx
def UY(i:Nat)(a b:AV):Fs B4 i a b H K2=B3 B4 (Op.fieldAddr i [a]) λ g x=>iW g (Op.store 1 [x,b] H) K2:=propext jx
def ZE(i:Nat)(a b:AV):Ns B4 i a b H K2=B3 B4 (Op.nilCheck [a]) λ g x=>Fs g i x b H K2:=propext jx
def Xx(a b:AV):Xl B4 a b H K=B3 B4 (Op.aP 1 [a,b]) λ g x=>B3 g (Op.ae [x] H) K:=propext jx
def UM(a b c:AV):Xs B4 a b c H K2=B3 B4 (Op.aP 1 [a,b]) λ g x=>iW g (Op.store 1 [x,c] H) K2:=propext jx
def Y6(o:BinOp)(a b:AV):Bn B4 o a b K=B3 B4 (Op.bin o [a,b]) K:=propext jx
def X2(o:BinOp)(a b:AV):Cb B4 o a b A B=B3 B4 (Op.bin o [a,b]) λ g v=>mS g v A B:=propext jx
def Wb(M:ak)(c:Ctx)(p:Kp×ai)(Q:aG)(D:List aK):Gt B4 M c p Q E D H=rD B4 (fj (W M c p) Q) .normal E D H:=propext jx
end
end
end Go.Am
namespace Go.Am
end Go.Am
namespace Go.Am
section
variable{M:ak}{ctx:Ctx}{dg:Bool}{Q Q':aG}{E:Env}{D:List aK}
theorem R9{α:Type}{m:Bool}{o:Option α}{K K':Bool -> α->Prop}(h:B3 m o K)(hk:∀a,K m a->K' m a):B3 m o K':=by
 cases o with
 |none=>exact h
 |some a=>exact hk a h
theorem Z7{α β:Type}{m:Bool}{o:Option (α×β)}{K K':Bool -> α -> β->Prop}(h:iW m o K)(hk:∀a b,K m a b->K' m a b):iW m o K':=by
 cases o with
 |none=>exact h
 |some a=>exact hk a.1 a.2 h
theorem xjg{α:Type}{m:Bool}{o:Option α}{K K':Bool -> α->Prop}(h:LK m o K)(hk:∀a,K m a->K' m a):LK m o K':=by
 cases o with
 |none=>exact h
 |some a=>exact hk a h
theorem S1{m:Bool}{v:AV}{A B c d:Bool->Prop}(h:mS m v A B)(ha:A m->c m)(hb:B m->d m):mS m v c d:=by
 obtain⟨q,rfl,h⟩:=h.elim;cases q with
 |true=>exact ha h
 |false=>exact hb h
theorem Yn{L R:Env}{t:Nat}{g:Bool}{K K':Bool->Env->AV->Prop}(h:TV E L R t g K)(hk:∀R v,K g R v->K' g R v):TV E L R t g K':=by
 unfold TV at h⊢;cases hl:lk L t with
 |some v=>simp_all
 |none =>
  rw[hl]at h;cases c:lk R t with
  |some v=>simp_all
  |none=>rw[c]at h;grind [xjg]
def sW{x:bK}{g:Bool}{K K':Bool->AV->Prop}(h:OV E x g K)(hk:∀v,K g v->K' g v):OV E x g K':=by
 cases x with
 |tmp t=>grind [OV,xjg]
 |const v=>exact hk _ h
 |eG b=>exact hk _ h
 |func f=>exact hk _ h
theorem HD{L R:Env}{x:bK}{g:Bool}{K K':Bool->AV->Prop}(h:CV E L R x g K)(hk:∀v,K g v->K' g v):CV E L R x g K':=by
 cases x with
 |tmp t=>grind [CV,Yn]
 |const v=>exact hk _ h
 |eG b=>exact hk _ h
 |func f=>exact hk _ h
def Oo{L:Env}{g:Bool}:∀{l:List bK}{R:Env}{K K':Bool->Env->List AV->Prop},xZ E L l g R K->(∀R vs,K g R vs->K' g R vs)->xZ E L l g R K'
 |[],R,K,K',h,hk=>hk _ _ h
 | .tmp t::xs,R,K,K',h,hk=>Yn (K:=λ g R v=>xZ E L xs g R λ g R vs=>K g R (v::vs)) (K':=λ g R v=>xZ E L xs g R λ g R vs=>K' g R (v::vs)) h λ R v q=>Oo (K:=λ g R vs=>K g R (v::vs)) (K':=λ g R vs=>K' g R (v::vs)) q λ R vs=>hk _ _
 | .const v::xs,R,K,K',h,hk=>Oo (l:=xs) (K:=λ g R vs=>K g R (v::vs)) (K':=λ g R vs=>K' g R (v::vs)) h λ R vs=>hk _ _
 | .eG v::xs,R,K,K',h,hk=>Oo (l:=xs) (K:=λ g R vs=>K g R (.ptr v 0::vs)) (K':=λ g R vs=>K' g R (.ptr v 0::vs)) h λ R vs=>hk _ _
 | .func v::xs,R,K,K',h,hk=>Oo (l:=xs) (K:=λ g R vs=>K g R (.fn (.func v) [] []::vs)) (K':=λ g R vs=>K' g R (.fn (.func v) [] []::vs)) h λ R vs=>hk _ _
theorem _w(f:∀e E D H,Q e E D H->Q' e E D H){d:Option (List Nat)}{ks:List Nat}{c:aF}{H:ar}(h:PX d ks Q E D c H):PX d ks Q' E D c H:=by
 cases d with
 |none=>exact h
 |some _=>exact f _ _ _ _ h
theorem YJ(j:∀e E D H,Q e E D H->Q' e E D H){i:Option (List Nat)}{L:Env}{g:Bool}{f:mD}{vs:List AV}{H:ar}{K K':Bool->AV->ar->Prop}(h:FY M dg i L Q E D g f vs H K)(hk:∀v H,K g v H->K' g v H):FY M dg i L Q' E D g f vs H K':=by
 cases dg with
 |false=>obtain⟨v,H',c,d⟩:=h;exact⟨v,H',c,hk _ _ d⟩
 |true =>
  obtain⟨e,H',c,d⟩:=h;refine⟨e,H',c,?_⟩
  grind [_w]
def ad5(i:∀e E D H,Q e E D H->Q' e E D H){s:aN}{K K':KR}{g:Bool}{L R:Env}{H:ar}(h:GP M dg s Q E D K g L R H)(hk:∀L R H,K g L R H->K' g L R H):GP M dg s Q' E D K' g L R H:=by
 refine Oo (show xZ E L s.args g R _ from h) λ R vs h=>?_;obtain⟨ik,dst,guard,args,op,c⟩:=s;cases ik with
 |true =>
  have h:T1 dst E L R H K g vs op:=h;show T1 dst E L R H K' g vs op;cases op with
  |read f =>
   cases dst with
   |none=>exact h
   |some d=>exact⟨h.1,hk _ _ _ h.2⟩
  |_=>exact h
 |false =>
  have h:vC M dg dst c Q E D L R H K g vs op:=h;show vC M dg dst c Q' E D L R H K' g vs op;cases op with
  |pure f=>grind [vC,R9]
  |read f=>grind [vC,R9]
  |alloc f=>grind [vC,Z7]
  |gT f=>grind [vC,Z7]
  |hJ f=>exact YJ i h λ v H=>hk _ _ _
  |ic =>
   simp only[vC,V3]at h⊢
   grind [YJ]
  |invoke n =>
   simp only[vC,N3]at h⊢;split at h
   .grind [R9,YJ]
   omega
  |recover=>exact h
  |defer=>exact h
  |panic =>
   cases dg with
   |false=>exact h
   |true =>
    have h:gD vs H (PX c (lT L) Q E D):=h;show gD vs H (PX c (lT L) Q' E D);unfold gD at h⊢
    grind [_w]
def WO(c:∀e E D H,Q e E D H->Q' e E D H){K K':KR}{g:Bool}(hk:∀L R H,K g L R H->K' g L R H):∀{l:List aN}{L R:Env}{H:ar},pQ M dg Q E D K l g L R H->pQ M dg Q' E D K' l g L R H
 |[],L,R,H,h=>hk _ _ _ h
 |s::l,L,R,H,h=>ad5 c (by simp_all[pQ]) λ L R H=>WO c hk
theorem Zj:∀(n:Nat){f f':List AV->ar->Prop},(∀vs H,f vs H->f' vs H) -> ∀(l:List AV)(H:ar),pP n (qZ n f) l H->pP n (qZ n f') l H
 |0,f,f',hf,l,H,h=>hf [] H h
 |n+1,f,f',hf,[],H,h=>h
 |n+1,f,f',hf,v::l,H,h=>Zj n (f:=λ l=>f (v::l)) (f':=λ l=>f' (v::l)) (by grind) l H h
def ad9(f:∀e E D H,Q e E D H->Q' e E D H){x:Fx}{K K':KR}{g:Bool}(hk:∀L R H,K g L R H->K' g L R H){L R:Env}{H:ar}(h:Ti M dg Q E D x K g L R H):Ti M dg Q' E D x K' g L R H:=by
 obtain⟨q,l⟩:=x;cases q with
 |none=>exact WO f hk (show pQ M dg Q E D K l g L R H from h)
 |some q =>
  cases ho:vP q.1 l with
  |false =>
   have h:cond (vP q.1 l) _ False:=h
   grind
  |true =>
   have h:cond (vP q.1 l) _ False:=h;rw[ho,xu]at h;show cond (vP q.1 l) _ False;rw[ho,xu];refine Yn h λ c v h=>?_;have h:B3 g (cP q.2 (B1 v)) λ g w=>ua g w (λ g=>pQ M dg Q E D (λ g d _ H=>pP (cW (bq l [])) (qZ (cW (bq l [])) λ vs H=>K g (kZ (bq l []) L vs) c H) (rp (cW (bq l [])) d) H) l g L c H)
    (λ g=>pP (cW (bq l [])) (qZ (cW (bq l [])) λ vs H=>K g (kZ (bq l []) L vs) c H) (rU (cW (bq l []))) H):=h
   refine R9 (K':=λ g w=>ua g w (λ g=>pQ M dg Q' E D (λ g d _ H=>pP (cW (bq l [])) (qZ (cW (bq l [])) λ vs H=>K' g (kZ (bq l []) L vs) c H) (rp (cW (bq l [])) d) H) l g L c H)
    (λ g=>pP (cW (bq l [])) (qZ (cW (bq l [])) λ vs H=>K' g (kZ (bq l []) L vs) c H) (rU (cW (bq l []))) H)) h λ w h=>?_
   cases w with
   |true=>exact WO f (by grind [Zj]) (show pQ M dg Q E D _ l g L c H from h)
   |false=>exact Zj _ (by grind) _ _ h
theorem Su(c:∀e E D H,Q e E D H->Q' e E D H){l:List aN}{K K':KR}{g:Bool}(hk:∀L R H,K g L R H->K' g L R H){H:ar}(h:rJ M dg Q E D l g H K):rJ M dg Q' E D l g H K':=by
 unfold rJ at h⊢;generalize I3 l=gs at h⊢;generalize([]:Env)=L at h⊢;have key:∀(gs:List Fx)(L R:Env)(H:ar),xM M dg Q E D K gs g L R H->xM M dg Q' E D K' gs g L R H:=by
  intro gs
  induction gs with
  |nil=>exact λ L R H h=>hk _ _ _ h
  |cons x gs ih=>exact λ L R H h=>ad9 c ih (by simp_all[xM])
 grind
def Ip{K:Kp}:∀(n:Nat)(c:ai),fp c<=n -> ∀{g:Bool}{Q Q':aG}{E:Env}{D:List aK}{H:ar},(∀e E D H,Q e E D H->Q' e E D H)->W3 M ctx K c g Q E D H->W3 M ctx K c g Q' E D H:=by
 intro n
 induction n with
 |zero =>
  intro c s g Q Q' E D H d h;cases c with
  |region l=>exact Su d (λ L R H h=>d _ _ _ _ h) h
  |rangeFunc f k =>
   have h:OV E f g λ g v=>iI M K.ah ctx k E D H Q v:=h;show OV E f g λ g v=>iI M K.ah ctx k E D H Q' v;have key:∀v,iI M K.ah ctx k E D H Q v->iI M K.ah ctx k E D H Q' v:=λ v h tm up he=>by
    have:=h tm up he;unfold Jz at this⊢;split
    .grind [RJ]
    grind [Fg,RJ]
   exact sW h key
  |skip=>exact d _ _ _ _ h
  |label _=>exact d _ _ _ _ h
  |exit _=>exact d _ _ _ _ h
  |goto _=>exact d _ _ _ _ h
  |ret=>exact d _ _ _ _ h
  |stuck=>exact h
  |seq _ _=>grind [fp]
  |cond _ _ _=>grind [fp]
  |block _ _=>grind [fp]
  |loop _ _=>grind [fp]
  |scope _=>grind [fp]
 |succ n ih =>
  intro c s g Q Q' E D H d h;have u:∀{b:ai},fp b<=n -> ∀e E D H,fj (W3 M ctx K b) Q e E D H->fj (W3 M ctx K b) Q' e E D H:=λ hb e E D H h=>by
   cases e with
   |normal=>exact ih _ hb d h
   |_=>exact d _ _ _ _ h
  cases c with
  |seq a b =>
   have m:fp a+fp b<=n:=by grind [fp]
   have gen:W3 M ctx K a g (fj (W3 M ctx K b) Q) E D H->W3 M ctx K a g (fj (W3 M ctx K b) Q') E D H:=λ h=>(by grind)
   cases a with
   |region l =>
    have plain:(rJ M K.dg Q E D l g H λ g L _ H=>W3 M ctx K b g Q (dG K.ah E L) D H)->rJ M K.dg Q' E D l g H λ g L _ H=>W3 M ctx K b g Q' (dG K.ah E L) D H:=λ h=>(by grind [Su])
    have cv:∀{L R:Env}{c:bK}{A B i j:Bool->Prop},CV E L R c g (λ g v=>mS g v A B)->(A g->i g)->(B g->j g)->CV E L R c g (λ g v=>mS g v i j):=λ{L R c A B i j}h ha hb=>by
     grind [HD,S1]
    cases b with
    |cond c x y =>
     have o:fp x+fp y+1<=n:=by grind [fp]
     exact Su d (λ L R H h=>cv h (by grind) (by grind)) h
    |seq b1 r =>
     cases b1 with
     |cond c x y =>
      have o:fp x+fp y+1+fp r+1<=n:=by grind [fp]
      exact Su d (λ L R H h=>cv h (by grind) (by grind)) h
     |_=>exact plain h
    |_=>exact plain h
   |_=>exact gen h
  |cond c x y =>
   have m:fp x+fp y<=n:=by grind [fp]
   have h:OV E c g λ g v=>mS g v (λ g=>W3 M ctx K x g Q E D H) (λ g=>W3 M ctx K y g Q E D H):=h;exact sW (K':=λ g v=>mS g v (λ g=>W3 M ctx K x g Q' E D H) (λ g=>W3 M ctx K y g Q' E D H)) h λ v h=>S1 h (by grind) (by grind)
  |block id b =>
   have hb:fp b<=n:=by grind [fp]
   exact ih b hb (λ e E D H h=>by cases e<;>exact d _ _ _ _ h) h
  |scope b =>
   have hb:fp b<=n:=by grind [fp]
   exact ih b hb (λ e E D H h=>by cases e<;>first|exact d _ _ _ _ h|exact⟨h.1,d _ _ _ _ h.2⟩) h
  |loop ah b =>
   have hb:fp b<=n:=by grind [fp]
   cases ah with
   |some _=>exact h
   |none =>
    obtain⟨I,p,q⟩:=h;exact⟨I,p,λ n E D H t=>ih b hb (λ e E D H h=>by cases e<;>first|exact h|exact d _ _ _ _ h) (q n E D H t)⟩
  |_=>exact ih _ (xz _) d h
end
def W.mono{M:ak}{ctx:Ctx}{p:Kp×ai}{g:Bool}{Q Q':aG}{E:Env}{D:List aK}{H:ar}(h:W M ctx p g Q E D H)(c:∀e E D H,Q e E D H->Q' e E D H):W M ctx p g Q' E D H:=by
 rw[lQ]at h⊢;exact Ip _ p.2 (qm _) c h
end Go.Am
namespace Go.Am
universe u
noncomputable section
variable(X:WX)(Q:aG)(E:Env)(D:List aK)(H:ar)(I:Kf)(n:Nat)
def xdh:fj X Q .normal E D H=X B4 Q E D H:=propext jx
def ae1:fj X Q .ret E D H=Q .ret E D H:=propext jx
def xjl(l:Nat):fj X Q (.exit l) E D H=Q (.exit l) E D H:=propext jx
def xjm(l:Nat):fj X Q (.goto l) E D H=Q (.goto l) E D H:=propext jx
def xha(c:aF):fj X Q (.panic c) E D H=Q (.panic c) E D H:=propext jx
def xdb(i:Nat):eS i Q .normal E D H=Q .normal E D H:=propext jx
def Dz(i:Nat):eS i Q .ret E D H=Q .ret E D H:=propext jx
def xi8(i l:Nat):eS i Q (.goto l) E D H=Q (.goto l) E D H:=propext jx
def xgy(i:Nat)(c:aF):eS i Q (.panic c) E D H=Q (.panic c) E D H:=propext jx
def xi7(i l:Nat):eS i Q (.exit l) E D H=if i=l then Q .normal E D H else Q (.exit l) E D H:=by
 show Q (cond (I6 i l) .normal (.exit l)) E D H=_
 by_cases h:i=l
 .simp_all
 simp_all[KJ]
section
variable(M:ak)(rs:List eh)(Q:bG->ar->Prop)(P:List AV->Prop)(R:AV->ar->Prop)
def ac8:fh M rs Q .ret E [] H=jC E H rs λ l=>Q (.ret (iV l)) H:=propext jx
def xdg:fh M rs Q .normal E [] H=jC E H rs λ l=>Q (.ret (iV l)) H:=propext jx
def xg3(c:aF):fh M rs Q (.panic c) E [] H=Q (.panic c) H:=propext jx
def ae7:jC E H [] P=P []:=propext jx
def ag8(t:Nat):jC E H (.tmp t::rs) P=LK B4 (lk E t) λ _ v=>jC E H rs λ vs=>P (v::vs):=propext jx
def xg8(t:Nat):jC E H (.kK t::rs) P=LK B4 (lk E t) λ _ v=>B3 B4 (Op.ae [v] H) λ _ v=>jC E H rs λ vs=>P (v::vs):=propext jx
def xg9(n t:Nat):jC E H (.cR n t::rs) P=LK B4 (lk E t) λ _ v=>B3 B4 (Op.aq n [v] H) λ _ v=>jC E H rs λ vs=>P (v::vs):=propext jx
def Gb(v:AV):uI R (.ret v) H=R v H:=propext jx
end
def JU:((0:Nat):Int)=0:=rfl
theorem zk(l:List AV):AV.cells (.agg l)=l:=rfl
def xj8(k:P0)(n:Int):AV.cells (.int k n)=[.int k n]:=rfl
def xhj(b:Bool):AV.cells (.bool b)=[.bool b]:=rfl
def xkb(s:List UInt8):AV.cells (.str s)=[.str s]:=rfl
def xka(b o:Nat):AV.cells (.ptr b o)=[.ptr b o]:=rfl
def M3(I:Nat->Env->ar->Prop)(D:List aK)(n:Nat)(Q:aG):aG:=λ e E D' H=>match e with
 | .normal=>D'=D /\ ∃m E',I m E' H/\yG E' E/\m<n
 |e=>Q e E D' H
theorem da.intro{M:ak}{ctx:Ctx}{p:Kp×ai}{Q:aG}{E:Env}{D:List aK}{H:ar}(I:Nat->Env->ar->Prop)(j:∃n d,I n d H/\yG d E)(h:∀n E H,I n E H->W M ctx p B4 (M3 I D n Q) E D H):da (W M ctx p) Q E D H:=by
 obtain⟨n,d,l,o⟩:=j;refine⟨λ n E D' H=>D'=D/\I n E H,⟨n,d,⟨rfl,l⟩,o.ss⟩,λ n E D' H⟨e,r⟩=>?_⟩;subst e;refine W.mono (h n E H r) λ e E g H f=>?_;cases e with
 |normal=>obtain⟨q,m,i,a,b,c⟩:=f;exact⟨m,i,⟨q,a⟩,b.ss,c⟩
 |_=>exact f
def QB(P:Env->List aK->ar->Prop)(Q:aG):aG:=λ e E D H=>match e with
 | .normal=>P E D H
 |e=>Q e E D H
def xg5(P:Env->List aK->ar->Prop)(Q:aG)(E:Env)(D:List aK)(H:ar):QB P Q .normal E D H=P E D H:=propext jx
def Ht(P:Env->List aK->ar->Prop)(Q:aG)(E:Env)(D:List aK)(H:ar):QB P Q .ret E D H=Q .ret E D H:=propext jx
def Dp(P:Env->List aK->ar->Prop)(Q:aG)(E:Env)(D:List aK)(H:ar)(l:Nat):QB P Q (.exit l) E D H=Q (.exit l) E D H:=propext jx
def LN(X:WX)(Q:aG):Nat->Env->List aK->ar->Prop
 |0,_,_,_=>False
 |n+1,E,D,H=>X B4 (QB (LN X Q n) Q) E D H
def Gr(X:WX)(Q:aG)(n:Nat)(E:Env)(D:List aK)(H:ar):LN X Q (n+1) E D H=X B4 (QB (LN X Q n) Q) E D H:=propext jx
def xg6(I:Nat->Env->ar->Prop)(D:List aK)(n:Nat)(Q:aG)(E:Env)(H:ar):M3 I D n Q .normal E D H = ∃m c,I m c H/\yG c E/\m<n:=propext ⟨λ h=>h.2,λ h=>⟨rfl,h⟩⟩
def Ic(I:Nat->Env->ar->Prop)(D D':List aK)(n:Nat)(Q:aG)(E:Env)(H:ar):M3 I D n Q .ret E D' H=Q .ret E D' H:=propext jx
def af9(I:Nat->Env->ar->Prop)(D D':List aK)(n:Nat)(Q:aG)(E:Env)(H:ar)(l:Nat):M3 I D n Q (.exit l) E D' H=Q (.exit l) E D' H:=propext jx
def Ea(I:Nat->Env->ar->Prop)(D D':List aK)(n:Nat)(Q:aG)(E:Env)(H:ar)(l:Nat):M3 I D n Q (.goto l) E D' H=Q (.goto l) E D' H:=propext jx
def xjh(I:Nat->Env->ar->Prop)(D D':List aK)(n:Nat)(Q:aG)(E:Env)(H:ar)(c:aF):M3 I D n Q (.panic c) E D' H=Q (.panic c) E D' H:=propext jx
def sw{α:Sort u}(b:Bool)(x y:α):α:=cond b x y
@[congr]def ab3{α:Sort u}{b c:Bool}{x y:α}(h:b=c):sw b x y=sw c x y:=by rw[h]
def QS{α:Sort u}(x y:α):sw B4 x y=x:=rfl
def QC{α:Sort u}(x y:α):sw B2 x y=y:=rfl
def Jv{α:Sort u}(p:Prop)[Decidable p](x y:α):(if p then x else y)=sw (decide p) x y:=by grind [sw]
def QP(k t:Nat)(v:AV)(E:Env):lk ((k,v)::E) t=sw (decide (k=t)) (B1 v) (lk E t):=(wP ..).trans (Jv ..)
def G5(Q:aG)(E:Env)(D:List aK)(H:ar)(i l:Nat):eS i Q (.exit l) E D H=sw (decide (i=l)) (Q .normal E D H) (Q (.exit l) E D H):=(xi7 ..).trans (Jv ..)
def VB(α:Type)(h:Decidable True)(x y:α):@ite α True h x y=x:=xg trivial
def Wx(α:Type)(h:Decidable False)(x y:α):@ite α False h x y=y:=qv id
def Qf(h:Decidable True)(x y:Prop):@ite Prop True h x y=x:=xg trivial
def QM(h:Decidable False)(x y:Prop):@ite Prop False h x y=y:=qv id
def QF:=GF @Gj<|GF @Hk<|GF @EO<|GF DI<|GF xje<|GF af3<|GF xjf<|GF af4<|GF QU<|GF @JB<|GF DZ <|
 GF Gy<|GF Dq<|GF DL<|GF QP<|GF Cr<|GF ag3<|GF HA <|
 GF xdh<|GF ae1<|GF xjl<|GF xjm<|GF xha<|GF xdb<|GF Dz<|GF xi8<|GF xgy<|GF G5 <|
 GF xg5<|GF Ht<|GF Dp<|GF Gr<|GF xg6<|GF Ic<|GF af9<|GF Ea<|GF xjh<|GF ac8<|GF xdg<|GF xg3<|GF ae7<|GF ag8<|GF xg8<|GF xg9 <|
 GF Gb<|GF YI<|GF Vq<|GF ZI<|GF VM<|GF UY<|GF ZE<|GF Xx<|GF UM<|GF Y6<|GF X2<|GF Wb<|GF Xf<|GF V0 ZF
def PB:=GF VB<|GF Wx<|GF Qf<|GF QM<|GF @QS.{1}<|GF @QC.{1}<|GF @QS.{0}<|GF @QC.{0}<|GF KM<|GF KB<|GF @Ol<|GF @Qg<|GF @O6<|GF @Rr<|GF @OJ<|GF @Qh<|GF @Ql<|GF @O9<|GF @Q6<|GF @L3<|GF Qo <|
 GF KY<|GF Kq<|GF DA<|GF ac6<|GF xlp<|GF xeu<|GF DH<|GF Ld<|GF Gq<|GF GX<|GF O0 <|
 GF zk<|GF xj8<|GF xhj<|GF xkb<|GF xka<|GF @decide_true<|GF @J1<|GF Bool.not_true<|GF Bool.not_false<|GF not_true_eq_false<|GF not_false_eq_true<|GF @ne_eq.{1}<|GF Fq<|GF tJ<|GF false_and<|GF and_false <|
 GF @xu.{1}<|GF @zo.{1}<|GF @qr.{0,0}<|GF AY<|GF yu<|GF @z4.{0}<|GF @jo.{0}<|GF @jr.{0} @I7.{0}
def Px:type_of% JU/\type_of% QF/\type_of% PB:=⟨JU,QF,PB⟩
section
variable{α:Type}{enc:α->List AV}{e size:Nat}{H0 H H':ar}{v:AV}{xs:List α}
def sZ.to3{α β:Type}{m g:Bool}{o:Option (α×β)}{K:Bool -> α -> β->Prop}(h:sZ m o λ _ a b=>K g a b):iW g o K:=by
 cases o with
 |none=>exact NP h
 |some a=>exact h
def Q2{H:ar}{e size bytes:Nat}{v:AV}{n:Nat}{cells:List AV}(h:Own H e size v n cells){x:AV}{k:Nat}{new:List AV}(i:Sl H size x k new)(d:aL new=B4)(hs:0<size)
 (g:(n+k)*bytes<=140737488355328) (f:n+k<=140737488355328) {K:Bool->AV->ar->Prop} {m:Bool}
 (hk:∀c H',Own H' e size c (n+k) (cells++new)->Fr (aM v) H H'->(∀b,aM c b->aM v b\/H.au<=b)->K m c H'):iW m (Op.append e size bytes [v,x] H) K :=
 sZ.to3 (m:=m) (by grind [u_])
def nN{H:ar}{e size bytes:Nat}{v:AV}{n:Nat}{cells:List AV}(h:Own H e size v n cells){zero:List AV}{x:AV}(q:zero.length=size)(p:x.cells.length=size)(c:aL x.cells=B4)(hs:0<size)
 (l:(n+1)*bytes<=140737488355328) (d:n+1<=140737488355328) {K:bD->(Nat->AV)->Bool->AV->ar->Prop} {m:Bool}
 (hk:∀f H',Own H' e size f (n+1) (cells++x.cells)->Fr (aM v) H H'->(∀b,aM f b->aM v b\/H.au<=b)->K (.row x.cells e (0,0) B4) (Op.sliceTo 1 1) m f H') :
 iW m (Op.buildSlice e 1 zero [(0,size)] [x]) λ g o mk=>iW g (Op.append e size bytes [v,mk H.au] (H.alloc o)) (K o mk):=by
 have:=FZ (m:=m) h q p c hs l d (K:=λ o mk _ v H=>K o mk m v H) hk;obtain⟨o,mk,i,j⟩:∃o mk,Op.buildSlice e 1 zero [(0,size)] [x]=B1 (o,mk)/\sZ B4 (Op.append e size bytes [v,mk H.au] (H.alloc o)) (λ _ v H=>K o mk m v H):=by
  unfold sZ at this;split at this
  .rename_i a ha;exact⟨a.1,a.2,ha,this⟩
  grind
 refine iW.intro i ?_;unfold sZ at j
 grind [iW.intro]
end
end
def qo(b o:Nat):Op.nilCheck [.ptr b o]=B1 (.ptr b o):=rfl
def xf(i:Nat)(l:List AV):Op.extract i [.tuple l]=l[i]?:=xln i l
end Go.Am
namespace Go.Am
def IJ:List bK->Option Nat
 |[.tmp t]=>B1 t
 |_=>B5
def KW(s:aN):Option Nat:=match s.op,s.ik,s.guard,s.dst with
 | .defer,B2,B5,B5=>IJ s.args
 |_,_,_,_=>B5
def GN:List aN->Option (List aN×Nat×List aN)
 |[]=>B5
 |s::r=>match KW s with
  |some t=>B1 ([],t,r)
  |none=>(GN r).map λ q=>(s::q.1,q.2.1,q.2.2)
def sj:ai->Option (ai×Nat×ai)
 | .region l=>(GN l).map λ q=>(.region q.1,q.2.1,.region q.2.2)
 | .seq a b=>match sj a with
  |some q=>B1 (q.1,q.2.1,.seq q.2.2 b)
  |none=>(sj b).map λ q=>(.seq a q.1,q.2.1,q.2.2)
 |_=>B5
noncomputable def Ah(c:ai):ai:=RD (motive:=λ _=>ai) .stuck (λ q=>q.1) (sj c)
noncomputable def vZ(c:ai):ai:=RD (motive:=λ _=>ai) .stuck (λ q=>q.2.2) (sj c)
section
variable{M:ak}{ctx:Ctx}
def DX(W:St->cJ->Prop)(t:Nat)(st:St)(Q:cJ):Prop:=∃g first cap,st.tm.get t=B1 (.fn (.func g) first cap)/\W ⟨st.tm,.fn (.func g) (first++cap)::st.aY,st.up,st.H⟩ Q
def ad7{s:aN}{st:St}{Q Q':cJ}{K:St->Prop}(h:∀c st,Q (.panic c) st=Q' (.panic c) st):qO M ctx s st Q K=qO M ctx s st Q' K:=by
 have e:∀d tm aY up,AK d tm aY up Q=AK d tm aY up Q':=λ d tm aY up=>by
  funext c H;cases d with
  |none=>rfl
  |some ds=>exact h _ _
 simp_all[pT,qO]
def xke(hr:ctx.round=B5):∀{l l1 l2:List aN}{t:Nat},GN l=B1 (l1,t,l2) -> ∀{st:St}{Q:cJ},oq M ctx l1 st (EN (DX (oq M ctx l2) t) Q)->oq M ctx l st Q
 |s::r,l1,l2,t,h,st,Q,w=>by
  unfold GN at h;cases c:KW s with
  |some t' =>
   rw[c]at h;injection h with h;injection h with i h;injection h with j p
   subst i;subst j;subst p;have⟨ik,dst,guard,args,op,x⟩:=s;unfold KW at c;split at c
   .rename_i e1 e2 f o;subst e1;subst e2;subst f;subst o;unfold IJ at c;split at c
    .rename_i e;simp only at e;subst e;cases c;have⟨g,first,cap,i,j⟩:=w;exact bO.intro (m:=aH) i ⟨hr,j⟩
    grind
   grind
  |none =>
   rw[c]at h;have⟨q,u,e⟩:=xq.1 h;injection e with e1 e;injection e with e2 f
   subst e1;subst e2;subst f;have w:qO M ctx s st (EN (DX (oq M ctx q.2.2) q.2.1) Q) λ d=>oq M ctx q.1 d (EN (DX (oq M ctx q.2.2) q.2.1) Q):=w;rw[ad7 (Q:=EN (DX (oq M ctx q.2.2) q.2.1) Q) (Q':=Q) (λ _ _=>rfl)]at w;exact xav w (by grind) λ d h=>xke hr u h
def Wz(hr:ctx.round=B5):∀{c x y:ai}{t:Nat},sj c=B1 (x,t,y) -> ∀{st:St}{Q:cJ},WP M ctx x st (EN (DX (WP M ctx y) t) Q)->WP M ctx c st Q
 | .region l,x,y,t,h,st,Q,w=>by
  unfold sj at h;have⟨q,f,e⟩:=xq.1 h;injection e with e1 e;injection e with e2 d
  subst e1;subst e2;subst d;exact xke hr f w
 | .seq a b,x,y,t,h,st,Q,w=>by
  unfold sj at h;cases ha:sj a with
  |some q =>
   rw[ha]at h;injection h with h;injection h with i h;injection h with j m
   subst i;subst j;subst m;refine Wz hr (c:=a) ha (pM w λ e g h=>?_);cases e with
   |normal=>exact h
   |_=>exact h
  |none =>
   rw[ha]at h;have⟨q,f,e⟩:=xq.1 h;injection e with e1 e;injection e with e2 d
   subst e1;subst e2;subst d;show WP M ctx a st (EN (WP M ctx b) Q);refine pM (show WP M ctx a st (EN (WP M ctx q.1) (EN (DX (WP M ctx q.2.2) q.2.1) Q))from w) λ e g h=>?_;cases e with
   |normal=>exact Wz hr (c:=b) f h
   |_=>exact h
end
def EF(M:ak)(ctx:Ctx)(p:Kp×ai)(t:Nat)(Q:aG):aG:=λ e E D H=>match e with
 | .normal=>LK B4 (lk E t) λ _ v=>∃g first cap,v=.fn (.func g) first cap/\W M ctx p B4 Q E (.fn (.func g) (first++cap)::D) H
 |e=>Q e E D H
def xde{M:ak}{ctx:Ctx}{p:Kp×ai}{t:Nat}{Q:aG}{E:Env}{D:List aK}{H:ar}:EF M ctx p t Q .normal E D H=LK B4 (lk E t) λ _ v=>∃g first cap,v=.fn (.func g) first cap/\W M ctx p B4 Q E (.fn (.func g) (first++cap)::D) H:=rfl
def _U{M:ak}{ctx:Ctx}{p:Kp×ai}{t:Nat}{Q:aG}{E:Env}{D:List aK}{H:ar}:EF M ctx p t Q .ret E D H=Q .ret E D H:=rfl
def NY{M:ak}{rs:List eh}{ks:List Nat}{Q:bG->ar->Prop}{up:Option aF}{e:aW}{st:St}(h:QQ ks (fh M rs Q) up e st):Zk M rs (λ e u H=>u=up/\Q e H) e st:=by
 have⟨f,g,i,d⟩:=h;have⟨tm,D,u,H'⟩:=st;have f:u=up:=f;subst f;have mono:∀{m:Option aF},nZ M rs g Q D m H'->Aj M rs tm (λ e H=>u=u/\Q e H) D m H':=λ{m}h=>by
  grind [nZ.Tw]
 cases e with
 |normal=>exact mono d
 |ret=>exact mono d
 |panic c=>exact mono d
 |exit _=>exact d.elim
 |goto _=>exact d.elim
def HK{M:ak}{f:Nat}{fn:bW}(u:M.func f=B1 fn){p ky:Kp}(hk:p.ah=ky.ah){t:Nat}(s:sj fn.body=B1 (Ah fn.body,t,vZ fn.body)){vs:List AV}(r:jP 0 vs.length p.ah=B4){H:ar}{Q:bG->ar->Prop}
 (h:W M ⟨B5,f⟩ (p,part (Ah fn.body) 0) B4 (EF M ⟨B5,f⟩ (ky,part (vZ fn.body) 0) t (fh M fn.results Q)) (kC 0 vs) [] H):Fp M f vs H Q:=by
 rw[lQ,TP]at h;refine q7j u (Wz rfl s (pM (W3.wp (fp (Ah fn.body)) _ (qm _) (up:=B5) h (UN r)) λ e st h=>?_));cases e with
 |normal =>
  have⟨d,i,j,l⟩:=h;have⟨tm,D,up,H'⟩:=st;have d:up=none:=d;subst d;obtain⟨v,w,g,first,cap,rfl,q⟩:=LK.elim (m:=B4) (o:=lk i t) (K:=λ _ v=>∃g first cap,v=.fn (.func g) first cap/\W M ⟨B5,f⟩ (ky,part (vZ fn.body) 0) B4 (fh M fn.results Q) i (.fn (.func g) (first++cap)::D) H') l;rw[lQ,TP]at q;exact⟨g,first,cap,(j t _ w).1,pM (W3.wp (fp (vZ fn.body)) _ (qm _) (up:=B5) q (hk▸j)) λ e st h=>NY h⟩
 |ret=>have⟨d,i,j,l⟩:=h;exact NY (e:=aW.ret) (rs:=fn.results) (ks:=p.ah) (Q:=Q) (up:=B5) ⟨d,i,j,l⟩
 |panic c=>have⟨d,i,j,l⟩:=h;exact NY (e:=aW.panic c) (rs:=fn.results) (ks:=p.ah) (Q:=Q) (up:=B5) ⟨d,i,j,l⟩
 |exit k=>obtain⟨d,i,j,l⟩:=h;exact NY (M:=M) (e:=aW.exit k) (rs:=fn.results) (ks:=p.ah) (Q:=Q) (up:=B5) ⟨d,i,j,l⟩
 |goto k=>obtain⟨d,i,j,l⟩:=h;exact NY (M:=M) (e:=aW.goto k) (rs:=fn.results) (ks:=p.ah) (Q:=Q) (up:=B5) ⟨d,i,j,l⟩
def Ii{M:ak}{f:Nat}{fn:bW}(c:M.func f=B1 fn){ks:Kp}{vs:List AV}(hk:jP 0 vs.length ks.ah=B4){up:Option aF}{H:ar}{Q:bG->ar->Prop}
 (h:W M ⟨B5,f⟩ (ks,part fn.body 0) B4 (fh M fn.results Q) (kC 0 vs) [] H):∃e H',jI M f vs up H e up H'/\Q e H':=by
 rw[lQ,TP]at h;obtain⟨e,d,H',g,rfl,i⟩:=He c (pM (W3.wp (fp fn.body) fn.body (qm _) (up:=up) h (UN hk)) λ e st h=>NY h)
 grind
abbrev WE(M:ak)(c:Ctx)(p:Kp×ai)(R:aG->Env->List aK->ar->Prop):Prop:=∀Q E D H,W M c p B4 Q E D H=R Q E D H
end Go.Am
