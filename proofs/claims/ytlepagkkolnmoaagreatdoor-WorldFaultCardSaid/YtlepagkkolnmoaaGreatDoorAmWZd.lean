import Derived.Test.YtlepagkkolnmoaaGreatDoorAmWZb
import Derived.Test.YtlepagkkolnmoaaGreatDoorAmWZa
set_option linter.unusedVariables false
set_option linter.unusedSimpArgs false
set_option linter.defProp false
open And renaming intro→I0
open Bool renaming rec→Pa,false→B2,true→B4
open False renaming elim→OH
open Go renaming IntKind→Pl,Program→Kc
open Go.IntKind renaming bits→Bj,signed→Bi
open List renaming rec→A6
open Nat renaming beq→J3,ble→Ow,blt→QS
open Option renaming rec→Ra,none→B5,some→B1
namespace Go.Am
def aH:Bool:=B4
def bQ{α:Type}(m:Bool)(o:Option α)(K:α->Prop):Prop:=match o with
 |some a=>K a
 |none=>False
def iZ{α β:Type}(m:Bool)(o:Option (α×β))(K:α -> β->Prop):Prop:=match o with
 |some a=>K a.1 a.2
 |none=>False
def L3(m:Bool)(q:Bool)(A B:Prop):Prop:=match q with
 |true=>A
 |false=>B
@[congr]def aa4{α:Type}{m c:Bool}{o o':Option α}{K:α->Prop}(hm:m=c)(h:o=o'):bQ m o K=bQ c o' K:=by rw[h,hm]
@[congr]def aa2{α β:Type}{m c:Bool}{o o':Option (α×β)}{K:α -> β->Prop}(hm:m=c)(h:o=o'):iZ m o K=iZ c o' K:=by rw[h,hm]
@[congr]def aa6{m c q d:Bool}{A B:Prop}(hm:m=c)(h:q=d):L3 m q A B=L3 c d A B:=by rw[h,hm]
def bQ.elim{α:Type}{m:Bool}{o:Option α}{K:α->Prop}(h:bQ m o K):∃a,o=B1 a/\K a:=by
 cases o with
 |none=>exact OH h
 |some a=>exact⟨a,rfl,h⟩
def iZ.elim{α β:Type}{m:Bool}{o:Option (α×β)}{K:α -> β->Prop}(h:iZ m o K):∃a b,o=B1 (a,b)/\K a b:=by
 cases o with
 |none=>exact OH h
 |some a=>exact⟨a.1,a.2,rfl,h⟩
def bQ.intro{α:Type}{m:Bool}{o:Option α}{K:α->Prop}{a:α}(h:o=B1 a)(hk:K a):bQ m o K:=by subst h;exact hk
def iZ.intro{α β:Type}{m:Bool}{o:Option (α×β)}{K:α -> β->Prop}{a:α}{b:β}(h:o=B1 (a,b))(hk:K a b):iZ m o K:=by subst h;exact hk
def L3.cases{m:Bool}{q:Bool}{A B:Prop}(c:q=B4->A)(d:q=B2->B):L3 m q A B:=by
 cases q with
 |true=>exact c rfl
 |false=>exact d rfl
def asBool:AV->Option Bool
 | .bool q=>B1 q
 |_=>B5
noncomputable section
structure ak where
 prog:jQ
 told:bY
 mute:Nat->Bool
 ok:∀f vs up H,mute f=B2->told f vs up H=B5
def ak.call(M:ak)(n:Nat):bY:=kI M.prog M.told n
def ak.func(M:ak)(f:Nat):Option bV:=cond (M.mute f) B5 (M.prog.func f)
def ak.kF(M:ak):Nat->String->Option Nat:=M.prog.kF
def ak.xR{M:ak}{f:Nat}{fn:bV}(h:M.func f=B1 fn):M.mute f=B2/\M.prog.func f=B1 fn:=by
 unfold ak.func at h;cases hm:M.mute f with
 |true=>rw[hm]at h;cases h
 |false=>rw[hm]at h;exact⟨rfl,h⟩
def ak.zP{M:ak}{f:Nat}(h:M.mute f=B2)(n:Nat)(vs:List AV)(up:Option aG)(H:ar):M.call (n+1) f vs up H=Iz M.prog (M.call n) n f vs up H:=by
 show(match M.told f vs up H with|some r=>B1 r|none=>Iz M.prog (kI M.prog M.told n) n f vs up H)=_;rw[M.ok f vs up H h];rfl
variable(AP:ak)
def yI(n k:Nat)(ctx:Ctx):RT:=⟨AP.prog,AP.call n,rounds AP.prog (AP.call n) n k,n,ctx⟩
def jW(f:Nat)(vs:List AV)(up:Option aG)(H:ar)(e:bH)(up':Option aG)(H':ar):Prop:=∃n0,∀n,n0<=n->AP.call n f vs up H=B1 (e,up',H')
def CALL(f:Nat)(vs:List AV)(H:ar)(e:bH)(H':ar):Prop:=jW AP f vs B5 H e B5 H'
def sD(l:Nat)(vs:List AV)(H:ar)(e:bH)(H':ar):Prop:=∃n0,∀n k,n0<=n->n0<=k->rounds AP.prog (AP.call n) n k vs l H=B1 (e,H')
def uj:mA->List AV->ar->bH->ar->Prop
 | .func g=>CALL AP g
 | .yield l=>sD AP l
def nU(m:Bool)(f:mA)(vs:List AV)(H:ar)(K:AV->ar->Prop)(E:aG->ar->Prop):Prop :=
 ∃e H',uj AP f vs H e H'/\match e with
  | .ret v=>K v H'
  | .panic c=>E c H'
@[congr]def aa1{AP:ak}{m d:Bool}{f:mA}{vs c:List AV}{H:ar}{K:AV->ar->Prop}{E:aG->ar->Prop}(hm:m=d)(h:vs=c):nU AP m f vs H K E=nU AP d f c H K E:=by rw[h,hm]
def Nm(m:Bool)(vs:List AV)(K:mA->List AV->Prop):Prop:=match vs with
 | .fn (.func g) first cap::args=>K (.func g) (first++(args++cap))
 | .fn (.yield l) first []::args=>K (.yield l) (first++args)
 |_=>False
@[congr]def ab1{m d:Bool}{vs c:List AV}{K:mA->List AV->Prop}(hm:m=d)(h:vs=c):Nm m vs K=Nm d c K:=by rw[h,hm]
def Og(m:Bool)(name:String)(vs:List AV)(K:mA->List AV->Prop):Prop:=match vs with
 | .iface t v::args=>bQ aH (AP.kF t name) λ g=>K (.func g) (v::args)
 |_=>False
@[congr]def ab4{AP:ak}{m d:Bool}{name:String}{vs c:List AV}{K:mA->List AV->Prop}(hm:m=d)(h:vs=c):Og AP m name vs K=Og AP d name c K:=by rw[h,hm]
def qO(tm:T AV):List bJ->(List AV->Prop)->Prop
 |[],K=>K []
 | .tmp t::xs,K=>bQ aH (tm.get t) λ v=>qO tm xs λ vs=>K (v::vs)
 | .const v::xs,K=>qO tm xs λ vs=>K (v::vs)
 | .eF g::xs,K=>qO tm xs λ vs=>K (.ptr g 0::vs)
 | .func f::xs,K=>qO tm xs λ vs=>K (.fn (.func f) [] []::vs)
def qO.elim{tm:T AV}:∀{l:List bJ}{K:List AV->Prop},qO tm l K -> ∃vs,mB tm l=B1 vs/\K vs
 |[],K,h=>⟨[],rfl,h⟩
 | .tmp t::xs,K,h=>by
  obtain⟨v,f,h⟩:=bQ.elim (m:=aH) h;obtain⟨vs,c,d⟩:=qO.elim h;exact⟨v::vs,by simp[mB,rQ,f,c],d⟩
 | .const v::xs,K,h=>by
  obtain⟨vs,c,d⟩:=qO.elim (l:=xs) h;exact⟨v::vs,by simp[mB,rQ,c],d⟩
 | .eF v::xs,K,h=>by
  obtain⟨vs,c,d⟩:=qO.elim (l:=xs) h;exact⟨_,by simp[mB,rQ,c],d⟩
 | .func v::xs,K,h=>by
  obtain⟨vs,c,d⟩:=qO.elim (l:=xs) h;exact⟨_,by simp[mB,rQ,c],d⟩
def FT(tm:T AV)(x:bJ)(K:AV->Prop):Prop:=match x with
 | .tmp t=>bQ aH (tm.get t) K
 | .const v=>K v
 | .eF g=>K (.ptr g 0)
 | .func f=>K (.fn (.func f) [] [])
def FT.elim{tm:T AV}{x:bJ}{K:AV->Prop}(h:FT tm x K):∃v,rQ tm x=B1 v/\K v:=by
 cases x with
 |tmp t=>exact bQ.elim (m:=aH) h
 |const v=>exact⟨v,rfl,h⟩
 |eF v=>exact⟨_,rfl,h⟩
 |func v=>exact⟨_,rfl,h⟩
abbrev cG:=aX->St->Prop
def AK(ps:Option (List Nat))(tm:T AV)(aZ:List aM)(up:Option aG)(Q:cG)(c:aG)(H:ar):Prop:=match ps with
 |some ds=>Q (.panic c) ⟨forget ds tm,aZ,up,H⟩
 |none=>False
def yD(m:Bool)(ctx:Ctx)(up:Option aG)(K:AV->Option aG->Prop):Prop:=ctx.round=B5/\match up with
 |some ((v,B2)::older)=>K v (B1 ((v,B4)::older))
 |_=>K .nili up
@[congr]def aa3{m d:Bool}{ctx:Ctx}{up c:Option aG}{K:AV->Option aG->Prop}(hm:m=d)(h:up=c):yD m ctx up K=yD d ctx c K:=by rw[h,hm]
def Il(m:Bool)(ctx:Ctx)(vs:List AV)(aZ:List aM)(K:List aM->Prop):Prop:=ctx.round=B5/\match vs with
 | .fn (.func f) first cap::args=>K (.fn (.func f) (first++(args++cap))::aZ)
 |_=>False
@[congr]def aa5{m d:Bool}{ctx:Ctx}{vs c:List AV}{aZ:List aM}{K:List aM->Prop}(hm:m=d)(h:vs=c):Il m ctx vs aZ K=Il d ctx c aZ K:=by rw[h,hm]
def gD(vs:List AV)(H:ar)(E:aG->ar->Prop):Prop:=match vs with
 |[.iface t v]=>E [(.iface t v,B2)] H
 |_=>False
@[congr]def aa0{vs c:List AV}{H:ar}{E:aG->ar->Prop}(h:vs=c):gD vs H E=gD c H E:=by rw[h]
def oE(ctx:Ctx)(dst:Option Nat)(ps:Option (List Nat))(st:St)(Q:cG)(K:St->Prop)(vs:List AV):fJ->Prop
 | .pure f=>bQ aH (f vs) λ v=>K ⟨eH dst v st.tm,st.aZ,st.up,st.H⟩
 | .read f=>bQ aH (f vs st.H) λ v=>K ⟨eH dst v st.tm,st.aZ,st.up,st.H⟩
 | .alloc f=>iZ aH (f vs) λ o mk=>K ⟨eH dst (mk st.H.au) st.tm,st.aZ,st.up,st.H.alloc o⟩
 | .gN f=>iZ aH (f vs st.H) λ v H=>K ⟨eH dst v st.tm,st.aZ,st.up,H⟩
 | .iq g=>nU AP aH (.func g) vs st.H (λ v H=>K ⟨eH dst v st.tm,st.aZ,st.up,H⟩) (AK ps st.tm st.aZ st.up Q)
 | .ik=>Nm aH vs λ f vs=>nU AP aH f vs st.H (λ v H=>K ⟨eH dst v st.tm,st.aZ,st.up,H⟩) (AK ps st.tm st.aZ st.up Q)
 | .invoke name=>Og AP aH name vs λ f vs=>nU AP aH f vs st.H (λ v H=>K ⟨eH dst v st.tm,st.aZ,st.up,H⟩) (AK ps st.tm st.aZ st.up Q)
 | .recover=>match vs with
  |[]=>yD aH ctx st.up λ v up=>K ⟨eH dst v st.tm,st.aZ,up,st.H⟩
  |_=>False
 | .defer=>Il aH ctx vs st.aZ λ aZ=>K ⟨eH dst .undef st.tm,aZ,st.up,st.H⟩
 | .panic=>gD vs st.H (AK ps st.tm st.aZ st.up Q)
def Qo(dst:Option Nat)(st:St)(vs:List AV):fJ->Prop
 | .read f=>match dst with
  |some d=>bQ aH (f vs st.H) λ v=>bQ aH (st.tm.get d) λ v'=>v=v'
  |none=>False
 |_=>False
def rB(ctx:Ctx)(s:aO)(st:St)(Q:cG)(K:St->Prop):Prop :=
 match s.ij with
 |false=>match s.guard with
  |none=>qO st.tm s.args λ vs=>oE AP ctx s.dst s.cA st Q K vs s.op
  |some g=>bQ aH (cP g.2 (st.tm.get g.1)) λ w=>L3 aH w (qO st.tm s.args λ vs=>oE AP ctx s.dst s.cA st Q K vs s.op) (K ⟨eH s.dst .undef st.tm,st.aZ,st.up,st.H⟩)
 |true=>match s.guard with
  |none=>qO st.tm s.args λ vs=>Qo s.dst st vs s.op/\K st
  |some g=>bQ aH (cP g.2 (st.tm.get g.1)) λ w=>L3 aH w (qO st.tm s.args λ vs=>Qo s.dst st vs s.op/\K st) (s.dst.isSome=B4/\K st)
def oq(ctx:Ctx):List aO->St->cG->Prop
 |[],st,Q=>Q .normal st
 |s::rest,st,Q=>rB AP ctx s st Q λ st'=>oq ctx rest st' Q
def BN(W:St->cG->Prop)(Q:cG):cG:=λ e st=>match e with
 | .normal=>W st Q
 |e=>Q e st
def BLK(id:Nat)(Q:cG):cG:=λ e st=>match e with
 | .exit id'=>Q (cond (J3 id id') .normal (.exit id')) st
 |e=>Q e st
def SCP(b:ai)(Q:cG):cG:=λ e st=>match e with
 | .goto l=>FY b l=B2/\Q (.goto l) st
 |e=>Q e st
def kT(ah:Option (List Nat))(st:St):St:=match ah with
 |none=>st
 |some ks=>{st with tm:=Y1 st.tm ks .nil}
def MJ(W:St->cG->Prop)(ah:Option (List Nat))(st:St)(Q:cG):Prop :=
 ∃I:Nat->St->Prop,(∃n,I n st) /\ ∀n st,I n st->W (kT ah st) λ e st'=>match e with
  | .normal=>∃m,m<n/\I m st'
  |e=>Q e st'
def VP(st:St)(aZ:List aM)(l:Nat)(Q:cG)(e:bH)(H:ar):Prop:=match e with
 | .panic c=>Q (.panic c) {st with aZ:=aZ,H:=H}
 | .ret _=>∃s p f k tm d,H.get l=B1 (.loop s p f k tm d)/\s≠ .busy/\Q (rN p) {st with aZ:=aZ,H:=H.set l (.loop .exhausted p f k tm d)}
def mN(ctx:Ctx)(st:St)(k:Nat)(H0:ar)(aZ:List aM)(d:Nat)(Q:cG):AV->Prop
 | .fn (.func g) first cap=>∃e H',CALL AP g (first++(.fn (.yield H0.au) [] []::cap)) (H0.alloc (.loop .ready B5 ctx.fn k st.tm d)) e H'/\VP st aZ H0.au Q e H'
 |_=>False
def J0(ctx:Ctx)(k:Nat)(st:St)(Q:cG)(v:AV):Prop:=match ctx.round with
 |none=>mN AP ctx st k (st.H.alloc (.deferred (B1 []))) (.jJ st.H.au::st.aZ) st.H.au Q v
 |some l=>bQ aH (BH st.H l) λ d=>mN AP ctx st k st.H st.aZ d Q v
def WP(ctx:Ctx):ai->St->cG->Prop
 | .skip,st,Q=>Q .normal st
 | .label _,st,Q=>Q .normal st
 | .region steps,st,Q=>oq AP ctx steps st Q
 | .seq a b,st,Q=>WP ctx a st (BN (WP ctx b) Q)
 | .cond c a b,st,Q=>FT st.tm c λ v=>bQ aH (asBool v) λ q=>L3 aH q (WP ctx a st Q) (WP ctx b st Q)
 | .block id b,st,Q=>WP ctx b st (BLK id Q)
 | .loop ah b,st,Q=>MJ (WP ctx b) ah st Q
 | .exit id,st,Q=>Q (.exit id) st
 | .goto l,st,Q=>Q (.goto l) st
 | .ret,st,Q=>Q .ret st
 | .stuck,_,_=>False
 | .scope b,st,Q=>WP ctx b st (SCP b Q)
 | .rangeFunc f k,st,Q=>FT st.tm f λ v=>J0 AP ctx k st Q v
section
variable(ctx:Ctx)(st:St)(Q:cG)
def gX(s:aO)(l:List aO):oq AP ctx (s::l) st Q=rB AP ctx s st Q λ c=>oq AP ctx l c Q:=propext kq
end
def EX(ctx:Ctx)(c:ai)(st:St)(r:aX×St):Prop:=∃n0,∀n k,n0<=n->n0<=k->(bG c).run (yI AP n k ctx) st=B1 r
def EXS(ctx:Ctx)(l:List aO)(st:St)(r:aX×St):Prop:=∃n0,∀n k,n0<=n->n0<=k->(gW l).run (yI AP n k ctx) st=B1 r
def uj.run{AP:ak}{f:mA}{vs:List AV}{H:ar}{e:bH}{H':ar}(h:uj AP f vs H e H') :
 ∃n0,∀n k,n0<=n->n0<=k->cV (AP.call n) (rounds AP.prog (AP.call n) n k) f vs H=B1 (e,H'):=by
 cases f with
 |func g=>obtain⟨n0,h⟩:=h;exact⟨n0,λ n k hn _=>by simp[cV,h n hn]⟩
 |yield l=>obtain⟨n0,h⟩:=h;exact⟨n0,λ n k hn hk=>by simp[cV,h n k hn hk]⟩
def q7m:(∀v,ct v v=B4)/\(∀l,fj l l=B4):=by
 have e1:∀n,J3 n n=true:=λ n=>by simp
 have e2:∀k,rT k k=true:=λ k=>by cases k<;>rfl
 have c:∀i,uT i i=true:=λ i=>by rw[EA];simp
 have d:∀s,Az s s=true:=λ s=>by rw[Kn];simp
 refine⟨λ v=>?_,λ l=>?_⟩
 .refine AV.rec (motive_1:=λ v=>ct v v=B4) (motive_2:=λ l=>fj l l=B4) ?_ ?_ ?_ ?_ ?_ ?_ ?_ ?_ ?_ ?_ ?_ ?_ ?_ ?_ ?_ ?_ ?_ ?_ ?_ v
  all_goals (intros;first|rfl|(simp only[ct,fj,js,beq_self_eq_true, *];done)|(rename_i f _ _ _ _;cases f<;>simp only[ct,js, *]))
 .refine AV.rec_1 (motive_1:=λ v=>ct v v=B4) (motive_2:=λ l=>fj l l=B4) ?_ ?_ ?_ ?_ ?_ ?_ ?_ ?_ ?_ ?_ ?_ ?_ ?_ ?_ ?_ ?_ ?_ ?_ ?_ l
  all_goals (intros;first|rfl|(simp only[ct,fj,js,beq_self_eq_true, *];done)|(rename_i f _ _ _ _;cases f<;>simp only[ct,js, *]))
def xjm(v:AV):ct v v=true:=q7m.1 v
def Qo.run{d:Option Nat}{st:St}{vs:List AV}{op:fJ}(h:Qo d st vs op):∃t,d=B1 t/\rL (T.oP (T.path t)).run st vs op=true:=by
 cases op with
 |read f =>
  cases d with
  |none=>exact OH h
  |some t =>
   refine⟨t,rfl,?_⟩;obtain⟨v,g,h⟩:=bQ.elim (m:=aH) h;obtain⟨j,i,h⟩:=bQ.elim (m:=aH) h;subst h;have c:(T.oP (T.path t)).run st.tm=B1 v:=by rw[T.jT];exact i
   simp[rL,g,c,xjm]
 |_=>exact OH h
def oE.run{AP:ak}{ctx:Ctx}{dst:Option Nat}{t:Option (List Nat)}{st:St}{Q:cG}{K:St->Prop}{vs:List AV}{op:fJ}(h:oE AP ctx dst t st Q K vs op)
 {kk:Nat->Nat->St->gQ} (p:∀st,K st -> ∃e d,Q e d /\ ∃n0,∀n k,n0<=n->n0<=k->kk n k st=B1 (e,d)) :
 ∃e d,Q e d /\ ∃n0,∀n k,n0<=n->n0<=k->(ri (lM dst).run t op).run (yI AP n k ctx) st (kk n k) vs=B1 (e,d):=by
 have hp:∀v tm,(lM dst).run v tm=eH dst v tm:=ZD dst;have call:∀{f vs},nU AP aH f vs st.H (λ v H=>K ⟨eH dst v st.tm,st.aZ,st.up,H⟩) (AK t st.tm st.aZ st.up Q) ->
  ∃e d,Q e d /\ ∃n0,∀n k,n0<=n->n0<=k->((cV (AP.call n) (rounds AP.prog (AP.call n) n k) f vs st.H).bind λ r=>fI (lM dst).run t st (kk n k) r)=B1 (e,d):=by
  rintro f vs ⟨e,H',l,h⟩;obtain⟨n0,l⟩:=l.run;cases e with
  |ret v =>
   obtain⟨e,d,j,n1,i⟩:=p _ h;refine⟨e,d,j,max n0 n1,λ n k hn hk=>?_⟩;rw[l n k (by omega) (by omega)]
   simpa[fI,hp]using i n k (by omega) (by omega)
  |panic c =>
   cases t with
   |none=>exact OH h
   |some ds =>
    refine⟨_,_,h,n0,λ n k hn hk=>?_⟩;rw[l n k (by omega) (by omega)];simp[fI]
 cases op with
 |pure f =>
  obtain⟨v,l,h⟩:=bQ.elim (m:=aH) h;obtain⟨e,d,j,n1,i⟩:=p _ h;exact⟨e,d,j,n1,λ n k hn hk=>by simp[ri,EE,l,hp,i n k hn hk]⟩
 |read f =>
  obtain⟨v,l,h⟩:=bQ.elim (m:=aH) h;obtain⟨e,d,j,n1,i⟩:=p _ h;exact⟨e,d,j,n1,λ n k hn hk=>by simp[ri,Cr,l,hp,i n k hn hk]⟩
 |alloc f =>
  simp only[oE]at h;obtain⟨o,mk,l,h⟩:=iZ.elim (m:=aH) h;obtain⟨e,d,j,n1,i⟩:=p _ h;exact⟨e,d,j,n1,λ n k hn hk=>by simp[ri,xC,l,hp,i n k hn hk]⟩
 |gN f =>
  simp only[oE]at h;obtain⟨o,mk,l,h⟩:=iZ.elim (m:=aH) h;obtain⟨e,d,j,n1,i⟩:=p _ h;exact⟨e,d,j,n1,λ n k hn hk=>by simp[ri,Lp,l,hp,i n k hn hk]⟩
 |iq f=>exact call h
 |ik =>
  simp only[oE,Nm]at h;split at h
  .exact call h
  .exact call h
  .exact OH h
 |invoke name =>
  simp only[oE,Og]at h;split at h
  .obtain ⟨g,hg,h⟩:=bQ.elim (m:=aH) h;obtain⟨e,d,j,n1,i⟩:=call h;exact⟨e,d,j,n1,λ n k hn hk=>by simpa[ri,tJ,yI,(show AP.prog.kF _ name=B1 g from hg)]using i n k hn hk⟩
  .exact OH h
 |recover =>
  simp only[oE]at h;split at h
  .obtain ⟨hr,h⟩:=h;split at h
   .rename_i v s q;obtain⟨e,d,j,n1,i⟩:=p _ h;exact⟨e,d,j,n1,λ n k hn hk=>by simpa[ri,UE,yI,hr,Sg,q,hp]using i n k hn hk⟩
   .rename_i q;obtain⟨e,d,j,n1,i⟩:=p _ h;refine⟨e,d,j,n1,λ n k hn hk=>?_⟩;have:Sg (lM dst).run st=⟨eH dst .nili st.tm,st.aZ,st.up,st.H⟩:=by
     unfold Sg;split
     .rename_i v s hu;exact(q _ _ hu).elim
     .rw [hp]
    simpa[ri,UE,yI,hr,this]using i n k hn hk
  .exact OH h
 |defer =>
  obtain⟨hr,h⟩:=h;split at h
  .obtain ⟨e,d,j,n1,i⟩:=p _ h;exact⟨e,d,j,n1,λ n k hn hk=>by simpa[ri,wL,yI,hr,hp]using i n k hn hk⟩
  .exact OH h
 |panic =>
  simp only[oE,gD]at h;split at h
  .cases t with
   |none=>exact OH h
   |some ds=>exact⟨_,_,h,0,λ n k hn hk=>by simp[ri,vZ,fI]⟩
  .exact OH h
def rB.run{AP:ak}{ctx:Ctx}{s:aO}{st:St}{Q:cG}{K:St->Prop}(h:rB AP ctx s st Q K)
 {kk:Nat->Nat->St->gQ} (o:∀st,K st -> ∃e c,Q e c /\ ∃n0,∀n k,n0<=n->n0<=k->kk n k st=B1 (e,c)) :
 ∃e c,Q e c /\ ∃n0,∀n k,n0<=n->n0<=k->(gR s).run (yI AP n k ctx) (kk n k) st=B1 (e,c):=by
 obtain⟨ij,dst,guard,args,op,u⟩:=s;have hp:∀v tm,(lM dst).run v tm=eH dst v tm:=ZD dst;have p:∀g,(T.oP (T.path g)).run st.tm=st.tm.get g:=λ g=>by rw[T.jT];rfl
 cases ij with
 |false =>
  cases guard with
  |none =>
   obtain⟨vs,l,h⟩:=qO.elim h;obtain⟨e,c,j,n0,f⟩:=h.run o;exact⟨e,c,j,n0,λ n k hn hk=>by simpa[gR,Hl,l]using f n k hn hk⟩
  |some g =>
   obtain⟨w,hw,h⟩:=bQ.elim (m:=aH) h;cases w with
   |true =>
    obtain⟨vs,l,h⟩:=qO.elim h;obtain⟨e,c,j,n0,f⟩:=h.run o;exact⟨e,c,j,n0,λ n k hn hk=>by simpa[gR,p,hw,Hl,l]using f n k hn hk⟩
   |false =>
    obtain⟨e,c,j,n0,f⟩:=o _ h;exact⟨e,c,j,n0,λ n k hn hk=>by simpa[gR,p,hw,hp]using f n k hn hk⟩
 |true =>
  cases guard with
  |none =>
   obtain⟨vs,l,hk,q⟩:=qO.elim h;obtain⟨t,rfl,hk⟩:=hk.run;obtain⟨e,c,j,n0,f⟩:=o _ q;exact⟨e,c,j,n0,λ n k hn i=>by simpa[gR,Hl,l,hk]using f n k hn i⟩
  |some g =>
   obtain⟨w,hw,h⟩:=bQ.elim (m:=aH) h;cases w with
   |true =>
    obtain⟨vs,l,hk,q⟩:=qO.elim h;obtain⟨t,rfl,hk⟩:=hk.run;obtain⟨e,c,j,n0,f⟩:=o _ q;exact⟨e,c,j,n0,λ n k hn i=>by simpa[gR,p,hw,Hl,l,hk]using f n k hn i⟩
   |false =>
    obtain⟨r,h⟩:=h;obtain⟨e,c,j,n0,f⟩:=o _ h;cases dst with
    |none=>cases r
    |some d=>exact⟨e,c,j,n0,λ n k hn i=>by simpa[gR,p,hw]using f n k hn i⟩
def oq.run{AP:ak}{ctx:Ctx}:∀{l:List aO}{st:St}{Q:cG},oq AP ctx l st Q -> ∃e c,Q e c/\EXS AP ctx l st (e,c)
 |[],st,Q,h=>⟨_,_,h,0,λ _ _ _ _=>rfl⟩
 |s::rest,st,Q,h=>by
  obtain⟨e,c,d,n0,h⟩:=rB.run (kk:=λ n k=>(gW rest).run (yI AP n k ctx)) h λ c hs=>oq.run hs;exact⟨e,c,d,n0,h⟩
def D9{AP:ak}{ctx:Ctx}{ah:Option (List Nat)}{b:ai}{Q:cG}{I:Nat->St->Prop}
 (hb:∀n st,I n st -> ∃e f,(match e with| .normal=>∃m,m<n/\I m f|e=>Q e f)/\EX AP ctx b (kT ah st) (e,f)) :
 ∀m n,n<=m -> ∀st,I n st -> ∃e f,Q e f /\ ∃n0 c,∀n k,n0<=n->n0<=k -> ∀d,c<=d->gT ah ((bG b).run (yI AP n k ctx)) d st=B1 (e,f):=by
 intro m
 induction m with
 |zero =>
  intro n hn st q;obtain⟨e,f,h,n0,g⟩:=hb n st q;cases e with
  |normal=>obtain⟨j,w,_⟩:=h;omega
  |exit id=>exact⟨_,_,h,n0,1,λ n k hn hk d i=>by obtain⟨c,rfl⟩:∃c,d=c+1:=⟨d-1,by omega⟩;have:=g n k hn hk;cases ah<;>simp[gT,kT]at this⊢<;>simp[this]⟩
  |goto l=>exact⟨_,_,h,n0,1,λ n k hn hk d i=>by obtain⟨c,rfl⟩:∃c,d=c+1:=⟨d-1,by omega⟩;have:=g n k hn hk;cases ah<;>simp[gT,kT]at this⊢<;>simp[this]⟩
  |ret=>exact⟨_,_,h,n0,1,λ n k hn hk d i=>by obtain⟨c,rfl⟩:∃c,d=c+1:=⟨d-1,by omega⟩;have:=g n k hn hk;cases ah<;>simp[gT,kT]at this⊢<;>simp[this]⟩
  |panic p=>exact⟨_,_,h,n0,1,λ n k hn hk d i=>by obtain⟨c,rfl⟩:∃c,d=c+1:=⟨d-1,by omega⟩;have:=g n k hn hk;cases ah<;>simp[gT,kT]at this⊢<;>simp[this]⟩
 |succ m ih =>
  intro n hn st q;obtain⟨e,f,h,n0,g⟩:=hb n st q;cases e with
  |normal =>
   obtain⟨j,w,r⟩:=h;obtain⟨e,s,x,n1,c,t⟩:=ih j (by omega) f r;refine⟨e,s,x,max n0 n1,c+1,λ n k hn hk d i=>?_⟩;obtain⟨o,rfl⟩:∃c,d=c+1:=⟨d-1,by omega⟩
   have:=g n k (by omega) (by omega);have u:=t n k (by omega) (by omega) o (by omega);cases ah<;>simp[gT,kT]at this⊢<;>simp[this,u]
  |exit id=>exact⟨_,_,h,n0,1,λ n k hn hk d i=>by obtain⟨c,rfl⟩:∃c,d=c+1:=⟨d-1,by omega⟩;have:=g n k hn hk;cases ah<;>simp[gT,kT]at this⊢<;>simp[this]⟩
  |goto l=>exact⟨_,_,h,n0,1,λ n k hn hk d i=>by obtain⟨c,rfl⟩:∃c,d=c+1:=⟨d-1,by omega⟩;have:=g n k hn hk;cases ah<;>simp[gT,kT]at this⊢<;>simp[this]⟩
  |ret=>exact⟨_,_,h,n0,1,λ n k hn hk d i=>by obtain⟨c,rfl⟩:∃c,d=c+1:=⟨d-1,by omega⟩;have:=g n k hn hk;cases ah<;>simp[gT,kT]at this⊢<;>simp[this]⟩
  |panic p=>exact⟨_,_,h,n0,1,λ n k hn hk d i=>by obtain⟨c,rfl⟩:∃c,d=c+1:=⟨d-1,by omega⟩;have:=g n k hn hk;cases ah<;>simp[gT,kT]at this⊢<;>simp[this]⟩
def mN.run{AP:ak}{ctx:Ctx}{st:St}{j:Nat}{H0:ar}{aZ:List aM}{d:Nat}{Q:cG}{v:AV}(h:mN AP ctx st j H0 aZ d Q v) :
 ∃e g,Q e g /\ ∃n0,∀n k,n0<=n->n0<=k->jB (AP.call n) (rounds AP.prog (AP.call n) n k) ctx st j H0 aZ d v=B1 (e,g):=by
 unfold mN at h;split at h
 .obtain ⟨e,H',⟨n0,i⟩,h⟩:=h;cases e with
  |panic c=>exact⟨_,_,h,n0,λ n k hn hk=>by simp[jB,cV,i n hn,N9]⟩
  |ret v =>
   obtain⟨s,p,f,k,tm,d,hg,hs,h⟩:=h;refine⟨_,_,h,n0,λ n k hn hk=>?_⟩;simp only[jB,cV,i n hn,N9,qr,hg]
 .exact OH h
def WP.run{AP:ak}{ctx:Ctx}:∀{c:ai}{st:St}{Q:cG},WP AP ctx c st Q -> ∃e j,Q e j/\EX AP ctx c st (e,j)
 | .skip,st,Q,h=>⟨_,_,h,0,λ _ _ _ _=>rfl⟩
 | .label _,st,Q,h=>⟨_,_,h,0,λ _ _ _ _=>rfl⟩
 | .exit _,st,Q,h=>⟨_,_,h,0,λ _ _ _ _=>rfl⟩
 | .goto _,st,Q,h=>⟨_,_,h,0,λ _ _ _ _=>rfl⟩
 | .ret,st,Q,h=>⟨_,_,h,0,λ _ _ _ _=>rfl⟩
 | .stuck,st,Q,h=>OH h
 | .region steps,st,Q,h=>oq.run h
 | .seq a b,st,Q,h=>by
  obtain⟨e,cW,i,n0,g⟩:=WP.run (c:=a) h;cases e with
  |normal =>
   obtain⟨e,t,o,n1,x⟩:=WP.run (c:=b) i;exact⟨e,t,o,max n0 n1,λ n k hn hk=>by simp[bG,g n k (by omega) (by omega),uR,x n k (by omega) (by omega)]⟩
  |exit id=>exact⟨_,_,i,n0,λ n k hn hk=>by simp[bG,g n k hn hk,uR]⟩
  |goto id=>exact⟨_,_,i,n0,λ n k hn hk=>by simp[bG,g n k hn hk,uR]⟩
  |ret=>exact⟨_,_,i,n0,λ n k hn hk=>by simp[bG,g n k hn hk,uR]⟩
  |panic p=>exact⟨_,_,i,n0,λ n k hn hk=>by simp[bG,g n k hn hk,uR]⟩
 | .cond c a b,st,Q,h=>by
  obtain⟨v,r,h⟩:=FT.elim h;obtain⟨q,o,h⟩:=bQ.elim (m:=aH) h;have hv':v=.bool q:=by
   unfold asBool at o;split at o
   .injection o with o;rw[o]
   .cases o
  subst hv';cases q with
  |true =>
   obtain⟨e,cW,i,n0,g⟩:=WP.run (c:=a) h;exact⟨e,cW,i,n0,λ n k hn hk=>by simp[bG,Je,r,uD,g n k hn hk]⟩
  |false =>
   obtain⟨e,cW,i,n0,g⟩:=WP.run (c:=b) h;exact⟨e,cW,i,n0,λ n k hn hk=>by simp[bG,Je,r,uD,g n k hn hk]⟩
 | .block id b,st,Q,h=>by
  obtain⟨e,cW,i,n0,g⟩:=WP.run (c:=b) h;cases e with
  |exit id'=>exact⟨_,_,i,n0,λ n k hn hk=>by simp[bG,g n k hn hk,kM]⟩
  |normal=>exact⟨_,_,i,n0,λ n k hn hk=>by simp[bG,g n k hn hk,kM]⟩
  |goto id=>exact⟨_,_,i,n0,λ n k hn hk=>by simp[bG,g n k hn hk,kM]⟩
  |ret=>exact⟨_,_,i,n0,λ n k hn hk=>by simp[bG,g n k hn hk,kM]⟩
  |panic p=>exact⟨_,_,i,n0,λ n k hn hk=>by simp[bG,g n k hn hk,kM]⟩
 | .scope b,st,Q,h=>by
  obtain⟨e,cW,i,n0,g⟩:=WP.run (c:=b) h;cases e with
  |exit id'=>exact⟨_,_,i,n0,λ n k hn hk=>by simp[bG,g n k hn hk,lW]⟩
  |normal=>exact⟨_,_,i,n0,λ n k hn hk=>by simp[bG,g n k hn hk,lW]⟩
  |goto id=>exact⟨_,_,i.2,n0,λ n k hn hk=>by simp[bG,g n k hn hk,lW,i.1]⟩
  |ret=>exact⟨_,_,i,n0,λ n k hn hk=>by simp[bG,g n k hn hk,lW]⟩
  |panic p=>exact⟨_,_,i,n0,λ n k hn hk=>by simp[bG,g n k hn hk,lW]⟩
 | .loop ah b,st,Q,⟨I,⟨n,s⟩,h⟩=>by
  obtain⟨e,j,o,n0,c,g⟩:=D9 (AP:=AP) (ctx:=ctx) (ah:=ah) (b:=b) (Q:=Q) (I:=I) (λ n st s=>by
   obtain⟨e,j,i,u⟩:=WP.run (c:=b) (h n st s);exact⟨e,j,i,u⟩) n n (qm n) st s
  exact⟨e,j,o,max n0 c,λ n k hn hk=>g n k (by omega) (by omega) n (by omega)⟩
 | .rangeFunc f k0,st,Q,h=>by
  obtain⟨v,r,h⟩:=FT.elim h;unfold J0 at h;cases hr:ctx.round with
  |none =>
   rw[hr]at h;obtain⟨e,j,o,n0,g⟩:=mN.run h;exact⟨e,j,o,n0,λ n k hn hk=>by simpa[bG,Je,r,rE,yI,hr]using g n k hn hk⟩
  |some l =>
   rw[hr]at h;obtain⟨d,w,h⟩:=bQ.elim (m:=aH) h;obtain⟨e,j,o,n0,g⟩:=mN.run h;exact⟨e,j,o,n0,λ n k hn hk=>by simpa[bG,Je,r,rE,yI,hr,w]using g n k hn hk⟩
def zQ(AP:ak)(rs:List ei)(tm:T AV)(Q:bH->ar->Prop):List aM->Option aG->ar->Prop
 |[],B5,H=>bQ aH (d8 H tm rs) λ l=>Q (.ret (jN l)) H
 |[],B1 c,H=>Q (.panic c) H
 | .jJ b::ds,m,H=>H.get b=B1 (.deferred (B1 []))/\zQ AP rs tm Q ds m (H.set b (.deferred B5))
 | .fn (.func f) args::ds,m,H=>∃v up' H',jW AP f args (B1 (m.getD [])) H (.ret v) (B1 up') H'/\bQ aH (nQ m up') λ m'=>zQ AP rs tm Q ds m' H'
 | .fn (.yield _) _::_,_,_=>False
def zQ.run{AP:ak}{rs:List ei}{tm:T AV}{Q:bH->ar->Prop}:∀{ds:List aM}{m:Option aG}{H:ar},zQ AP rs tm Q ds m H ->
 ∃e H',Q e H' /\ ∃n0,∀n,n0<=n->cm (AP.call n) rs tm ds m H=B1 (e,H')
 |[],B5,H,h=>by
  obtain⟨l,hl,h⟩:=bQ.elim (m:=aH) h;exact⟨_,_,h,0,λ n _=>by simp[cm,hl]⟩
 |[],B1 c,H,h=>⟨_,_,h,0,λ n _=>by simp[cm]⟩
 | .jJ b::ds,m,H,⟨hb,h⟩=>by
  obtain⟨e,H',d,n0,g⟩:=zQ.run h;exact⟨e,H',d,n0,λ n hn=>by simp[cm,hb,g n hn]⟩
 | .fn (.func f) args::ds,m,H,⟨v,up',H',⟨n0,hc⟩,h⟩=>by
  obtain⟨j,hm,h⟩:=bQ.elim (m:=aH) h;obtain⟨e,i,d,n1,g⟩:=zQ.run h;exact⟨e,i,d,max n0 n1,λ n hn=>by simp[cm,hc n (by omega),hm,g n (by omega)]⟩
 | .fn (.yield _) _::_,_,_,h=>OH h
def ZK(AP:ak)(rs:List ei)(Q:bH->Option aG->ar->Prop):cG:=λ e st=>match e with
 | .normal=>zQ AP rs st.tm (λ e H=>Q e st.up H) st.aZ B5 st.H
 | .ret=>zQ AP rs st.tm (λ e H=>Q e st.up H) st.aZ B5 st.H
 | .panic c=>zQ AP rs st.tm (λ e H=>Q e st.up H) st.aZ (B1 c) st.H
 |_=>False
def q3z{AP:ak}{f:Nat}{fn:bV}(i:AP.func f=B1 fn){vs:List AV}{up:Option aG}{H:ar}{Q:bH->Option aG->ar->Prop}
 (h:WP AP ⟨B5,f⟩ fn.body ⟨jV 0 vs .nil,[],up,H⟩ (ZK AP fn.results Q)):∃e d H',jW AP f vs up H e d H'/\Q e d H':=by
 obtain⟨l,i⟩:=ak.xR i;obtain⟨e,st,g,n0,p⟩:=h.run;have key:∀m,zQ AP fn.results st.tm (λ e H=>Q e st.up H) st.aZ m st.H->(∀call,qG call fn (e,st)=(cm call fn.results st.tm st.aZ m st.H).bind λ q=>B1 (q.1,st.up,q.2)) ->
  ∃e d H',jW AP f vs up H e d H'/\Q e d H':=by
  intro m g he;obtain⟨e',H',o,n1,r⟩:=g.run;refine⟨e',st.up,H',⟨max n0 n1+1,λ n hn=>?_⟩,o⟩;obtain⟨n,rfl⟩:∃j,n=j+1:=⟨n-1,by omega⟩
  have:=p n n (by omega) (by omega);simp only[yI]at this;rw[ak.zP l];simp only[Iz,i,qr,exec,this,he,r n (by omega)]
 cases e with
 |normal=>exact key B5 g λ _=>rfl
 |ret=>exact key B5 g λ _=>rfl
 |panic c=>exact key (B1 c) g λ _=>rfl
 |exit _=>exact OH g
 |goto _=>exact OH g
def _1{AP:ak}{f:Nat}{fn:bV}(g:AP.func f=B1 fn){vs:List AV}{H:ar}{Q:bH->ar->Prop}
 (h:WP AP ⟨B5,f⟩ fn.body ⟨jV 0 vs .nil,[],B5,H⟩ (ZK AP fn.results λ e up H=>up=B5/\Q e H)):∃e H',CALL AP f vs H e H'/\Q e H':=by
 obtain⟨e,i,H',c,rfl,d⟩:=q3z g h;exact⟨e,H',c,d⟩
def RE(l:Nat)(Q:bH->ar->Prop):cG:=λ e st=>st.aZ=[]/\match e with
 | .panic c=>Q (.panic c) st.H
 |e=>bQ aH (cO st.H l (cond (zZ e) .ready .done) (kY e)) λ H=>Q (.ret (.bool (zZ e))) H
def RB(W:St->cG->Prop)(l:Nat)(Q:bH->ar->Prop):cG:=λ e st=>match e with
 | .normal=>bQ aH (beginRound st.H l) λ H=>W {st with H:=H} (RE l Q)
 |_=>False
def W2{AP:ak}{l:Nat}{H:ar}{s:mV}{p:Option ic}{f k:Nat}{tm:T AV}{d:Nat}{fn:bV}{lp:dM}{vs:List AV}{u:T AV}{Q:bH->ar->Prop}
 (hl:H.get l=B1 (.loop s p f k tm d)) (y:AP.func f=B1 fn) (hk:nth fn.loops k=B1 lp) (hb:Ml tm lp.params vs=B1 u)
 (h:WP AP ⟨B1 l,f⟩ lp.assign ⟨u,[],B5,H⟩ (RB (WP AP ⟨B1 l,f⟩ lp.body) l Q)):∃e H',sD AP l vs H e H'/\Q e H':=by
 obtain⟨F,y⟩:=ak.xR y;obtain⟨e,st,o,n0,J⟩:=h.run;cases e with
 |normal =>
  obtain⟨N,x,o⟩:=bQ.elim (m:=aH) o;obtain⟨e,z,⟨C,g⟩,n1,L⟩:=WP.run o;have key:∀e' H',Q e' H'->Gn l (e,z)=B1 (e',H') -> ∃e H',sD AP l vs H e H'/\Q e H':=by
   intro e' H' G he;refine⟨e',H',⟨max n0 n1+1,λ n j hn O=>?_⟩,G⟩;obtain⟨j,rfl⟩:∃i,j=i+1:=⟨j-1,by omega⟩
   have r:=J n j (by omega) (by omega);have t:=L n j (by omega) (by omega);simp only[yI]at r t;simp only[rounds,roundOf,hl,y,qr,hk,hb,exec,r,x,t,C,roundOf.noDefs,xw,he]
  cases e with
  |panic c=>exact key _ _ g rfl
  |normal=>obtain⟨w,q,g⟩:=bQ.elim (m:=aH) g;exact key _ _ g (by simp[Gn,q])
  |exit id=>obtain⟨w,q,g⟩:=bQ.elim (m:=aH) g;exact key _ _ g (by simp[Gn,q])
  |goto id=>obtain⟨w,q,g⟩:=bQ.elim (m:=aH) g;exact key _ _ g (by simp[Gn,q])
  |ret=>obtain⟨w,q,g⟩:=bQ.elim (m:=aH) g;exact key _ _ g (by simp[Gn,q])
 |exit _=>exact OH o
 |goto _=>exact OH o
 |ret=>exact OH o
 |panic _=>exact OH o
def CALL.Da{AP:ak}{f:Nat}{vs:List AV}{H:ar}{e:bH}{H':ar}(h:CALL AP f vs H e H'):∃n,AP.call n f vs B5 H=B1 (e,B5,H'):=by
 obtain⟨n,h⟩:=h;exact⟨n,h n (qm n)⟩
end
end Go.Am
namespace Go.Am
abbrev Env:=List (Nat×AV)
def lK(dst:Option Nat)(v:AV)(E:Env):Env:=match dst with
 |some d=>(d,v)::E
 |none=>E
def tP{α β:Type}(m:Bool)(o:Option (α×β))(K:Bool -> α -> β->Prop):Prop:=match o with
 |some a=>K aH a.1 a.2
 |none=>False
def LK{α:Type}(m:Bool)(o:Option α)(K:Bool -> α->Prop):Prop:=match o with
 |some a=>K m a
 |none=>False
def GJ{α:Type}(a:α)(K:Bool -> α->Prop):LK B4 (B1 a) K=K B4 a:=propext kq
@[congr]def ac6{α:Type}{m c:Bool}{o o':Option α}{K:Bool -> α->Prop}(hm:m=c)(h:o=o'):LK m o K=LK c o' K:=by subst hm;subst h;rfl
@[congr]def aa9{α β:Type}{m c:Bool}{o o':Option (α×β)}{K:Bool -> α -> β->Prop}(hm:m=c)(h:o=o'):tP m o K=tP c o' K:=by subst hm;subst h;rfl
def tP.intro{α β:Type}{m:Bool}{o:Option (α×β)}{K:Bool -> α -> β->Prop}{a:α}{b:β}(h:o=B1 (a,b))(hk:K aH a b):tP m o K:=by subst h;exact hk
noncomputable section
variable(AP:ak)
end
end Go.Am
namespace Go.Am
def xng(n:Int):aj .i64 n=(n+9223372036854775808) % 18446744073709551616-9223372036854775808:=by
 simp[aj,IntKind.wrap,Bj,Bi];split<;>omega
def xd0(n:Int):aj .u64 n=n % 18446744073709551616:=by simp[aj,IntKind.wrap,Bj,Bi]
def ag9(n:Int):aj .u8 n=n % 256:=by simp[aj,IntKind.wrap,Bj,Bi]
def kc{n:Int}(h:-9223372036854775808<=n)(c:n<9223372036854775808):aj .i64 n=n:=by rw[xng];omega
def xhl{n:Int}(h:0<=n)(c:n<18446744073709551616):aj .u64 n=n:=by rw[xd0];omega
def wrap_u8{n:Int}(h:0<=n)(c:n<256):aj .u8 n=n:=by rw[ag9];omega
section
variable(k:Pl)(a b:Int)
def KS(v:AV):Op.move [v]=B1 v:=rfl
def Nc(q:Bool)(a b:AV):Op.pick [.bool q,a,b]=B1 (cond q a b):=rfl
def Sn:Op.bin .add [.int k a,.int k b]=B1 (.int k (aj k (a+b))):=by cases k<;>rfl
def Pu:Op.bin .sub [.int k a,.int k b]=B1 (.int k (aj k (a-b))):=by cases k<;>rfl
def QJ:Op.bin .mul [.int k a,.int k b]=B1 (.int k (aj k (a*b))):=by cases k<;>rfl
def QK(hb:b≠0):Op.bin .quo [.int k a,.int k b]=B1 (.int k (aj k (a.tdiv b))):=by
 have:uT b 0=false:=by rw[EA];simpa using hb
 cases k<;>simp[Op.bin,nC,dZ,rT,iV,gF,this]
def sL(hb:b≠0):Op.bin .rem [.int k a,.int k b]=B1 (.int k (a.tmod b)):=by
 have:uT b 0=false:=by rw[EA];simpa using hb
 cases k<;>simp[Op.bin,nC,dZ,rT,iV,gF,this]
def QZ:Op.bin .eql [.int k a,.int k b]=B1 (.bool (decide (a=b))):=by
 have:uT a b=decide (a=b):=by rw[EA];rfl
 cases k<;>simp[Op.bin,nC,dZ,rT,iV,gF,this]
def Pm:Op.bin .neq [.int k a,.int k b]=B1 (.bool (decide (a≠b))):=by
 have:uT a b=decide (a=b):=by rw[EA];rfl
 cases k<;>simp[Op.bin,nC,dZ,rT,iV,gF,this]
def PG:Op.bin .lss [.int k a,.int k b]=B1 (.bool (decide (a<b))):=by
 cases k<;>simp[Op.bin,nC,dZ,rT,iV,gF,JM]
def O1:Op.bin .leq [.int k a,.int k b]=B1 (.bool (decide (a<=b))):=by
 cases k<;>simp[Op.bin,nC,dZ,rT,iV,gF,GB]
def Q6:Op.bin .gtr [.int k a,.int k b]=B1 (.bool (decide (b<a))):=by
 cases k<;>simp[Op.bin,nC,dZ,rT,iV,gF,JM]
def Pz:Op.bin .geq [.int k a,.int k b]=B1 (.bool (decide (b<=a))):=by
 cases k<;>simp[Op.bin,nC,dZ,rT,iV,gF,GB]
def Mc(k':Pl):Op.wrap k [.int k' a]=B1 (.int k (aj k a)):=rfl
def Qs(q:Bool):Op.un .not [.bool q]=B1 (.bool (!q)):=rfl
def _w(a b:List UInt8):Az a b=decide (a=b):=by
 by_cases h:a=b
 .subst h;simp[Kn]
 .simp [Kn,h]
def LJ(a b:List UInt8):Op.bin .eql [.str a,.str b]=B1 (.bool (decide (a=b))):=by
 simp only[Op.bin,nC,rq,_w]
def Lx(a b:List UInt8):Op.bin .neq [.str a,.str b]=B1 (.bool (decide (a≠b))):=by
 simp[Op.bin,nC,rq,_w]
def ad0(s:List UInt8):Op.fE [.str s]=B1 (.int .i64 s.length):=by simp[Op.fE,eS,IX]
def xmi(i:Nat)(l:List AV):Op.extract i [.tuple l]=l[i]?:=by simp[Op.extract,kE]
def ag2(f n:Nat)(l:List AV):Op.bt f n l=B1 (.fn (.func f) (l.take n) (l.drop n)):=rfl
def xmk(t:Nat)(v:AV):Op.dq t [v]=B1 (.iface t v):=rfl
def xfh(off b o:Nat):Op.fieldAddr off [.ptr b o]=B1 (.ptr b (o+off)):=rfl
def Eu(off:Nat)(l:List AV):Op.field off B5 [.agg l]=l[off]?:=by simp[Op.field,partAt,kE]
def LW(q:Bool):cP B4 (B1 (.bool q))=B1 q:=by cases q<;>rfl
def GM(q:Bool):cP B2 (B1 (.bool q))=B1 (!q):=by cases q<;>rfl
def HB(b:Bool):cP b (B1 .undef)=B1 false:=rfl
end
structure Fr(W:Nat->Prop)(H H':ar):Prop where
 au:H.au<=H'.au
 ah:∀b,b<H.au -> ¬W b->H'.get b=H.get b
def Em:Nat->Prop:=λ _=>False
def On(b:Nat):Nat->Prop:=λ x=>x=b
def Fr.refl{W:Nat->Prop}(H:ar):Fr W H H:=⟨qm _,λ _ _ _=>rfl⟩
def Fr.trans{W W':Nat->Prop}{H H1 d:ar}(a:Fr W H H1)(b:Fr W' H1 d)(h:∀x,W' x->W x\/H.au<=x):Fr W H d :=
 ⟨ze a.au b.au,λ x f hw=>by
  rw[b.ah x (qn f a.au) (λ c=>(h x c).elim hw (λ q=>by omega)),a.ah x f hw]⟩
def Fr.em{W:Nat->Prop}{H H1 c:ar}(a:Fr W H H1)(b:Fr Em H1 c):Fr W H c:=a.trans b λ _ h=>h.elim
def Fr.mono{W W':Nat->Prop}{H H':ar}(a:Fr W H H')(h:∀x,x<H.au->W x->W' x):Fr W' H H':=⟨a.au,λ x c hw=>a.ah x c λ q=>hw (h x c q)⟩
def zg(H:ar)(o:bC):(H.alloc o).au=H.au+1:=rfl
def qI(H:ar)(b:Nat)(o:bC):(H.set b o).au=H.au:=rfl
def Gv(H:ar)(b:Nat):(H.kill b).au=H.au:=rfl
def Fr.alloc{W:Nat->Prop}{H H1:ar}(a:Fr W H H1)(o:bC):Fr W H (H1.alloc o) :=
 ⟨Nat.le_succ_of_le a.au,λ x c hw=>by rw[ar.bK,qt (by have:=a.au;omega),a.ah x c hw]⟩
def Fr.set{W:Nat->Prop}{H H1:ar}(a:Fr W H H1){b:Nat}(h:W b\/H.au<=b)(o:bC):Fr W H (H1.set b o) :=
 ⟨a.au,λ x c hw=>by rw[ar.aJ,qt (by rintro rfl;exact h.elim hw (λ q=>by omega)),a.ah x c hw]⟩
def Fr.kill{W:Nat->Prop}{H H1:ar}(a:Fr W H H1){b:Nat}(h:W b\/H.au<=b):Fr W H (H1.kill b) :=
 ⟨a.au,λ x c hw=>by rw[ar.rz,qt (by rintro rfl;exact h.elim hw (λ q=>by omega)),a.ah x c hw]⟩
def xf{H:ar}{b:Nat}{c:List AV}{e:Nat}{fz:Nat×Nat}{ow:Bool}(h:H.get b=B1 (.row c e fz ow)):H.bP b=B1 c:=by simp[ar.bP,h]
def YQ{H:ar}{b m s:Nat}{c:List AV}{e:Nat}{fz:Nat×Nat}(h:H.get b=B1 (.grown m s c e fz)):H.bP b=B1 c:=by simp[ar.bP,h]
def lh{H H':ar}{b:Nat}(h:H'.get b=H.get b):H'.bP b=H.bP b:=by simp[ar.bP,h]
def Fr.cells{W:Nat->Prop}{H H':ar}(a:Fr W H H'){b:Nat}(hb:b<H.au)(hw:¬W b):H'.bP b=H.bP b:=lh (a.ah b hb hw)
def zh{H:ar}{b:Nat}{c:List AV}(h:H.bP b=B1 c)(o:Nat):Op.ae [.ptr b o] H=c[o]?:=by simp[Op.ae,ar.ae,h,kE]
def tT{H:ar}{b:Nat}{c:List AV}(h:H.bP b=B1 c){o n:Nat}(hn:o+n<=c.length):Op.av n [.ptr b o] H=B1 (.agg ((c.drop o).take n)):=by
 simp only[Op.av,ar.av,h,qr,sO];rw[xb (by omega)];rfl
def Sl(H:ar)(size:Nat)(v:AV)(n:Nat)(cells:List AV):Prop :=
 cells.length=n*size/\match v with
 | .nils=>n=0
 | .slice b o m c=>m=n/\n<=c/\(n=0\/b<H.au /\ ∃all,H.bP b=B1 all/\fM all o (n*size)=B1 cells)
 | .gslice b i m s alt k=>k=n/\s=size/\i+n<=m/\(n=0\/b<H.au /\ ∃all,H.bP b=B1 all/\fM all (i*size) (n*size)=B1 cells)
 | .eslice b=>n=0/\b<H.au
 |_=>False
def aC:AV->Nat
 | .slice b _ _ _=>b
 | .gslice b _ _ _ _ _=>b
 | .eslice b=>b
 |_=>0
def cX(size:Nat):AV->Nat->Nat
 | .slice _ o _ _,j=>o+j*size
 | .gslice _ i _ s _ _,j=>i*s+j*s
 |_,_=>0
def Sl.fy{H:ar}{size:Nat}{v:AV}{n:Nat}{cells:List AV}(h:Sl H size v n cells):fy v=B1 n:=by
 obtain⟨_,h⟩:=h;split at h
 .subst h;rfl
 .obtain ⟨rfl,_⟩:=h;rfl
 .obtain ⟨rfl,_⟩:=h;rfl
 .obtain ⟨rfl,_⟩:=h;rfl
 .exact h.elim
def Sl.len{H:ar}{size:Nat}{v:AV}{n:Nat}{cells:List AV}(h:Sl H size v n cells):Op.dm [v]=B1 (.int .i64 n):=by
 obtain⟨_,h⟩:=h;split at h
 .subst h;rfl
 .obtain ⟨rfl,_⟩:=h;rfl
 .obtain ⟨rfl,_⟩:=h;rfl
 .obtain ⟨rfl,_⟩:=h;rfl
 .exact h.elim
def MF{z:Int}{i n:Nat}(c:z=i)(h:i<n):within z n=B1 i:=by
 subst c;show cond (QS i n) (B1 i) B5=B1 i;have:QS i n=true:=by simpa[uH]using h
 rw[this];rfl
def IQ{i j:Nat}(h:i≠j):J3 i j=false:=by
 cases q:J3 i j with
 |false=>rfl
 |true=>exact(h (Jj q)).elim
def Gf{i n:Nat}(h:i<n):QS i n=true:=by simpa[uH]using h
def vf{i n:Nat}(h:i<=n):Ow i n=true:=by simpa using h
def Sl.idx{H:ar}{size:Nat}{v:AV}{n:Nat}{cells:List AV}(h:Sl H size v n cells){i:Nat}(d:i<n){z:Int}(g:z=i)(k:Pl) :
 Op.aP size [v,.int k z]=B1 (.ptr (aC v) (cX size v i)):=by
 obtain⟨hl,h⟩:=h;split at h
 .omega
 .rename_i b o m c;obtain⟨rfl,p,h⟩:=h;have f:=Gf d;simp[Op.aP,Am.fy,MF g d,elemAt,f,aC,cX]
 .rename_i b j m s alt k;obtain⟨rfl,rfl,hm,h⟩:=h;have f:=Gf d;have l:=Gf (show j+i<m by omega);simp[Op.aP,Am.fy,MF g d,elemAt,f,l,aC,cX]
 .omega
 .exact h.elim
def J8{α:Type}{l r:List α}{o n:Nat}(h:fM l o n=B1 r):n<=l.length-o/\r=(l.drop o).take n:=by
 rw[sO]at h;split at h
 .rename_i hn;injection h with h;exact⟨hn,h.symm⟩
 .cases h
def Sl.at{H:ar}{size:Nat}{v:AV}{n:Nat}{cells:List AV}(g:0<size)(h:Sl H size v n cells){i:Nat}(p:i<n) :
 aC v<H.au /\ ∃all,H.bP (aC v)=B1 all/\cX size v i+size<=all.length /\ ∀j,j<size->all[cX size v i+j]? = cells[i*size+j]?:=by
 obtain⟨hl,h⟩:=h;have t:0<n*size:=Nat.mul_pos (by omega) g;have u:i*size+size<=n*size:=by rw[<-vE];exact jo _ p
 split at h
 .omega
 .rename_i b o m c;obtain⟨rfl,w,h⟩:=h;rcases h with h|⟨hb,all,d,f⟩
  .omega
  obtain⟨l,rfl⟩:=J8 f;refine⟨hb,all,d,?_,λ j r=>?_⟩
  .simp only[cX];simp at hl;omega
  .simp only[cX];rw[yw,xb (by omega),vc];congr 1;omega
 .rename_i b q m s alt k;obtain⟨rfl,rfl,hm,h⟩:=h;rcases h with h|⟨hb,all,d,f⟩
  .omega
  obtain⟨l,rfl⟩:=J8 f;refine⟨hb,all,d,?_,λ j r=>?_⟩
  .simp only[cX];simp at hl;omega
  .simp only[cX];rw[yw,xb (by omega),vc];congr 1;omega
 .omega
 .exact h.elim
def Sl.fr{H H':ar}{W:Nat->Prop}{size:Nat}{v:AV}{n:Nat}{cells:List AV}(h:Sl H size v n cells)(f:Fr W H H')(hw:n=0 \/ ¬W (aC v)):Sl H' size v n cells:=by
 obtain⟨hl,h⟩:=h;refine⟨hl,?_⟩;split at h
 .exact h
 .obtain ⟨d,g,c⟩:=h;refine⟨d,g,?_⟩;rcases c with c|⟨hb,all,c,i⟩
  .exact .inl c
  .rcases hw with hw|hw
   .exact .inl hw
   .exact .inr ⟨qn hb f.au,all,by rw[f.cells hb hw];exact c,i⟩
 .obtain ⟨d,g,j,c⟩:=h;refine⟨d,g,j,?_⟩;rcases c with c|⟨hb,all,c,i⟩
  .exact .inl c
  .rcases hw with hw|hw
   .exact .inl hw
   .exact .inr ⟨qn hb f.au,all,by rw[f.cells hb hw];exact c,i⟩
 .exact ⟨h.1,qn h.2 f.au⟩
 .exact h.elim
def Sl.em{H H':ar}{size:Nat}{v:AV}{n:Nat}{cells:List AV}(h:Sl H size v n cells)(f:Fr Em H H'):Sl H' size v n cells:=h.fr f (.inr id)
def Sl.first{H:ar}{size:Nat}{v:AV}{n:Nat}{cells:List AV}(h:Sl H size v n cells):firstCells H size n v=B1 cells:=by
 obtain⟨hl,h⟩:=h;split at h
 .subst h;simp at hl;subst hl;rfl
 .rename_i b o m c;obtain⟨rfl,j,h⟩:=h;rcases h with rfl|⟨hb,all,d,f⟩
  .simp at hl;subst hl;rfl
  .by_cases hn:m=0
   .subst hn;simp at hl;subst hl;rfl
   .have:J3 m 0=false:=IQ hn;simp only[firstCells,this,zm,ar.av,d,qr,f]
 .rename_i b i m s alt k;obtain⟨rfl,rfl,hm,h⟩:=h;rcases h with rfl|⟨hb,all,d,f⟩
  .simp at hl;subst hl;rfl
  .by_cases hn:k=0
   .subst hn;simp at hl;subst hl;rfl
   .have:J3 k 0=false:=IQ hn;have g:=Gf (show i<m by omega);simp[firstCells,this,g,ar.av,d,f]
 .obtain ⟨rfl,_⟩:=h;simp at hl;subst hl;rfl
 .exact h.elim
def bX{α:Type}(enc:α->List AV)(size:Nat)(H:ar)(v:AV)(xs:List α):Prop:=Sl H size v xs.length (xs.flatMap enc)
section
variable{α:Type}{enc:α->List AV}{size:Nat}{H H':ar}{v:AV}{xs:List α}
def bX.len(h:bX enc size H v xs):Op.dm [v]=B1 (.int .i64 xs.length):=Sl.len h
def bX.fr{W:Nat->Prop}(h:bX enc size H v xs)(f:Fr W H H')(hw:¬W (aC v)):bX enc size H' v xs:=Sl.fr h f (.inr hw)
def bX.em(h:bX enc size H v xs)(f:Fr Em H H'):bX enc size H' v xs:=Sl.em h f
def JG(hs:∀x,(enc x).length=size):∀(xs:List α){i:Nat}{x:α},xs[i]? = B1 x -> ∀{j:Nat},j<size->(xs.flatMap enc)[i*size+j]? = (enc x)[j]?
 |[],i,x,h,j,hj=>by simp at h
 |y::ys,0,x,h,j,hj=>by
  simp at h;subst h;rw[j5,jq (by rw[hs];omega)];simp
 |y::ys,i+1,x,h,j,hj=>by
  simp only[zr]at h;rw[j5,zu (by rw[hs,vE];omega),hs,<-JG hs ys h hj];congr 1;rw[vE];omega
def CK{i:Nat}{x:α}(h:xs[i]? = B1 x):i<xs.length:=(qo.1 h).1
def bX.idx(h:bX enc size H v xs){i:Nat}{x:α}(c:xs[i]? = B1 x){z:Int}(d:z=i)(k:Pl):Op.aP size [v,.int k z]=B1 (.ptr (aC v) (cX size v i)) :=
 Sl.idx h (CK c) d k
def bX.ae(hs:∀x,(enc x).length=size)(h:bX enc size H v xs){i:Nat}{x:α}(d:xs[i]? = B1 x){j:Nat}(c:j<size):Op.ae [.ptr (aC v) (cX size v i+j)] H=(enc x)[j]?:=by
 obtain⟨_,all,f,l,g⟩:=Sl.at (by omega) h (CK d);rw[zh f,g j c,JG hs xs d c]
def bX.iS(hs:∀x,(enc x).length=size)(h:bX enc size H v xs){i:Nat}{x:α}(d:xs[i]? = B1 x)(c:0<size):Op.ae [.ptr (aC v) (cX size v i)] H=(enc x)[0]?:=h.ae hs d c
def bX.av(hs:∀x,(enc x).length=size)(d:0<size)(h:bX enc size H v xs){i:Nat}{x:α}(f:xs[i]? = B1 x):Op.av size [.ptr (aC v) (cX size v i)] H=B1 (.agg (enc x)):=by
 obtain⟨_,all,g,l,m⟩:=Sl.at d h (CK f);rw[tT g l];congr 2;refine yu λ j=>?_
 by_cases c:j<size
 .rw [yw,xb c,vc,m j c,JG hs xs f c]
 .rw [z4 (by simp;omega),z4 (by rw[hs];omega)]
end
def Own(H:ar)(e size:Nat)(v:AV)(n:Nat)(cells:List AV):Prop :=
 cells.length=n*size/\(n=0/\(v=.nils \/ ∃b,v=.slice b 0 0 0/\b<H.au) \/ ∃b,v=.gslice b 0 n size 0 n/\b<H.au/\H.get b=B1 (.grown n size cells e (0,0)))
def aN(v:AV):Nat->Prop:=λ x=>v≠ .nils/\x=aC v
def Own.nil(H:ar)(e size:Nat):Own H e size .nils 0 []:=⟨by simp,.inl ⟨rfl,.inl rfl⟩⟩
def Own.sl{H:ar}{e size:Nat}{v:AV}{n:Nat}{cells:List AV}(h:Own H e size v n cells):Sl H size v n cells:=by
 obtain⟨hl,⟨rfl,rfl|⟨b,rfl,hb⟩⟩|⟨b,rfl,c,d⟩⟩:=h
 .exact ⟨hl,rfl⟩
 .exact ⟨hl,rfl,qm _,.inl rfl⟩
 .refine ⟨hl,rfl,rfl,by omega,.inr ⟨c,cells,YQ d,?_⟩⟩;rw[sO,xb (by simp[hl])];simp[<-hl]
def Own.fr{H H':ar}{W:Nat->Prop}{e size:Nat}{v:AV}{n:Nat}{cells:List AV}(h:Own H e size v n cells)(f:Fr W H H')(hw:∀x,aN v x -> ¬W x):Own H' e size v n cells:=by
 obtain⟨hl,⟨c,h|⟨b,rfl,hb⟩⟩|⟨b,rfl,d,g⟩⟩:=h
 .exact ⟨hl,.inl ⟨c,.inl h⟩⟩
 .exact ⟨hl,.inl ⟨c,.inr ⟨b,rfl,qn hb f.au⟩⟩⟩
 .exact ⟨hl,.inr ⟨b,rfl,qn d f.au,by rw[f.ah b d (hw b ⟨by simp,rfl⟩)];exact g⟩⟩
def Own.em{H H':ar}{e size:Nat}{v:AV}{n:Nat}{cells:List AV}(h:Own H e size v n cells)(f:Fr Em H H'):Own H' e size v n cells:=h.fr f λ _ _ h=>h
def Own.lt{H:ar}{e size:Nat}{v:AV}{n:Nat}{cells:List AV}(h:Own H e size v n cells):∀x,aN v x->x<H.au:=by
 rintro x ⟨c,rfl⟩;obtain⟨hl,⟨d,h|⟨b,rfl,hb⟩⟩|⟨b,rfl,c,f⟩⟩:=h
 .exact (c h).elim
 .exact hb
 .exact c
def Sl.one{H:ar}{size:Nat}{v:AV}{n:Nat}{cells:List AV}(h:Sl H size v n cells):az v=true:=by
 obtain⟨_,h⟩:=h;cases v<;>first|rfl|exact h.elim
def Ts{n bytes:Nat}(c:n*bytes<=140737488355328)(d:n<=140737488355328):fits n bytes=true:=by
 simp[fits,c,d]
def _e{H:ar}{e size bytes:Nat}{v:AV}{n:Nat}{cells:List AV}(h:Own H e size v n cells){x:AV}{k:Nat}{new:List AV}(p:Sl H size x k new)(g:aQ new=B4)(hs:0<size)
 (u:(n+k)*bytes<=140737488355328) (l:n+k<=140737488355328) {K:Bool->AV->ar->Prop} {m:Bool}
 (hk:∀q H',Own H' e size q (n+k) (cells++new)->Fr (aN v) H H'->(∀b,aN q b->aN v b\/H.au<=b)->K aH q H'):tP m (Op.append e size bytes [v,x] H) K:=by
 have c:=Ts u l;have hlen:new.length=k*size:=p.1;have f:=Gf hs;have e1:∀n,J3 n n=true:=λ n=>by simp
 simp only[Op.append,p.fy,p.first,qr,g,xw];obtain⟨hl,⟨rfl,rfl|⟨b,rfl,hb⟩⟩|⟨b,rfl,s,r⟩⟩:=h
 .simp only[wx,jy]at hl;subst hl
  by_cases d:k=0
  .subst d;simp at hlen;subst hlen;exact hk .nils H (Own.nil H e size) (Fr.refl H) λ b hb=>.inl hb
  .have i:J3 k 0=false:=IQ d;simp only[de,i,zm,yr]at c⊢;simp only[c,f,js,xw,dB,tP];refine hk _ _ ⟨by simpa using hlen,.inr ⟨H.au,by simp,by rw[zg];omega,?_⟩⟩ ((Fr.refl H).alloc _) λ b hb=>.inr (by rw[hb.2];exact qm _);rw[ar.bK,xb rfl];simp
 .simp only[wx,jy]at hl;subst hl
  by_cases d:k=0
  .subst d;simp at hlen;subst hlen;simp only[de,vj,vf (qm 0),xw,e1,tP];exact hk _ H ⟨by simp,.inl ⟨rfl,.inr ⟨b,rfl,hb⟩⟩⟩ (Fr.refl H) λ b hb=>.inl hb
  .have i:J3 k 0=false:=IQ d;have j:Ow k 0=false:=by cases o:Ow k 0 with|false=>rfl|true=>rw[sH]at o;omega
   have t:firstCells H size 0 (.slice b 0 0 0)=B1 []:=rfl;simp only[de,yr,j,zm]at c⊢;simp only[c,vf (x9 k),f,js,xw,t,qr,pD,jc,dB,tP];refine hk _ _ ⟨by simpa using hlen,.inr ⟨H.au,by simp,by rw[zg];omega,?_⟩⟩ ((Fr.refl H).alloc _) λ b hb=>.inr (by rw[hb.2];exact qm _);rw[ar.bK,xb rfl];simp
 .by_cases d:k=0
  .subst d;simp at hlen;subst hlen;simp only[de,J3,xw,yr,vf (qm n),tP];refine hk _ _ ⟨by simpa using hl,.inr ⟨b,rfl,s,by simpa using r⟩⟩ (Fr.refl H) λ b hb=>.inl hb
  .have i:J3 k 0=false:=IQ d;have j:Ow (0+n+k) n=false:=by cases o:Ow (0+n+k) n with|false=>rfl|true=>rw[sH]at o;omega
   simp only[de,i,zm,e1,yr,vf (qm n),f,js,xw]at j⊢;simp only[j,zm,c,xw,r,e1,js,J3,vf (x9 (n*size)),dB,tP];refine hk _ _ ⟨by simp[hl,hlen,yf],.inr ⟨H.au,by simp[Gv],by rw[zg,Gv];omega,?_⟩⟩ (((Fr.refl H).kill (.inl ⟨by simp,rfl⟩)).alloc _) λ b hb=>.inr (by rw[hb.2];exact qm _);rw[ar.bK,Gv,xb rfl,pD]
def iu(e n:Nat)(zero:List AV)(v:AV)(d:zero.length=n)(c:v.cells.length=n):Op.buildSlice e 1 zero [(0,n)] [v]=B1 (.row v.cells e (0,0) B4,Op.sliceTo 1 1):=by
 have e1:∀n,J3 n n=true:=λ n=>by simp
 simp only[Op.buildSlice,fX,pD,zt,jG,IX,c,e1,xw,FV,yr,d,xb (qm n),yq,jc,qr];rw[jr (by omega)];simp
def CY{H:ar}{size e:Nat}{cells:List AV}(c:cells.length=size):Sl (H.alloc (.row cells e (0,0) B4)) size (Op.sliceTo 1 1 H.au) 1 cells:=by
 refine⟨by simp[c],rfl,qm 1,.inr ⟨by rw[zg];omega,cells,xf (by rw[ar.bK,xb rfl]),?_⟩⟩;rw[sO,xb (by simp[c])];simp[<-c]
def Ig{H:ar}{e size bytes:Nat}{v:AV}{n:Nat}{cells:List AV}(h:Own H e size v n cells){zero:List AV}{x:AV}(t:zero.length=size)(l:x.cells.length=size)(d:aQ x.cells=B4)(hs:0<size)
 (s:(n+1)*bytes<=140737488355328) (i:n+1<=140737488355328) {K:bC->(Nat->AV)->Bool->AV->ar->Prop} {m:Bool}
 (hk:∀f H',Own H' e size f (n+1) (cells++x.cells)->Fr (aN v) H H'->(∀b,aN f b->aN v b\/H.au<=b)->K (.row x.cells e (0,0) B4) (Op.sliceTo 1 1) aH f H') :
 tP m (Op.buildSlice e 1 zero [(0,size)] [x]) λ g o mk=>tP g (Op.append e size bytes [v,mk H.au] (H.alloc o)) (K o mk):=by
 rw[iu e size zero x t l];have c:Fr Em H (H.alloc (.row x.cells e (0,0) B4)):=(Fr.refl H).alloc _;refine tP.intro rfl ?_;refine _e (m:=aH) (h.em c) (CY l) d hs s i λ f H' p j r=>hk f H' p ?_ λ b hb=>?_
 .exact ⟨ze c.au j.au,λ b hb hw=>by rw[j.ah b (qn hb c.au) hw,c.ah b hb (λ q=>q)]⟩
 .exact (r b hb).imp id λ q=>ze c.au q
def MJ.intro{W:St->cG->Prop}{ah:Option (List Nat)}{st:St}{Q:cG}(I:Nat->St->Prop)(n:Nat)(d:I n st)
 (h:∀n st,I n st->W (kT ah st) λ e c=>match e with
  | .normal=>∃m,m<n/\I m c
  |e=>Q e c):MJ W ah st Q:=⟨I,⟨n,d⟩,h⟩
end Go.Am
namespace Go.Am
def HZ(H:ar)(tm:T AV)(t:Nat)(rs:List ei):d8 H tm (.tmp t::rs)=(tm.get t).bind λ v=>(d8 H tm rs).bind λ vs=>B1 (v::vs):=rfl
def xmw(H:ar)(tm:T AV)(t:Nat)(rs:List ei):d8 H tm (.kR t::rs)=(((tm.get t).bind λ v=>Op.ae [v] H)).bind λ v=>(d8 H tm rs).bind λ vs=>B1 (v::vs):=by
 simp only[d8,NG];congr 1;cases tm.get t with
 |none=>rfl
 |some v=>cases v<;>rfl
def xmx(H:ar)(tm:T AV)(n t:Nat)(rs:List ei):d8 H tm (.cM n t::rs)=(((tm.get t).bind λ v=>Op.av n [v] H)).bind λ v=>(d8 H tm rs).bind λ vs=>B1 (v::vs):=by
 simp only[d8,NG];congr 1;cases tm.get t with
 |none=>rfl
 |some v=>cases v<;>rfl
def WV(v:AV):jN [v]=v:=rfl
def Yv:jN []=.tuple []:=rfl
def Zr(a b:AV)(l:List AV):jN (a::b::l)=.tuple (a::b::l):=rfl
def Qd(b:Nat):Op.ptrTo b=.ptr b 0:=rfl
def Xr(t:aR)(x y:AV)(H:ar)(q:Bool)(h:aV t x y=B1 q):Op.eq (.agg t) B4 [x,y] H=B1 (.bool (!q)):=by simp[Op.eq,J1,h]
def oU(t:aR)(x y:AV)(H:ar)(q:Bool)(h:aV t x y=B1 q):Op.eq (.agg t) B2 [x,y] H=B1 (.bool q):=by simp[Op.eq,J1,h]
structure fF where
 kind:Int
 time:Int
 core:Int
 block:Int
 Yc:Int
 lane:Int
 addr:Int
 value:Int
 code:Int
deriving DecidableEq
def fF.enc(x:fF):List AV:=[.int .i64 x.kind,.int .i64 x.time,.int .i64 x.core,.int .i64 x.block,.int .i64 x.Yc,.int .i64 x.lane,.int .i64 x.addr,.int .u64 x.value,.int .i64 x.code]
def fF.len(x:fF):x.enc.length=9:=rfl
def Pg(a b:Int):uT a b=decide (a=b):=by rw[EA];rfl
end Go.Am
namespace Go.Am
def T.tz{α:Type}(v c:Option α):∀(p:List Bool)(t:T α),T.fG v p (T.fG c p t)=T.fG v p t
 |[],t=>rfl
 |b::p,t=>by cases b<;>simp[T.fG,T.l,T.r,T.val,T.tz v c p]
def QI(H:ar)(o o':bC):(H.alloc o).set H.au o'=H.alloc o':=by
 simp only[ar.alloc,ar.set,T.set,T.put,T.tz]
def xt(H:ar)(o:bC):(H.alloc o).get H.au=B1 o:=by rw[ar.bK,xb rfl]
def cE(H:ar)(o:bC):∃Z,Z=H.alloc o/\Fr Em H Z/\Z.au=H.au+1/\Z.get H.au=B1 o:=⟨_,rfl,(Fr.refl H).alloc _,zg ..,xt ..⟩
def wN{H:ar}{b:Nat}(h:b<H.au)(o:bC):(H.alloc o).get b=H.get b:=by rw[ar.bK,qt (by omega)]
def xj(H:ar)(b:Nat)(o:bC):(H.set b o).get b=B1 o:=by rw[ar.aJ,xb rfl]
def j9{H:ar}{b c:Nat}(h:b≠c)(o:bC):(H.set b o).get c=H.get c:=by rw[ar.aJ,qt h]
def wW{H:ar}{b:Nat}{c:List AV}{e:Nat}(h:H.get b=B1 (.row c e (0,0) B4)){o n:Nat}{v:AV}(d:v.cells.length=n)(hn:o+n<=c.length)(f:aQ v.cells=B4) :
 Op.store n [.ptr b o,v] H=B1 (.undef,H.set b (.row (c.take o++v.cells++c.drop (o+n)) e (0,0) B4)):=by
 have e1:∀n,J3 n n=true:=λ n=>by simp
 simp only[Op.store,IX,d,e1,xw,ar.store,f,h];have:eD (0,0) o n=true:=by simp[eD]
 simp only[this,xw,FV,d,xb hn,qr]
def P_{H:ar}{b m s:Nat}{c:List AV}{e:Nat}(h:H.get b=B1 (.grown m s c e (0,0))){o n:Nat}{v:AV}(d:v.cells.length=n)(hn:o+n<=c.length)(f:aQ v.cells=B4) :
 Op.store n [.ptr b o,v] H=B1 (.undef,H.set b (.grown m s (c.take o++v.cells++c.drop (o+n)) e (0,0))):=by
 have e1:∀n,J3 n n=true:=λ n=>by simp
 simp only[Op.store,IX,d,e1,xw,ar.store,f,h];have:eD (0,0) o n=true:=by simp[eD]
 simp only[this,xw,FV,d,xb hn,qr]
def D1(H:ar)(c:List AV)(e:Nat)(fz:Nat×Nat)(ow:Bool)(n:Nat)(hn:c.length=n):Op.av n [.ptr H.au 0] (H.alloc (.row c e fz ow))=B1 (.agg c):=by
 rw[tT (xf (xt H _)) (by omega)];simp[<-hn]
def aU{α:Type}(enc:α->List AV)(e size:Nat)(H:ar)(v:AV)(xs:List α):Prop:=Own H e size v xs.length (xs.flatMap enc)
structure AB{α:Type}(enc:α->List AV)(e size:Nat)(H0 H:ar)(v:AV)(xs:List α):Prop where
 own:aU enc e size H v xs
 fr:Fr Em H0 H
 fresh:∀b,aN v b->H0.au<=b
section
variable{α:Type}{enc:α->List AV}{e size:Nat}{H0 H H':ar}{v:AV}{xs:List α}
def bX.one(h:bX enc size H v xs):az v=true:=Sl.one h
def AB.nil(H:ar):AB enc e size H H .nils ([]:List α):=⟨Own.nil H e size,Fr.refl H,λ b h=>(h.1 rfl).elim⟩
def AB.sl(h:AB enc e size H0 H v xs):bX enc size H v xs:=Own.sl h.own
def aU.sl(h:aU enc e size H v xs):bX enc size H v xs:=Own.sl h
def AB.em(h:AB enc e size H0 H v xs)(f:Fr Em H H'):AB enc e size H0 H' v xs:=⟨Own.em h.own f,h.fr.em f,h.fresh⟩
def AB.len(h:AB enc e size H0 H v xs):Op.dm [v]=B1 (.int .i64 xs.length):=h.sl.len
def AB.step(h:AB enc e size H0 H v xs){c:AV}{ys:List α}(d:aU enc e size H' c ys)(f:Fr (aN v) H H')(g:∀b,aN c b->aN v b\/H.au<=b):AB enc e size H0 H' c ys :=
 ⟨d,h.fr.trans f λ x i=>.inr (h.fresh x i),λ b hb=>(g b hb).elim (h.fresh b) λ q=>ze h.fr.au q⟩
def Tr{f:α->List AV}(hs:∀x,(f x).length=size):∀(xs:List α){i:Nat}{x:α},xs[i]? = B1 x -> ∀(y:α),(xs.set i y).flatMap f=(xs.flatMap f).take (i*size)++f y++(xs.flatMap f).drop (i*size+size)
 |[],i,x,h,y=>by simp at h
 |z::zs,0,x,h,y=>by
  simp at h;subst h;simp only[List.set_cons_zero,j5,wx,yq,jc,yr];rw[y9 (by rw[hs];omega),jr (by rw[hs];omega),jc]
 |z::zs,i+1,x,h,y=>by
  simp only[zr]at h;have e1:(f z++zs.flatMap f).take ((i+1)*size)=f z++(zs.flatMap f).take (i*size):=by
   rw[show(i+1)*size=(f z).length+i*size from by rw[hs,vE];omega,Tt]
  have e2:(f z++zs.flatMap f).drop ((i+1)*size+size)=(zs.flatMap f).drop (i*size+size):=by
   rw[show(i+1)*size+size=(f z).length+(i*size+size)from by rw[hs,vE];omega,Q2]
  rw[List.set_cons_succ,j5,j5,Tr hs zs h y,e1,e2];simp only[zy]
def IZ(hs:∀x,(enc x).length=size)(l:List α):(l.flatMap enc).length=l.length*size:=by
 induction l with
 |nil=>simp
 |cons a l ih=>rw[j5,xe,hs,ih,zq,vE];omega
def xm3{L E:List AV}{c j:Nat}{u:AV}(i:E.length=size)(l:j<size)(hk:c+size<=L.length)(h:∀r,r<size->L[c+r]? = E[r]?) :
 L.take c++E.set j u++L.drop (c+size)=L.set (c+j) u:=by
 refine yu λ k=>?_;have g:(L.take c).length=c:=by rw[jd];omega
 rw[zy,List.getElem?_set];rcases xx k c with q|q
 .rw [jq (by omega),yw,xb q,qt (by omega)]
 .rw [zu (by omega),g];obtain⟨r,rfl⟩:∃r,k=c+r:=⟨k-c,by omega⟩
  rw[show c+r-c=r from by omega];rcases xx r size with f|f
  .rw [jq (by rw[xq];omega),List.getElem?_set]
   by_cases d:j=r
   .subst d;rw[xb rfl,xb rfl,xb (by omega),xb (by omega)]
   .rw [qt d,qt (by omega),h r f]
  .rw [zu (by rw[xq];omega),xq,vc,qt (by omega)];congr 1;omega
def aU.As(hs:∀x,(enc x).length=size)(h:aU enc e size H v xs){i:Nat}{x y:α}(c:xs[i]? = B1 x){j:Nat}(p:j<size){u:AV}(hu:az u=B4)(q:enc y=(enc x).set j u) :
 ∃H',Op.store 1 [.ptr (aC v) (cX size v i+j),u] H=B1 (.undef,H')/\aU enc e size H' v (xs.set i y)/\Fr (aN v) H H':=by
 obtain⟨hl,h|⟨b,rfl,g,l⟩⟩:=h
 .rw [jy.1 h.1]at c;simp at c
 .have m:=CK c;have hb:(i+1)*size<=xs.length*size:=jo _ m;rw[vE]at hb;have d:u.cells=[u]:=by cases u<;>first|rfl|cases hu
  have f:=P_ l (o:=i*size+j) (n:=1) (v:=u) (by rw[d];rfl) (by omega) (by rw[d,vz];simpa using hu);have ho:cX size (AV.gslice b 0 xs.length size 0 xs.length) i=i*size:=by simp[cX]
  rw[ho];refine⟨_,f,⟨?_,.inr ⟨b,?_,g,?_⟩⟩,(Fr.refl H).set (.inl ⟨by simp,rfl⟩) _⟩
  .rw [xq,IZ hs,xq]
  .rw [xq]
  .rw [xq,xj,Tr hs xs c,q,d,xm3 (L:=xs.flatMap enc) (E:=enc x) (hs x) p (by omega) (λ r hr=>JG hs xs c hr),List.set_eq_take_append_cons_drop,xb (by omega)];simp
end
abbrev OR(c:List AV)(e:Nat):bC:=.row c e (0,0) B4
end Go.Am
namespace Go.Am
def qM{k mx d:Nat}{z:Int}(c:z=k)(h:k<=mx)(kk:Pl):bound (B1 (.int kk z)) d mx=B1 k:=by
 subst c;show cond (Ow k mx) (B1 k) B5=B1 k;rw[vf h];rfl
def Sl.from{H:ar}{size:Nat}{v:AV}{n:Nat}{cells:List AV}(h:Sl H size v n cells){k:Nat}(hk:k<=n){z:Int}(l:z=k)(kk:Pl) :
 ∃p,Op.aB size [B1 0,B5,B5] [v,.int kk z]=B1 p/\Sl H size p (n-k) (cells.drop (k*size))/\(p=.nils\/aC p=aC v):=by
 obtain⟨hl,h⟩:=h;have hlen:(cells.drop (k*size)).length=(n-k)*size:=by rw[jg,hl,LA]
 have x:k*size<=n*size:=jo _ hk;have f:(n-k)*size=n*size-k*size:=LA n k size;split at h
 .subst h;have:k=0:=by omega
  subst this;refine⟨.nils,?_,⟨hlen,rfl⟩,.inl rfl⟩;have j:bound B5 0 0=B1 0:=rfl;simp[Op.aB,arg,kE,dv,j,qM l (qm 0)]
 .rename_i b o m c;obtain⟨rfl,C,h⟩:=h;have g:∀d m,bound B5 d m=B1 d:=λ _ _=>rfl;refine⟨.slice b (cond (J3 c k) o (o+k*size)) (m-k) (c-k),by simp[Op.aB,arg,kE,dv,g,qM l hk],⟨hlen,rfl,by omega,?_⟩,.inr rfl⟩;rcases h with h|⟨hb,all,r,t⟩
  .left;omega
  .by_cases he:c=k
   .left;omega
   .right;obtain⟨w,rfl⟩:=J8 t;refine⟨hb,all,r,?_⟩;rw[IQ he,zm,sO,xb (by omega),List.drop_take,Ax];simp[f]
 .rename_i b i m s alt q;obtain⟨rfl,rfl,hm,h⟩:=h;have e1:∀n,J3 n n=true:=λ n=>by simp
  have g:∀d m,bound B5 d m=B1 d:=λ _ _=>rfl;have y:=vf (show q<=m-i by omega);have u:=vf (show i<=m by omega);refine⟨.gslice b (i+k) m s (cond (J3 k 0) alt (i*s)) (q-k),by simp only[Op.aB,arg,kE,jb,qr,dv,g,qM l hk,e1,u,y,js,xw],⟨hlen,rfl,rfl,by omega,?_⟩,.inr rfl⟩;rcases h with h|⟨hb,all,r,t⟩
  .left;omega
  .right;obtain⟨w,rfl⟩:=J8 t;refine⟨hb,all,r,?_⟩;rw[sO,xb (by rw[yf];omega),List.drop_take,Ax,yf];simp[f]
 .rename_i b;obtain⟨rfl,hb⟩:=h;have:k=0:=by omega
  subst this;have j:bound B5 0 0=B1 0:=rfl;refine⟨.eslice b,?_,⟨hlen,rfl,hb⟩,.inr rfl⟩;simp[Op.aB,arg,kE,dv,j,qM l (qm 0)]
 .exact h.elim
def Sl.upto{H:ar}{size:Nat}{v:AV}{n:Nat}{cells:List AV}(h:Sl H size v n cells){k:Nat}(hk:k<=n){z:Int}(l:z=k)(kk:Pl) :
 ∃p,Op.aB size [B5,B1 0,B5] [v,.int kk z]=B1 p/\Sl H size p k (cells.take (k*size))/\(p=.nils\/aC p=aC v):=by
 obtain⟨hl,h⟩:=h;have j:k*size<=n*size:=jo _ hk;have hlen:(cells.take (k*size)).length=k*size:=by rw[jd,hl];omega
 split at h
 .subst h;have:k=0:=by omega
  subst this;refine⟨.nils,?_,⟨hlen,rfl⟩,.inl rfl⟩;have g:bound B5 0 0=B1 0:=rfl;simp[Op.aB,arg,kE,dv,g,qM l (qm 0)]
 .rename_i b o m c;obtain⟨rfl,C,h⟩:=h;have u:∀h,bound B5 0 h=B1 0:=λ h=>rfl;have f:∀d m,bound B5 d m=B1 d:=λ _ _=>rfl;refine⟨.slice b (cond (J3 c 0) o (o+0*size)) (k-0) (c-0),by simp only[Op.aB,arg,kE,jb,qr,dv,qM l (show k<=c by omega),u,f],⟨hlen,by omega,by omega,?_⟩,.inr rfl⟩;rcases h with h|⟨hb,all,r,t⟩
  .left;omega
  .right;obtain⟨x,rfl⟩:=J8 t;refine⟨hb,all,r,?_⟩;have:cond (J3 c 0) o (o+0*size)=o:=by cases J3 c 0<;>simp
   rw[this,sO,xb (by omega),List.take_take,Nh j]
 .rename_i b i m s alt q;obtain⟨rfl,rfl,hm,h⟩:=h;have e1:∀n,J3 n n=true:=λ n=>by simp
  have f:∀d m,bound B5 d m=B1 d:=λ _ _=>rfl;have y:=vf (show k<=m-i by omega);have w:=vf (show i<=m by omega);refine⟨.gslice b (i+0) m s (cond (J3 0 0) alt (i*s)) (k-0),by simp only[Op.aB,arg,kE,jb,qr,dv,f,qM l (show k<=m-i by omega),e1,w,y,js,xw],⟨hlen,by omega,rfl,by omega,?_⟩,.inr rfl⟩;rcases h with h|⟨hb,all,r,t⟩
  .left;omega
  .right;obtain⟨x,rfl⟩:=J8 t;refine⟨hb,all,r,?_⟩;rw[vj,sO,xb (by omega),List.take_take,Nh j]
 .rename_i b;obtain⟨rfl,hb⟩:=h;have:k=0:=by omega
  subst this;have g:bound B5 0 0=B1 0:=rfl;refine⟨.eslice b,?_,⟨hlen,rfl,hb⟩,.inr rfl⟩;simp[Op.aB,arg,kE,dv,g,qM l (qm 0)]
 .exact h.elim
section
variable{α:Type}{enc:α->List AV}{size:Nat}{H H':ar}{v:AV}{xs:List α}
def Wu(hs:∀x,(enc x).length=size):∀(xs:List α)(k:Nat),(xs.flatMap enc).drop (k*size)=(xs.drop k).flatMap enc
 |[],k=>by simp
 |x::xs,0=>by simp
 |x::xs,k+1=>by
  rw[j5,show(k+1)*size=(enc x).length+k*size from by rw[hs,vE];omega,Q2,Wu hs xs k];rfl
def YL(hs:∀x,(enc x).length=size):∀(xs:List α)(k:Nat),(xs.flatMap enc).take (k*size)=(xs.take k).flatMap enc
 |[],k=>by simp
 |x::xs,0=>by simp
 |x::xs,k+1=>by
  rw[j5,show(k+1)*size=(enc x).length+k*size from by rw[hs,vE];omega,Tt,YL hs xs k];rfl
def bX.from(hs:∀x,(enc x).length=size)(h:bX enc size H v xs){k:Nat}(hk:k<=xs.length){z:Int}(i:z=k)(kk:Pl) :
 ∃c,Op.aB size [B1 0,B5,B5] [v,.int kk z]=B1 c/\bX enc size H c (xs.drop k)/\(c=.nils\/aC c=aC v):=by
 obtain⟨c,d,f,g⟩:=Sl.from h hk i kk;refine⟨c,d,?_,g⟩;unfold bX;rw[jg,<-Wu hs];exact f
def bX.upto(hs:∀x,(enc x).length=size)(h:bX enc size H v xs){k:Nat}(hk:k<=xs.length){z:Int}(i:z=k)(kk:Pl) :
 ∃c,Op.aB size [B5,B1 0,B5] [v,.int kk z]=B1 c/\bX enc size H c (xs.take k)/\(c=.nils\/aC c=aC v):=by
 obtain⟨c,d,f,g⟩:=Sl.upto h hk i kk;refine⟨c,d,?_,g⟩;unfold bX;rw[jd,Nh hk,<-YL hs];exact f
def gU(enc:α->List AV)(e size:Nat)(H:ar)(v:AV)(xs:List α):Prop:=∃b,v=.slice b 0 xs.length xs.length/\b<H.au/\H.get b=B1 (.row (xs.flatMap enc) e (0,0) B4)
def gU.sl{e:Nat}(hs:∀x,(enc x).length=size)(h:gU enc e size H v xs):bX enc size H v xs:=by
 obtain⟨b,rfl,c,d⟩:=h;refine⟨IZ hs xs,rfl,qm _,.inr ⟨c,_,xf d,?_⟩⟩;rw[sO,xb (by rw[IZ hs];omega),y8,zp (by rw[IZ hs];omega)]
def gU.fr{e:Nat}{W:Nat->Prop}(h:gU enc e size H v xs)(f:Fr W H H')(hw:¬W (aC v)):gU enc e size H' v xs:=by
 obtain⟨b,rfl,c,d⟩:=h;exact⟨b,rfl,qn c f.au,by rw[f.ah b c hw];exact d⟩
def gU.lt{e:Nat}(h:gU enc e size H v xs):aC v<H.au:=by
 obtain⟨b,rfl,c,d⟩:=h;exact c
def gU.As{e:Nat}(hs:∀x,(enc x).length=size)(h:gU enc e size H v xs){i:Nat}{x y:α}(f:xs[i]? = B1 x){j:Nat}(p:j<size){u:AV}(hu:az u=B4)(q:enc y=(enc x).set j u) :
 ∃H',Op.store 1 [.ptr (aC v) (cX size v i+j),u] H=B1 (.undef,H')/\gU enc e size H' v (xs.set i y)/\Fr (On (aC v)) H H':=by
 obtain⟨b,rfl,g,l⟩:=h;have m:=CK f;have hl:=IZ hs xs;have hb:(i+1)*size<=xs.length*size:=jo _ m;rw[vE]at hb;have c:u.cells=[u]:=by cases u<;>first|rfl|cases hu
 have d:=wW l (o:=i*size+j) (n:=1) (v:=u) (by rw[c];rfl) (by omega) (by rw[c,vz];simpa using hu);have ho:cX size (AV.slice b 0 xs.length xs.length) i=i*size:=by simp[cX]
 rw[ho];refine⟨_,d,⟨b,?_,g,?_⟩,(Fr.refl H).set (W:=On b) (.inl rfl) _⟩
 .rw [xq]
 .rw [xj,Tr hs xs f,q,c,xm3 (L:=xs.flatMap enc) (E:=enc x) (hs x) p (by omega) (λ r hr=>JG hs xs f hr),List.set_eq_take_append_cons_drop,xb (by omega)];simp
end
def UW(e bytes:Nat)(z:List AV)(n:Nat)(k k':Pl)(h:n*bytes<=140737488355328)(i:n<=140737488355328) :
 Op.mkSlice e bytes z [.int k n,.int k' n]=B1 (.row (fX n z) e (0,0) B4,Op.sliceTo n n):=by
 have c:sZ 0 (n:Int)=true:=by rw[GB];simp
 have d:sZ (n:Int) n=true:=by rw[GB];simp
 have f:sZ ((n:Int)*(bytes:Int)) 140737488355328=true:=by rw[GB];simp;omega
 have g:sZ (n:Int) 140737488355328=true:=by rw[GB];simp;omega
 simp[Op.mkSlice,c,d,f,g]
end Go.Am
namespace Go.Am
def FX{tm:T AV}{x:bJ}{K K':AV->Prop}(h:FT tm x K)(hk:∀v,K v->K' v):FT tm x K':=by
 have⟨v,d,f⟩:=h.elim;cases x with
 |tmp t=>simp only[rQ]at d;simp only[FT,bQ,d];exact hk v f
 |const c=>cases d;exact hk _ f
 |eF c=>cases d;exact hk _ f
 |func c=>cases d;exact hk _ f
def JW{tm:T AV}:∀{l:List bJ}{K K':List AV->Prop},qO tm l K->(∀v,K v->K' v)->qO tm l K'
 |[],K,K',h,hk=>hk _ h
 | .tmp t::xs,K,K',h,hk=>by
  simp only[qO]at h⊢;unfold bQ at h⊢;split at h
  .exact JW h λ vs=>hk _
  .exact h.elim
 | .const v::xs,K,K',h,hk=>JW (l:=xs) h λ vs=>hk _
 | .eF v::xs,K,K',h,hk=>JW (l:=xs) h λ vs=>hk _
 | .func v::xs,K,K',h,hk=>JW (l:=xs) h λ vs=>hk _
def Gh{α:Type}{m:Bool}{o:Option α}{K K':α->Prop}(h:bQ m o K)(hk:∀a,K a->K' a):bQ m o K':=by
 cases o with
 |none=>exact h
 |some a=>exact hk a h
def q7p{α β:Type}{m:Bool}{o:Option (α×β)}{K K':α -> β->Prop}(h:iZ m o K)(hk:∀a b,K a b->K' a b):iZ m o K':=by
 cases o with
 |none=>exact h
 |some a=>exact hk a.1 a.2 h
section
variable{AP:ak}
def SG{m:Bool}{f:mA}{vs:List AV}{H:ar}{K K':AV->ar->Prop}{E d:aG->ar->Prop}(h:nU AP m f vs H K E)(hk:∀v H,K v H->K' v H)(he:∀c H,E c H->d c H):nU AP m f vs H K' d:=by
 have⟨e,H',i,g⟩:=h;refine⟨e,H',i,?_⟩;cases e with
 |ret v=>exact hk _ _ g
 |panic c=>exact he _ _ g
def RV{d:Option (List Nat)}{tm:T AV}{aZ:List aM}{up:Option aG}{Q Q':cG}(f:∀e st,Q e st->Q' e st)(c:aG)(H:ar)(h:AK d tm aZ up Q c H):AK d tm aZ up Q' c H:=by
 cases d with
 |none=>exact h
 |some ds=>exact f _ _ h
def xf8{ctx:Ctx}{dst:Option Nat}{g:Option (List Nat)}{st:St}{Q Q':cG}{K K':St->Prop}{vs:List AV}{op:fJ}(h:oE AP ctx dst g st Q K vs op)(d:∀e st,Q e st->Q' e st)(hk:∀st,K st->K' st):oE AP ctx dst g st Q' K' vs op:=by
 cases op with
 |pure f=>exact Gh (m:=aH) h λ _=>hk _
 |read f=>exact Gh (m:=aH) h λ _=>hk _
 |alloc f=>simp only[oE]at h⊢;exact q7p h λ _ _=>hk _
 |gN f=>simp only[oE]at h⊢;exact q7p h λ _ _=>hk _
 |iq f=>exact SG (m:=aH) h (λ _ _=>hk _) (RV d)
 |ik =>
  simp only[oE,Nm]at h⊢;split at h
  .exact SG h (λ _ _=>hk _) (RV d)
  .exact SG h (λ _ _=>hk _) (RV d)
  .exact h.elim
 |invoke n =>
  simp only[oE,Og]at h⊢;split at h
  .exact Gh h λ _ q=>SG q (λ _ _=>hk _) (RV d)
  .exact h.elim
 |recover =>
  simp only[oE,yD]at h⊢;split at h
  .refine ⟨h.1,?_⟩;have c:=h.2;split at c<;>exact hk _ c
  .exact h.elim
 |defer =>
  simp only[oE,Il]at h⊢;refine⟨h.1,?_⟩;have c:=h.2;split at c
  .exact hk _ c
  .exact c.elim
 |panic =>
  simp only[oE,gD]at h⊢;split at h
  .exact RV d _ _ h
  .exact h.elim
def xbf{ctx:Ctx}{s:aO}{st:St}{Q Q':cG}{K K':St->Prop}(h:rB AP ctx s st Q K)(c:∀e st,Q e st->Q' e st)(hk:∀st,K st->K' st):rB AP ctx s st Q' K':=by
 have⟨ij,dst,guard,args,op,d⟩:=s;cases ij with
 |false =>
  cases guard with
  |none=>exact JW h λ _ q=>xf8 q c hk
  |some g =>
   refine Gh (m:=aH) h λ w q=>?_;cases w with
   |true=>exact JW (K:=_) q λ _ q=>xf8 q c hk
   |false=>exact hk _ q
 |true =>
  cases guard with
  |none=>exact JW h λ _ q=>⟨q.1,hk _ q.2⟩
  |some g =>
   refine Gh (m:=aH) h λ w q=>?_;cases w with
   |true=>exact JW (K:=_) q λ _ q=>⟨q.1,hk _ q.2⟩
   |false=>exact⟨q.1,hk _ q.2⟩
def M_{ctx:Ctx}:∀{l:List aO}{st:St}{Q Q':cG},oq AP ctx l st Q->(∀e st,Q e st->Q' e st)->oq AP ctx l st Q'
 |[],st,Q,Q',h,hq=>hq _ _ h
 |s::rest,st,Q,Q',h,hq=>xbf h hq λ d c=>M_ c hq
def Np{ctx:Ctx}{st:St}{k:Nat}{H0:ar}{aZ:List aM}{d:Nat}{Q Q':cG}{v:AV}(h:mN AP ctx st k H0 aZ d Q v)(i:∀e st,Q e st->Q' e st):mN AP ctx st k H0 aZ d Q' v:=by
 unfold mN at h⊢;split at h
 .have ⟨e,H',j,g⟩:=h;refine⟨e,H',j,?_⟩;cases e with
  |panic c=>exact i _ _ g
  |ret v=>have⟨s,p,f,k,tm,d,l,m,o⟩:=g;exact⟨s,p,f,k,tm,d,l,m,i _ _ o⟩
 .exact h.elim
def pV{ctx:Ctx}:∀{c:ai}{st:St}{Q Q':cG},WP AP ctx c st Q->(∀e st,Q e st->Q' e st)->WP AP ctx c st Q'
 | .skip,st,Q,Q',h,hq=>hq _ _ h
 | .label _,st,Q,Q',h,hq=>hq _ _ h
 | .exit _,st,Q,Q',h,hq=>hq _ _ h
 | .goto _,st,Q,Q',h,hq=>hq _ _ h
 | .ret,st,Q,Q',h,hq=>hq _ _ h
 | .stuck,st,Q,Q',h,hq=>h.elim
 | .region l,st,Q,Q',h,hq=>M_ h hq
 | .seq a b,st,Q,Q',h,hq=>pV (c:=a) h λ e i g=>by
  cases e with
  |normal=>exact pV (c:=b) g hq
  |exit _=>exact hq _ _ g
  |goto _=>exact hq _ _ g
  |ret=>exact hq _ _ g
  |panic _=>exact hq _ _ g
 | .cond c a b,st,Q,Q',h,hq=>FX h λ v q=>Gh (m:=aH) q λ w q=>by
  cases w with
  |true=>exact pV (c:=a) q hq
  |false=>exact pV (c:=b) q hq
 | .block id b,st,Q,Q',h,hq=>pV (c:=b) h λ e i g=>by cases e<;>exact hq _ _ g
 | .scope b,st,Q,Q',h,hq=>pV (c:=b) h λ e i g=>by
  cases e with
  |goto l=>exact⟨g.1,hq _ _ g.2⟩
  |normal=>exact hq _ _ g
  |exit _=>exact hq _ _ g
  |ret=>exact hq _ _ g
  |panic _=>exact hq _ _ g
 | .loop ah b,st,Q,Q',⟨I,h0,h⟩,hq=>⟨I,h0,λ n st j=>pV (c:=b) (h n st j) λ e i g=>by cases e<;>first|exact g|exact hq _ _ g⟩
 | .rangeFunc f k,st,Q,Q',h,hq=>FX h λ v q=>by
  unfold J0 at q⊢;split at q
  .exact Np q hq
  .exact Gh (m:=aH) q λ d q=>Np q hq
def gE:aX->Prop
 | .exit _=>True
 | .goto _=>True
 | .ret=>True
 |_=>False
end
end Go.Am
namespace Go.Am
noncomputable section
abbrev aI:=aX->Env->List aM->ar->Prop
def lk(E:Env)(t:Nat):Option AV:=A6 (motive:=λ _=>Option AV) B5 (λ p _ ih=>cond (J3 p.1 t) (B1 p.2) ih) E
def Fg(t:Nat):lk [] t=none:=rfl
def wX(k t:Nat)(v:AV)(E:Env):lk ((k,v)::E) t=if k=t then B1 v else lk E t:=by
 show cond (J3 k t) (B1 v) (lk E t)=_;cases hb:J3 k t with
 |true=>rw[xb (Jj hb)];rfl
 |false=>rw[qt (Qc hb)];rfl
def bF(t:Nat)(l:List Nat):Bool:=A6 (motive:=λ _=>Bool) B2 (λ x _ ih=>cond (J3 x t) B4 ih) l
def fZ(ks:List Nat)(E:Env)(tm:T AV):Prop:=∀t v,lk E t=B1 v->tm.get t=B1 v/\bF t ks=B4
def xY:Env->Env->Prop
 |[],_=>True
 |(k,v)::r,E=>lk E k=B1 v/\xY r E
def Hg(E:Env):xY [] E=True:=rfl
def af9(k:Nat)(v:AV)(r E:Env):xY ((k,v)::r) E=(lk E k=B1 v/\xY r E):=rfl
def xY.look:∀{A E:Env},xY A E -> ∀{t:Nat}{v:AV},lk A t=B1 v->lk E t=B1 v
 |[],E,_,t,v,h=>by cases h
 |(k,w)::r,E,h,t,v,hl=>by
  rw[wX]at hl;split at hl
  .rename_i e;subst e;cases hl;exact h.1
  .exact xY.look h.2 hl
def xY.sub{ks:List Nat}{A E:Env}(h:xY A E){tm:T AV}(he:fZ ks E tm):fZ ks A tm:=λ t v hl=>he t v (h.look hl)
def SS(A E:Env):Prop:=∀t v,lk A t=B1 v->lk E t=B1 v
def xY.ss{A E:Env}(h:xY A E):SS A E:=λ t v hl=>h.look hl
def SS.sub{ks:List Nat}{A E:Env}(h:SS A E){tm:T AV}(he:fZ ks E tm):fZ ks A tm:=λ t v hl=>he t v (h t v hl)
def B3{α:Type}(m:Bool)(o:Option α)(K:Bool -> α->Prop):Prop:=match o with
 |some a=>K m a
 |none=>False
def jO{α β:Type}(m:Bool)(o:Option (α×β))(K:Bool -> α -> β->Prop):Prop:=match o with
 |some a=>K m a.1 a.2
 |none=>False
def ny(m:Bool)(v:AV)(A B:Bool->Prop):Prop:=match v with
 | .bool q=>match q with
  |true=>A m
  |false=>B m
 |_=>False
def wD(m:Bool)(q:Bool)(A B:Bool->Prop):Prop:=match q with
 |true=>A m
 |false=>B m
def N2(m:Bool)(o o':Option AV)(K:Bool->Prop):Prop:=(∃v,o=B1 v/\o'=B1 v)/\K m
def A3(m:Bool)(e:Nat)(z:List AV)(H:ar)(K:Bool->AV->ar->Prop):Prop:=K m (.ptr H.au 0) (H.alloc (.row z e (0,0) B4))
def JN{α:Type}(F:α->Prop)(K:α):Prop:=F K
def qF(m:Bool)(Q:aI)(e:aX)(E:Env)(D:List aM)(H:ar):Prop:=Q e E D H
def Hq{α:Type}(a:α)(K:Bool -> α->Prop):B3 B4 (B1 a) K=K B4 a:=propext kq
def Df{α β:Type}(a:α)(b:β)(K:Bool -> α -> β->Prop):jO B4 (B1 (a,b)) K=K B4 a b:=propext kq
def ag1(A B:Bool->Prop):ny B4 (.bool B4) A B=A true:=propext kq
def xj4(A B:Bool->Prop):ny B4 (.bool B2) A B=B true:=propext kq
def EP(A B:Bool->Prop):wD B4 B4 A B=A true:=propext kq
def xj5(A B:Bool->Prop):wD B4 B2 A B=B true:=propext kq
def ae8(v:AV)(K:Bool->Prop):N2 B4 (B1 v) (B1 v) K=K true:=propext ⟨λ h=>h.2,λ h=>⟨⟨v,rfl,rfl⟩,h⟩⟩
def Pp(e:Nat)(z:List AV)(H:ar)(K:Bool->AV->ar->Prop):A3 B4 e z H K=K B4 (.ptr H.au 0) (H.alloc (.row z e (0,0) B4)):=propext kq
def JS{α:Type}(F:α->Prop)(K:α):JN F K=F K:=propext kq
def EY(Q:aI)(e:aX)(E:Env)(D:List aM)(H:ar):qF B4 Q e E D H=Q e E D H:=propext kq
@[congr]def ab9{α:Type}{F:α->Prop}{K:α}:JN F K=JN F K:=rfl
@[congr]def ac2{α:Type}{m c:Bool}{o o':Option α}{K:Bool -> α->Prop}(hm:m=c)(h:o=o'):B3 m o K=B3 c o' K:=by subst hm;subst h;rfl
@[congr]def ab0{α β:Type}{m c:Bool}{o o':Option (α×β)}{K:Bool -> α -> β->Prop}(hm:m=c)(h:o=o'):jO m o K=jO c o' K:=by subst hm;subst h;rfl
@[congr]def ab6{m c:Bool}{v d:AV}{A B:Bool->Prop}(hm:m=c)(h:v=d):ny m v A B=ny c d A B:=by subst hm;subst h;rfl
@[congr]def ab7{m c:Bool}{v d:Bool}{A B:Bool->Prop}(hm:m=c)(h:v=d):wD m v A B=wD c d A B:=by subst hm;subst h;rfl
@[congr]def aa7{m c:Bool}{o o' p p':Option AV}{K:Bool->Prop}(hm:m=c)(h:o=o')(d:p=p'):N2 m o p K=N2 c o' p' K:=by subst hm;subst h;subst d;rfl
@[congr]def ac3{m c:Bool}{e:Nat}{z d:List AV}{H H':ar}{K:Bool->AV->ar->Prop}(hm:m=c)(h:z=d)(f:H=H'):A3 m e z H K=A3 c e d H' K:=by subst hm;subst h;subst f;rfl
def B3.elim{α:Type}{m:Bool}{o:Option α}{K:Bool -> α->Prop}(h:B3 m o K):∃a,o=B1 a/\K m a:=by
 cases o with
 |none=>exact OH h
 |some a=>exact⟨a,rfl,h⟩
def jO.elim{α β:Type}{m:Bool}{o:Option (α×β)}{K:Bool -> α -> β->Prop}(h:jO m o K):∃a b,o=B1 (a,b)/\K m a b:=by
 cases o with
 |none=>exact OH h
 |some a=>exact⟨a.1,a.2,rfl,h⟩
def LK.elim{α:Type}{m:Bool}{o:Option α}{K:Bool -> α->Prop}(h:LK m o K):∃a,o=B1 a/\K m a:=by
 cases o with
 |none=>exact OH h
 |some a=>exact⟨a,rfl,h⟩
def B3.intro{α:Type}{m:Bool}{o:Option α}{K:Bool -> α->Prop}{a:α}(h:o=B1 a)(hk:K m a):B3 m o K:=by subst h;exact hk
def jO.intro{α β:Type}{m:Bool}{o:Option (α×β)}{K:Bool -> α -> β->Prop}{a:α}{b:β}(h:o=B1 (a,b))(hk:K m a b):jO m o K:=by subst h;exact hk
def ny.cases{m:Bool}{q:Bool}{A B:Bool->Prop}(c:q=B4->A m)(d:q=B2->B m):ny m (.bool q) A B:=by
 cases q with
 |true=>exact c rfl
 |false=>exact d rfl
def wD.cases{m:Bool}{q:Bool}{A B:Bool->Prop}(c:q=B4->A m)(d:q=B2->B m):wD m q A B:=by
 cases q with
 |true=>exact c rfl
 |false=>exact d rfl
def ny.elim{m:Bool}{v:AV}{A B:Bool->Prop}(h:ny m v A B):∃q,v=.bool q/\(match q with|true=>A m|false=>B m):=by
 unfold ny at h;split at h
 .exact ⟨_,rfl,h⟩
 .exact h.elim
section
variable(M:ak)
structure Kp where
 ah:List Nat
 cZ:Bool
 named:List Nat
def dG(K:List Nat)(E L:Env):Env:=A6 (motive:=λ _=>Env) E (λ p _ ih=>cond (bF p.1 K) (p::ih) ih) L
def sQ(ds:List Nat)(E:Env):Env:=A6 (motive:=λ _=>Env) [] (λ p _ ih=>cond (bF p.1 ds) ih (p::ih)) E
def lV(L:Env):List Nat:=A6 (motive:=λ _=>List Nat) [] (λ p _ ih=>p.1::ih) L
abbrev KR:=Bool->Env->Env->ar->Prop
def TV(E L R:Env)(t:Nat)(g:Bool)(K:Bool->Env->AV->Prop):Prop :=
 Ra (motive:=λ _=>Prop) (Ra (motive:=λ _=>Prop) (LK g (lk E t) λ g v=>K g ((t,v)::R) v) (λ v=>K g R v) (lk R t)) (λ v=>K g R v) (lk L t)
def xZ(E L:Env)(l:List bJ):Bool->Env->(Bool->Env->List AV->Prop)->Prop:=A6 (motive:=λ _=>Bool->Env->(Bool->Env->List AV->Prop)->Prop) (λ g R K=>K g R [])
 (λ x _ ih g R K=>bJ.casesOn x (λ t=>TV E L R t g λ g R v=>ih g R λ g R vs=>K g R (v::vs)) (λ v=>ih g R λ g R vs=>K g R (v::vs)) (λ b=>ih g R λ g R vs=>K g R (.ptr b 0::vs)) (λ f=>ih g R λ g R vs=>K g R (.fn (.func f) [] []::vs))) l
def C3(m:Bool)(f:mA)(vs:List AV)(H:ar)(K:Bool->AV->ar->Prop):Prop:=∃v H',uj M f vs H (.ret v) H'/\K m v H'
def P3(m:Bool)(X:aG->ar->Prop)(f:mA)(vs:List AV)(H:ar)(K:Bool->AV->ar->Prop):Prop:=∃e H',uj M f vs H e H'/\match e with
 | .ret v=>K m v H'
 | .panic c=>X c H'
@[congr]def ac5{M:ak}{m d:Bool}{f f':mA}{vs c:List AV}{H H':ar}{K:Bool->AV->ar->Prop}(hm:m=d)(i:f=f')(h:vs=c)(g:H=H'):C3 M m f vs H K=C3 M d f' c H' K:=by subst hm;subst h;subst i;subst g;rfl
@[congr]def ac7{M:ak}{m d:Bool}{X:aG->ar->Prop}{f f':mA}{vs c:List AV}{H H':ar}{K:Bool->AV->ar->Prop}(hm:m=d)(i:f=f')(h:vs=c)(g:H=H'):P3 M m X f vs H K=P3 M d X f' c H' K:=by subst hm;subst h;subst i;subst g;rfl
def V3(m:Bool)(vs:List AV)(K:Bool->mA->List AV->Prop):Prop:=match vs with
 | .fn (.func g) first cap::args=>K m (.func g) (first++(args++cap))
 | .fn (.yield l) first []::args=>K m (.yield l) (first++args)
 |_=>False
@[congr]def ac1{m d:Bool}{vs c:List AV}{K:Bool->mA->List AV->Prop}(hm:m=d)(h:vs=c):V3 m vs K=V3 d c K:=by subst hm;subst h;rfl
def IL(g:Nat)(first cap args:List AV)(K:Bool->mA->List AV->Prop):V3 B4 (.fn (.func g) first cap::args) K=K B4 (.func g) (first++(args++cap)):=propext kq
def ad2(l:Nat)(first args:List AV)(K:Bool->mA->List AV->Prop):V3 B4 (.fn (.yield l) first []::args) K=K B4 (.yield l) (first++args):=propext kq
def N3(m:Bool)(name:String)(vs:List AV)(K:Bool->mA->List AV->Prop):Prop:=match vs with
 | .iface t v::args=>B3 m (M.kF t name) λ m g=>K m (.func g) (v::args)
 |_=>False
@[congr]def ab8{M:ak}{m d:Bool}{name:String}{vs c:List AV}{K:Bool->mA->List AV->Prop}(hm:m=d)(h:vs=c):N3 M m name vs K=N3 M d name c K:=by subst hm;subst h;rfl
def DE(name:String)(t:Nat)(v:AV)(args:List AV)(K:Bool->mA->List AV->Prop):N3 M B4 name (.iface t v::args) K=B3 B4 (M.kF t name) λ m g=>K m (.func g) (v::args):=propext kq
def PX(ps:Option (List Nat))(ks:List Nat)(Q:aI)(E:Env)(D:List aM)(c:aG)(H:ar):Prop:=match ps with
 |some ds=>Q (.panic c) (sQ ds (sQ ks E)) D H
 |none=>False
def EW(cZ:Bool)(ps:Option (List Nat))(L:Env)(Q:aI)(E:Env)(D:List aM)(g:Bool)(f:mA)(vs:List AV)(H:ar)(K:Bool->AV->ar->Prop):Prop :=
 cond cZ (P3 M g (PX ps (lV L) Q E D) f vs H K) (C3 M g f vs H K)
def vQ(cZ:Bool)(dst:Option Nat)(ps:Option (List Nat))(Q:aI)(E:Env)(D:List aM)(L R:Env)(H:ar)(K:KR)(g:Bool)(vs:List AV):fJ->Prop
 | .pure f=>B3 g (f vs) λ g v=>K g (lK dst v L) R H
 | .read f=>B3 g (f vs H) λ g v=>K g (lK dst v L) R H
 | .alloc f=>jO g (f vs) λ g o mk=>K g (lK dst (mk H.au) L) R (H.alloc o)
 | .gN f=>jO g (f vs H) λ g v H=>K g (lK dst v L) R H
 | .iq f=>EW M cZ ps L Q E D g (.func f) vs H (λ g v H=>K g (lK dst v L) R H)
 | .ik=>V3 g vs λ g f vs=>EW M cZ ps L Q E D g f vs H (λ g v H=>K g (lK dst v L) R H)
 | .invoke name=>N3 M g name vs λ g f vs=>EW M cZ ps L Q E D g f vs H (λ g v H=>K g (lK dst v L) R H)
 | .panic=>cond cZ (gD vs H (PX ps (lV L) Q E D)) False
 |_=>False
def Yj(L E:Env)(d:Nat):Option AV:=Ra (motive:=λ _=>Option AV) (lk E d) (λ v=>B1 v) (lk L d)
def T4(dst:Option Nat)(E L R:Env)(H:ar)(K:KR)(g:Bool)(vs:List AV):fJ->Prop
 | .read f=>match dst with
  |some d=>N2 g (f vs H) (Yj L E d) λ g=>K g L R H
  |none=>False
 |_=>False
def FU(cZ:Bool)(s:aO)(Q:aI)(E:Env)(D:List aM)(K:KR):KR:=λ g L R H =>
 xZ E L s.args g R λ g R vs=>match s.ij with
  |false=>vQ M cZ s.dst s.cA Q E D L R H K g vs s.op
  |true=>T4 s.dst E L R H K g vs s.op
def pQ(cZ:Bool)(Q:aI)(E:Env)(D:List aM)(K:KR)(l:List aO):KR:=A6 (motive:=λ _=>KR) K (λ s _ ih=>FU M cZ s Q E D ih) l
abbrev FP:=Option (Nat×Bool)×List aO
def sW:Option (Nat×Bool)->Option (Nat×Bool)->Bool
 |none,B5=>B4
 |some (t,b),B1 (u,c)=>cond (J3 t u) (cond b c (!c)) B2
 |_,_=>B2
def Ji(l:List aO):List FP:=A6 (motive:=λ _=>List FP) [] (λ s _ ih=>List.casesOn (motive:=λ _=>List FP) ih [(s.guard,[s])] λ g r=>cond (sW g.1 s.guard) ((g.1,s::g.2)::r) ((s.guard,[s])::g::r)) l
def LI(o:Option Nat)(t:Nat):Bool:=Ra (motive:=λ _=>Bool) B2 (λ d=>J3 d t) o
def vV(t:Nat)(l:List aO):Bool:=A6 (motive:=λ _=>Bool) B4 (λ s _ ih=>cond (LI s.dst t) B2 (cond s.ij (cond s.dst.isSome ih B2) ih)) l
def CT(n:Nat):Type:=Nat.rec (motive:=λ _=>Type) (ar->Prop) (λ _ T=>AV->T) n
def qU(n:Nat):(List AV->ar->Prop)->CT n:=Nat.rec (motive:=λ n=>(List AV->ar->Prop)->CT n) (λ f=>f []) (λ _ ih f v=>ih λ l=>f (v::l)) n
def qA(n:Nat):CT n->List AV->ar->Prop:=Nat.rec (motive:=λ n=>CT n->List AV->ar->Prop) (λ k _=>k) (λ _ ih k l=>List.casesOn (motive:=λ _=>ar->Prop) l (λ _=>False) λ v l=>ih (k v) l) n
def bq(l:List aO):List Nat->List Nat:=A6 (motive:=λ _=>List Nat->List Nat) (λ acc=>acc) (λ s _ ih acc=>ih (cond s.ij acc (Ra (motive:=λ _=>List Nat) acc (λ d=>d::acc) s.dst))) l
def lE(ks:List Nat)(L:Env):List AV->Env:=A6 (motive:=λ _=>List AV->Env) (λ _=>L) (λ k _ ih l=>List.casesOn (motive:=λ _=>Env) l L λ v l=>(k,v)::ih l) ks
def rM(n:Nat):Env->List AV:=Nat.rec (motive:=λ _=>Env->List AV) (λ _=>[]) (λ _ ih L=>List.casesOn (motive:=λ _=>List AV) L [] λ p L=>p.2::ih L) n
def sk(n:Nat):List AV:=Nat.rec (motive:=λ _=>List AV) [] (λ _ ih=>.undef::ih) n
def P7(cZ:Bool)(Q:aI)(E:Env)(D:List aM)(x:FP)(K:KR):KR:=λ g L R H=>match x.1 with
 |none=>pQ M cZ Q E D K x.2 g L R H
 |some q=>cond (vV q.1 x.2) (TV E L R q.1 g λ g R v=>JN (α:=Bool->CT (cS (bq x.2 [])))
  (λ k=>B3 g (cP q.2 (B1 v)) λ g w=>wD g w (λ g=>pQ M cZ Q E D (λ g L _ H=>qA (cS (bq x.2 [])) (k g) (rM (cS (bq x.2 [])) L) H) x.2 g L R H) (λ g=>qA (cS (bq x.2 [])) (k g) (sk (cS (bq x.2 []))) H))
  (λ g=>qU (cS (bq x.2 [])) λ vs H=>K g (lE (bq x.2 []) L vs) R H)) False
def yN(cZ:Bool)(Q:aI)(E:Env)(D:List aM)(K:KR)(l:List FP):KR:=A6 (motive:=λ _=>KR) K (λ x _ ih=>P7 M cZ Q E D x ih) l
def rh(cZ:Bool)(Q:aI)(E:Env)(D:List aM)(l:List aO)(g:Bool)(H:ar)(K:KR):Prop:=yN M cZ Q E D K (Ji l) g [] [] H
abbrev WX:=Bool->aI->Env->List aM->ar->Prop
def fg(X:WX)(Q:aI):aI:=λ e E D H=>match e with
 | .normal=>X B4 Q E D H
 |e=>Q e E D H
def eU(id:Nat)(Q:aI):aI:=λ e E D H=>match e with
 | .exit id'=>Q (cond (J3 id id') .normal (.exit id')) E D H
 |e=>Q e E D H
def kK(b:ai)(Q:aI):aI:=λ e E D H=>match e with
 | .goto l=>FY b l=B2/\Q (.goto l) E D H
 |e=>Q e E D H
abbrev Mw:=Nat->Env->List aM->ar->Prop
def LP3(I:Mw)(n:Nat)(Q:aI):aI:=λ e E D H=>match e with
 | .normal=>∃m E',I m E' D H/\SS E' E/\m<n
 |e=>Q e E D H
def dD(X:WX)(Q:aI)(E:Env)(D:List aM)(H:ar):Prop :=
 ∃I:Mw,(∃n E0,I n E0 D H/\SS E0 E) /\ ∀n E D H,I n E D H->X B4 (LP3 I n Q) E D H
def iE(ks:List Nat)(ctx:Ctx)(k:Nat)(E:Env)(D:List aM)(H:ar)(Q:aI)(v:AV):Prop :=
 ∀tm up,fZ ks E tm->J0 M ctx k ⟨tm,D,up,H⟩ (λ e st=>st.up=up/\st.tm=tm/\Q e E st.aZ st.H) v
def OV(E:Env)(x:bJ)(g:Bool)(K:Bool->AV->Prop):Prop:=match x with
 | .tmp t=>LK g (lk E t) K
 | .const v=>K g v
 | .eF b=>K g (.ptr b 0)
 | .func f=>K g (.fn (.func f) [] [])
def CV(E L R:Env)(x:bJ)(g:Bool)(K:Bool->AV->Prop):Prop:=match x with
 | .tmp t=>TV E L R t g λ g _ v=>K g v
 | .const v=>K g v
 | .eF b=>K g (.ptr b 0)
 | .func f=>K g (.fn (.func f) [] [])
def W3(ctx:Ctx)(K:Kp):ai->Bool->aI->Env->List aM->ar->Prop
 | .skip,g,Q,E,D,H=>qF g Q .normal E D H
 | .label _,g,Q,E,D,H=>qF g Q .normal E D H
 | .exit id,g,Q,E,D,H=>qF g Q (.exit id) E D H
 | .goto l,g,Q,E,D,H=>qF g Q (.goto l) E D H
 | .ret,g,Q,E,D,H=>qF g Q .ret E D H
 | .stuck,_,_,_,_,_=>False
 | .region l,g,Q,E,D,H=>rh M K.cZ Q E D l g H λ g L _ H=>qF g Q .normal (dG K.ah E L) D H
 | .seq a b,g,Q,E,D,H=>match a,b with
  | .region l,.cond c x y=>rh M K.cZ Q E D l g H λ g L R H=>CV E L R c g λ g v=>ny g v (λ g=>W3 ctx K x g Q (dG K.ah E L) D H) (λ g=>W3 ctx K y g Q (dG K.ah E L) D H)
  | .region l,.seq (.cond c x y) r=>rh M K.cZ Q E D l g H λ g L R H=>CV E L R c g λ g v=>ny g v (λ g=>W3 ctx K x g (fg (W3 ctx K r) Q) (dG K.ah E L) D H) (λ g=>W3 ctx K y g (fg (W3 ctx K r) Q) (dG K.ah E L) D H)
  | .region l,b=>rh M K.cZ Q E D l g H λ g L _ H=>W3 ctx K b g Q (dG K.ah E L) D H
  |a,b=>W3 ctx K a g (fg (W3 ctx K b) Q) E D H
 | .cond c x y,g,Q,E,D,H=>OV E c g λ g v=>ny g v (λ g=>W3 ctx K x g Q E D H) (λ g=>W3 ctx K y g Q E D H)
 | .block id b,g,Q,E,D,H=>W3 ctx K b g (eU id Q) E D H
 | .scope b,g,Q,E,D,H=>W3 ctx K b g (kK b Q) E D H
 | .loop (B1 _) _,_,_,_,_,_=>False
 | .loop B5 b,g,Q,E,D,H=>dD (W3 ctx K b) Q E D H
 | .rangeFunc f k,g,Q,E,D,H=>OV E f g λ g v=>iE M K.ah ctx k E D H Q v
end
structure mh(E L R:Env)(tm:T AV):Prop where
 l:∀t v,lk L t=B1 v->tm.get t=B1 v
 r:∀t v,lk L t=B5->lk R t=B1 v->tm.get t=B1 v
 e:∀t v,lk L t=B5->lk E t=B1 v->tm.get t=B1 v
def mh.first{ks:List Nat}{E:Env}{tm:T AV}(h:fZ ks E tm):mh E [] [] tm:=⟨λ _ _ h=>(by cases h),λ _ _ _ h=>(by cases h),λ t v _ c=>(h t v c).1⟩
def mh.put{E L R:Env}{tm:T AV}(h:mh E L R tm)(dst:Option Nat)(v:AV):mh E (lK dst v L) R (eH dst v tm):=by
 cases dst with
 |none=>exact h
 |some d =>
  show mh E ((d,v)::L) R (tm.set d v);refine⟨λ t w hw=>?_,λ t w hn hw=>?_,λ t w hn hw=>?_⟩
  .rw [wX]at hw;rw[T.aJ];split at hw
   .rename_i e;rw[xb e];exact hw
   .rename_i e;rw[qt e];exact h.l t w hw
  .rw [wX]at hn;rw[T.aJ];split at hn
   .cases hn
   .rename_i e;rw[qt e];exact h.r t w hn hw
  .rw [wX]at hn;rw[T.aJ];split at hn
   .cases hn
   .rename_i e;rw[qt e];exact h.e t w hn hw
def TV.elim{E L R:Env}{t:Nat}{g:Bool}{K:Bool->Env->AV->Prop}{tm:T AV}(hr:mh E L R tm)(h:TV E L R t g K):∃v d,tm.get t=B1 v/\mh E L d tm/\K g d v:=by
 unfold TV at h;cases hl:lk L t with
 |some v=>rw[hl]at h;exact⟨v,R,hr.l t v hl,hr,h⟩
 |none =>
  rw[hl]at h;cases c:lk R t with
  |some v=>rw[c]at h;exact⟨v,R,hr.r t v hl c,hr,h⟩
  |none =>
   rw[c]at h;have⟨v,f,h⟩:=LK.elim h;refine⟨v,_,hr.e t v hl f,⟨hr.l,λ u w hn hw=>?_,hr.e⟩,h⟩;rw[wX]at hw;split at hw
   .rename_i e;subst e;cases hw;exact hr.e t v hl f
   .exact hr.r u w hn hw
def Nk{tm:T AV}:∀{l:List bJ}{vs:List AV}{K:List AV->Prop},mB tm l=B1 vs->K vs->qO tm l K
 |[],vs,K,h,hk=>by cases h;exact hk
 |x::xs,vs,K,h,hk=>by
  simp only[mB,qj]at h;have⟨v,d,ws,f,g⟩:=h;cases g;cases x with
  |tmp t=>exact bQ.intro (m:=aH) d (Nk f hk)
  |const c=>injection d with d;subst d;exact Nk (K:=λ vs=>K (c::vs)) f hk
  |eF c=>cases d;exact Nk (K:=λ vs=>K (_::vs)) f hk
  |func c=>cases d;exact Nk (K:=λ vs=>K (_::vs)) f hk
def xZ.elim{E L:Env}{tm:T AV}{g:Bool}:∀{l:List bJ}{R:Env}{K:Bool->Env->List AV->Prop},mh E L R tm->xZ E L l g R K -> ∃vs j,mB tm l=B1 vs/\mh E L j tm/\K g j vs
 |[],R,K,hr,h=>⟨[],R,rfl,hr,h⟩
 | .tmp t::xs,R,K,hr,h=>by
  have⟨v,o,m,i,h⟩:=TV.elim hr (show TV E L R t g (λ g R v=>xZ E L xs g R λ g R vs=>K g R (v::vs))from h);have⟨vs,d,f,c,h⟩:=xZ.elim i h;exact⟨v::vs,d,by simp[mB,rQ,m,f],c,h⟩
 | .const v::xs,R,K,hr,h=>by
  have⟨vs,d,f,c,h⟩:=xZ.elim (l:=xs) hr h;exact⟨v::vs,d,by simp[mB,rQ,f],c,h⟩
 | .eF v::xs,R,K,hr,h=>by
  have⟨vs,d,f,c,h⟩:=xZ.elim (l:=xs) hr h;exact⟨_,d,by simp[mB,rQ,f],c,h⟩
 | .func v::xs,R,K,hr,h=>by
  have⟨vs,d,f,c,h⟩:=xZ.elim (l:=xs) hr h;exact⟨_,d,by simp[mB,rQ,f],c,h⟩
def SW(ds:List Nat):∀(E:Env)(t:Nat),lk (sQ ds E) t=if bF t ds then B5 else lk E t
 |[],t=>by simp[sQ,Fg]
 |(k,v)::r,t=>by
  show lk (cond (bF k ds) (sQ ds r) ((k,v)::sQ ds r)) t=_;cases hm:bF k ds with
  |true =>
   rw[xw,SW ds r,wX]
   by_cases e:k=t
   .subst e;rw[hm];rfl
   .rw [qt e]
  |false =>
   rw[zm,wX,SW ds r,wX]
   by_cases e:k=t
   .subst e;rw[hm];simp
   .rw [qt e,qt e]
def π:∀(L:Env)(t:Nat),bF t (lV L)=B2->lk L t=B5
 |[],t,_=>rfl
 |(k,v)::r,t,h=>by
  have h:cond (J3 k t) B4 (bF t (lV r))=false:=h;rw[wX];cases hb:J3 k t with
  |true=>rw[hb]at h;cases h
  |false=>rw[hb,zm]at h;rw[qt (Qc hb)];exact π r t h
def xg1{t:Nat}:∀{l:List Nat},t∈l->bF t l=B4
 |x::r,h=>by
  show cond (J3 x t) B4 (bF t r)=B4;cases hb:J3 x t with
  |true=>rfl
  |false =>
   rw[zm];rcases ji.1 h with e|h
   .exact (Qc hb e.symm).elim
   .exact xg1 h
def q4k:∀(ds:List Nat)(tm:T AV)(t:Nat),t∉ds->(forget ds tm).get t=tm.get t
 |[],tm,t,_=>rfl
 |d::ds,tm,t,h=>by
  show(forget ds (tm.put d B5)).get t=_;rw[q4k ds _ t (λ q=>h (ww _ q)),T.kG,qt (λ e=>h (by rw[e];exact Js ..))]
def QQ(ks:List Nat)(Q:aI)(up:Option aG):cG:=λ e st=>st.up=up /\ ∃E',fZ ks E' st.tm/\Q e E' st.aZ st.H
section
variable{M:ak}{ctx:Ctx}{cZ:Bool}{Q:aI}{E:Env}{D:List aM}{up:Option aG}
def PX.JY{Z:cG}(hp:∀c tm H g,(∀t v,lk g t=B1 v->tm.get t=B1 v/\lk E t=B1 v)->Q (.panic c) g D H->Z (.panic c) ⟨tm,D,up,H⟩){f:Option (List Nat)}{L R:Env}{tm:T AV}(hr:mh E L R tm){c:aG}{H:ar}(h:PX f (lV L) Q E D c H):AK f tm D up Z c H:=by
 cases f with
 |none=>exact h
 |some ds =>
  refine hp _ _ _ _ (λ t v d=>?_) h;rw[SW,SW]at d;split at d
  .cases d
  .rename_i i;split at d
   .cases d
   .rename_i j;rw[q4k ds tm t (λ q=>i (xg1 q))];exact⟨hr.e t v (π L t (by simpa using j)) d,d⟩
def EW.zA{Z:cG}(hp:∀c tm H l,(∀t v,lk l t=B1 v->tm.get t=B1 v/\lk E t=B1 v)->Q (.panic c) l D H->Z (.panic c) ⟨tm,D,up,H⟩){j:Option (List Nat)}{L R:Env}{tm:T AV}(hr:mh E L R tm){g:Bool}{f:mA}{vs:List AV}{H:ar}{K:Bool->AV->ar->Prop}{K':AV->ar->Prop}
 (h:EW M cZ j L Q E D g f vs H K) (hk:∀v H,K g v H->K' v H):nU M aH f vs H K' (AK j tm D up Z):=by
 cases cZ with
 |false =>
  have⟨v,H',i,d⟩:=(show C3 M g f vs H K from h)
  exact⟨_,H',i,hk _ _ d⟩
 |true =>
  have⟨e,H',i,d⟩:=(show P3 M g (PX j (lV L) Q E D) f vs H K from h)
  refine⟨_,H',i,?_⟩;cases e with
  |ret v=>exact hk _ _ d
  |panic c=>exact PX.JY hp hr d
def FU.body{Z:cG}(hp:∀c tm H x,(∀t v,lk x t=B1 v->tm.get t=B1 v/\lk E t=B1 v)->Q (.panic c) x D H->Z (.panic c) ⟨tm,D,up,H⟩){s:aO}{K:KR}{g:Bool}{L R R0:Env}{tm:T AV}{H:ar}(hr:mh E L R tm)(r:mh E L R0 tm)(h:FU M cZ s Q E D K g L R H){KK:St->Prop}
 (C:∀q y j H',(s.ij=B4/\q=L/\j=tm \/ ∃v,s.ij=B2/\q=lK s.dst v L/\j=eH s.dst v tm)->mh E q y j->mh E q R0 j->K g q y H'->KK ⟨j,D,up,H'⟩) :
 match s.ij with
 |false=>qO tm s.args λ vs=>oE M ctx s.dst s.cA ⟨tm,D,up,H⟩ Z KK vs s.op
 |true=>qO tm s.args λ vs=>Qo s.dst ⟨tm,D,up,H⟩ vs s.op/\KK ⟨tm,D,up,H⟩:=by
 have⟨ij,dst,guard,args,op,u⟩:=s;have⟨vs,p,z,i,h⟩:=xZ.elim hr h;cases ij with
 |true =>
  refine Nk z ?_;have h:T4 dst E L p H K g vs op:=h;cases op with
  |read f =>
   cases dst with
   |none=>exact h.elim
   |some d =>
    have h:N2 g (f vs H) (Yj L E d) (λ g=>K g L p H):=h;have⟨⟨v,e1,e2⟩,h⟩:=h;refine⟨?_,C L p tm H (.inl ⟨rfl,rfl,rfl⟩) i r h⟩;refine bQ.intro (m:=aH) e1 (bQ.intro (m:=aH) (a:=v) ?_ rfl);unfold Yj at e2;cases hl:lk L d with
    |some w=>rw[hl]at e2;injection e2 with e2;subst e2;exact hr.l d w hl
    |none=>rw[hl]at e2;exact hr.e d v hl e2
  |_=>exact h.elim
 |false =>
  have put:∀v H',K g (lK dst v L) p H'->KK ⟨eH dst v tm,D,up,H'⟩:=λ v H' hk=>C _ p _ H' (.inr ⟨v,rfl,rfl,rfl⟩) (i.put dst v) (r.put dst v) hk;refine Nk z ?_;have h:vQ M cZ dst u Q E D L p H K g vs op:=h;cases op with
  |pure f=>simp only[vQ]at h;have⟨v,e,h⟩:=B3.elim h;exact bQ.intro (m:=aH) e (put _ _ h)
  |read f=>simp only[vQ]at h;have⟨v,e,h⟩:=B3.elim h;exact bQ.intro (m:=aH) e (put _ _ h)
  |alloc f=>simp only[vQ]at h;simp only[oE];have⟨o,mk,e,h⟩:=jO.elim h;exact iZ.intro (m:=aH) e (put _ _ h)
  |gN f=>simp only[vQ]at h;simp only[oE];have⟨v,H',e,h⟩:=jO.elim h;exact iZ.intro (m:=aH) e (put _ _ h)
  |iq f=>exact EW.zA hp i h λ v H' hk=>put v H' hk
  |ik =>
   simp only[vQ,V3]at h;simp only[oE,Nm];split at h
   .exact EW.zA hp i h λ v H' hk=>put v H' hk
   .exact EW.zA hp i h λ v H' hk=>put v H' hk
   .exact h.elim
  |invoke n =>
   simp only[vQ,N3]at h;simp only[oE,Og];split at h
   .have ⟨f,e,h⟩:=B3.elim h;exact bQ.intro (m:=aH) e (EW.zA hp i h λ v H' hk=>put v H' hk)
   .exact h.elim
  |recover=>exact OH h
  |defer=>exact OH h
  |panic =>
   cases cZ with
   |false=>exact OH h
   |true =>
    have h:gD vs H (PX u (lV L) Q E D):=h;show gD vs H (AK u tm D up Z);unfold gD at h⊢;split at h
    .exact PX.JY hp i h
    .exact h.elim
def NJ(g:Option (Nat×Bool))(l:List aO):Prop:=∀s∈l,s.guard=g
def pQ.free{Z:cG}(hp:∀c tm H f,(∀t v,lk f t=B1 v->tm.get t=B1 v/\lk E t=B1 v)->Q (.panic c) f D H->Z (.panic c) ⟨tm,D,up,H⟩){K:KR}{g:Bool}{R0:Env}{rest:List aO}(i:∀L R tm H,mh E L R tm->mh E L R0 tm->K g L R H->oq M ctx rest ⟨tm,D,up,H⟩ Z) :
 ∀{l:List aO}{L R:Env}{tm:T AV}{H:ar},NJ B5 l->mh E L R tm->mh E L R0 tm->pQ M cZ Q E D K l g L R H->oq M ctx (l++rest) ⟨tm,D,up,H⟩ Z
 |[],L,R,tm,H,_,hr,hr0,h=>i _ _ _ _ hr hr0 h
 |s::l,L,R,tm,H,hg,hr,hr0,h=>by
  rw[Ik,gX];have hs:s.guard=none:=hg s (Js ..);have:=FU.body hp (ctx:=ctx) (up:=up) (KK:=λ d=>oq M ctx (l++rest) d Z) hr hr0 (show FU M cZ s Q E D (pQ M cZ Q E D K l) g L R H from h)
   λ r u q H' _ m o p=>pQ.free hp i (λ x j=>hg x (ww _ j)) m o p
  have⟨ij,dst,guard,args,op,w⟩:=s;subst hs;cases ij<;>exact this
def X4:∀(n:Nat)(f:List AV->ar->Prop)(l:List AV)(H:ar),l.length=n->qA n (qU n f) l H=f l H
 |0,f,[],H,_=>rfl
 |n+1,f,v::l,H,h=>X4 n (λ l=>f (v::l)) l H (by simpa using h)
 |0,f,_::_,H,h=>by cases h
 |n+1,f,[],H,h=>by cases h
def Ez{α:Type}(l:List α):cS l=l.length:=by
 induction l with
 |nil=>rfl
 |cons x l ih=>show cS l+1=_;rw[ih];rfl
def xhi:∀(ks:List Nat)(L:Env)(vs:List AV),vs.length=ks.length->rM ks.length (lE ks L vs)=vs
 |[],L,[],_=>rfl
 |k::ks,L,v::vs,h=>by
  show v::rM ks.length (lE ks L vs)=_;rw[xhi ks L vs (by simpa using h)]
 |[],L,_::_,h=>by cases h
 |_::_,L,[],h=>by cases h
def xm9:∀n,(sk n).length=n
 |0=>rfl
 |n+1=>by show(sk n).length+1=_;rw[xm9 n]
def pQ.under{Z:cG}(hp:∀c tm H z,(∀t v,lk z t=B1 v->tm.get t=B1 v/\lk E t=B1 v)->Q (.panic c) z D H->Z (.panic c) ⟨tm,D,up,H⟩){K:KR}{g:Bool}{R0:Env}{rest:List aO}{t:Nat}{b:Bool}{v:AV}(hw:cP b (B1 v)=B1 B4){kf:List Nat}{L0:Env}(C:∀vs R tm H,vs.length=kf.length->mh E (lE kf L0 vs) R tm->mh E (lE kf L0 vs) R0 tm->K g (lE kf L0 vs) R H->oq M ctx rest ⟨tm,D,up,H⟩ Z) :
 ∀{l:List aO}{acc:List Nat}{us:List AV}{L R:Env}{tm:T AV}{H:ar},bq l acc=kf->us.length=acc.length->L=lE acc L0 us->NJ (B1 (t,b)) l->vV t l=B4->tm.get t=B1 v->mh E L R tm->mh E L R0 tm->pQ M cZ Q E D K l g L R H->oq M ctx (l++rest) ⟨tm,D,up,H⟩ Z
 |[],acc,us,L,R,tm,H,e1,e2,e3,_,_,_,hr,hr0,h=>by
  have e1:acc=kf:=e1;subst e1;subst e3;exact C _ _ _ _ e2 hr hr0 h
 |s::l,acc,us,L,R,tm,H,e1,e2,e3,hg,ho,ht,hr,hr0,h=>by
  rw[Ik,gX];have hs:s.guard=B1 (t,b):=hg s (Js ..);have ho:cond (LI s.dst t) B2 (cond s.ij (cond s.dst.isSome (vV t l) B2) (vV t l))=true:=ho;have j:LI s.dst t=false:=by cases q:LI s.dst t with
   |true=>rw[q]at ho;cases ho
   |false=>rfl
  rw[j,zm]at ho;have u:vV t l=true:=by
   cases i:s.ij with
   |false=>rw[i]at ho;exact ho
   |true=>rw[i]at ho;cases j:s.dst.isSome with
    |true=>rw[j]at ho;exact ho
    |false=>rw[j]at ho;cases ho
  have:=FU.body hp (ctx:=ctx) (up:=up) (KK:=λ y=>oq M ctx (l++rest) y Z) hr hr0 (show FU M cZ s Q E D (pQ M cZ Q E D K l) g L R H from h)
   λ G V U H' F N O S=>by
    have e1:bq l (cond s.ij acc (Ra (motive:=λ _=>List Nat) acc (λ d=>d::acc) s.dst))=kf:=e1;obtain⟨f,o,p⟩:∃f,f.length=(cond s.ij acc (Ra (motive:=λ _=>List Nat) acc (λ d=>d::acc) s.dst)).length/\G=lE (cond s.ij acc (Ra (motive:=λ _=>List Nat) acc (λ d=>d::acc) s.dst)) L0 f:=by
     rcases F with⟨i,rfl,_⟩|⟨w,i,rfl,_⟩
     .rw [i];exact⟨us,e2,e3⟩
     .rw [i];cases s.dst with
      |none=>exact⟨us,e2,e3⟩
      |some d=>exact⟨w::us,by simpa using e2,by rw[e3];rfl⟩
    exact pQ.under hp hw C e1 o p (λ x J=>hg x (ww _ J)) u (by
     rcases F with⟨_,_,rfl⟩|⟨w,_,_,rfl⟩
     .exact ht
     .cases r:s.dst with
      |none=>exact ht
      |some d =>
       rw[r]at j;show(tm.set d w).get t=_;rw[T.aJ,qt (Qc j)];exact ht) N O S
  have⟨ij,dst,guard,args,op,W⟩:=s;subst hs;have e:cP b (tm.get t)=B1 true:=by rw[ht];exact hw
  cases ij with
  |false=>exact bQ.intro (m:=aH) e this
  |true=>exact bQ.intro (m:=aH) e this
def pQ.over{Z:cG}{R0:Env}{rest:List aO}{t:Nat}{b:Bool}{v:AV}(hw:cP b (B1 v)=B1 B2){kf:List Nat}{L0:Env}{H:ar}(i:∀tm,mh E (lE kf L0 (sk kf.length)) R0 tm->oq M ctx rest ⟨tm,D,up,H⟩ Z) :
 ∀{l:List aO}{acc:List Nat}{tm:T AV},bq l acc=kf->NJ (B1 (t,b)) l->vV t l=B4->tm.get t=B1 v->mh E (lE acc L0 (sk acc.length)) R0 tm->oq M ctx (l++rest) ⟨tm,D,up,H⟩ Z
 |[],acc,tm,e1,_,_,_,hr0=>by
  have e1:acc=kf:=e1;subst e1;exact i _ hr0
 |s::l,acc,tm,e1,hg,ho,ht,hr0=>by
  rw[Ik,gX];have hs:s.guard=B1 (t,b):=hg s (Js ..);have ho:cond (LI s.dst t) B2 (cond s.ij (cond s.dst.isSome (vV t l) B2) (vV t l))=true:=ho;have j:LI s.dst t=false:=by cases q:LI s.dst t with
   |true=>rw[q]at ho;cases ho
   |false=>rfl
  rw[j,zm]at ho;have e:cP b (tm.get t)=B1 false:=by rw[ht];exact hw
  have g:NJ (B1 (t,b)) l:=λ x o=>hg x (ww _ o);have e1:bq l (cond s.ij acc (Ra (motive:=λ _=>List Nat) acc (λ d=>d::acc) s.dst))=kf:=e1;cases h:s.ij with
  |true =>
   rw[h]at ho e1;cases f:s.dst.isSome with
   |false=>rw[f]at ho;cases ho
   |true =>
    rw[f]at ho;have:=pQ.over hw i e1 g ho ht hr0;have⟨ij,dst,guard,args,op,p⟩:=s;subst hs;subst h;exact bQ.intro (m:=aH) e ⟨f,this⟩
  |false =>
   rw[h]at ho e1;have:=pQ.over hw i (tm:=eH s.dst .undef tm) e1 g ho (by
    cases c:s.dst with
     |none=>exact ht
     |some d =>
      rw[c]at j;show(tm.set d _).get t=_;rw[T.aJ,qt (Qc j)];exact ht) (by
    have:=hr0.put s.dst .undef;cases c:s.dst with
     |none=>rw[c]at this;exact this
     |some d=>rw[c]at this;exact this)
   have⟨ij,dst,guard,args,op,p⟩:=s;subst hs;subst h;exact bQ.intro (m:=aH) e this
def Fp{a b:Option (Nat×Bool)}(h:sW a b=B4):a=b:=by
 cases a with
 |none=>cases b with
  |none=>rfl
  |some _=>cases h
 |some p=>cases b with
  |none=>cases h
  |some q =>
   have⟨t,x⟩:=p;have⟨u,y⟩:=q;have h:cond (J3 t u) (cond x y (!y)) B2=true:=h;cases hb:J3 t u with
   |false=>rw[hb]at h;cases h
   |true =>
    rw[hb]at h;rw[Jj hb];cases x<;>cases y<;>first|rfl|cases h
def C4:∀(l:List aO),(Ji l).flatMap (·.2)=l /\ ∀x∈Ji l,NJ x.1 x.2
 |[]=>⟨rfl,λ x c=>by cases c⟩
 |s::l=>by
  have⟨f,h⟩:=C4 l;have e:Ji (s::l)=List.casesOn (motive:=λ _=>List FP) (Ji l) [(s.guard,[s])] λ g r=>cond (sW g.1 s.guard) ((g.1,s::g.2)::r) ((s.guard,[s])::g::r):=rfl;rw[e];cases hg:Ji l with
  |nil =>
   rw[hg]at f;exact⟨by simpa using f,λ x c=>by simp at c;subst c;intro y d;simp at d;subst d;rfl⟩
  |cons g r =>
   rw[hg]at f h;show(cond (sW g.1 s.guard) ((g.1,s::g.2)::r) ((s.guard,[s])::g::r)).flatMap _=_ /\ ∀x∈cond (sW g.1 s.guard) ((g.1,s::g.2)::r) ((s.guard,[s])::g::r),_;cases hs:sW g.1 s.guard with
   |true =>
    refine⟨by simpa using f,λ x c=>?_⟩;rcases ji.1 c with rfl|c
    .intro y d;rcases ji.1 d with rfl|d
     .exact (Fp hs).symm
     .exact h g (Js ..) y d
    .exact h x (ww _ c)
   |false =>
    refine⟨by simpa using f,λ x c=>?_⟩;rcases ji.1 c with rfl|c
    .intro y d;simp at d;subst d;rfl
    .exact h x c
def yN.Rw{Z:cG}(hp:∀c tm H o,(∀t v,lk o t=B1 v->tm.get t=B1 v/\lk E t=B1 v)->Q (.panic c) o D H->Z (.panic c) ⟨tm,D,up,H⟩){K:KR}{g:Bool}(p:∀L R tm H,mh E L R tm->K g L R H->Z .normal ⟨tm,D,up,H⟩):∀{gs:List FP}{L R:Env}{tm:T AV}{H:ar},(∀x∈gs,NJ x.1 x.2)->mh E L R tm->yN M cZ Q E D K gs g L R H ->
 oq M ctx (gs.flatMap (·.2)) ⟨tm,D,up,H⟩ Z
 |[],L,R,tm,H,_,hr,h=>p _ _ _ _ hr h
 |x::gs,L,R,tm,H,hg,hr,h=>by
  rw[j5];have m:∀L R tm H,mh E L R tm->yN M cZ Q E D K gs g L R H->oq M ctx (gs.flatMap (·.2)) ⟨tm,D,up,H⟩ Z:=λ L R tm H hr h=>yN.Rw hp p (λ x i=>hg x (ww _ i)) hr h;have i:=hg x (Js ..);have⟨q,l⟩:=x;cases q with
  |none=>exact pQ.free hp (R0:=R) (λ L R tm H s _ j=>m L R tm H s j) i hr hr (show pQ M cZ Q E D (yN M cZ Q E D K gs) l g L R H from h)
  |some q =>
   have⟨t,b⟩:=q;cases ho:vV t l with
   |false =>
    have h:cond (vV t l) _ False:=h;rw[ho]at h;exact h.elim
   |true =>
    have h:cond (vV t l) _ False:=h;rw[ho,xw]at h;have⟨v,d,r,f,h⟩:=TV.elim hr h;have kl:cS (bq l [])=(bq l []).length:=Ez _;have h:B3 g (cP b (B1 v)) λ g w=>wD g w (λ g=>pQ M cZ Q E D (λ g u _ H=>qA (cS (bq l [])) (qU (cS (bq l [])) λ vs H=>yN M cZ Q E D K gs g (lE (bq l []) L vs) d H) (rM (cS (bq l [])) u) H) l g L d H)
     (λ g=>qA (cS (bq l [])) (qU (cS (bq l [])) λ vs H=>yN M cZ Q E D K gs g (lE (bq l []) L vs) d H) (sk (cS (bq l []))) H):=h
    have⟨w,hw,h⟩:=B3.elim h;cases w with
    |true =>
     refine pQ.under hp (R0:=d) hw (kf:=bq l []) (L0:=L) (λ vs R tm H q s z j=>?_) (acc:=[]) (us:=[]) rfl rfl rfl i ho r f f h;rw[kl,xhi _ _ _ q,X4 _ _ _ _ q]at j;exact m _ d tm H z j
    |false =>
     have h:qA (cS (bq l [])) (qU (cS (bq l [])) λ vs H=>yN M cZ Q E D K gs g (lE (bq l []) L vs) d H) (sk (cS (bq l []))) H:=h;rw[kl,X4 _ _ _ _ (xm9 _)]at h;exact pQ.over hw (kf:=bq l []) (L0:=L) (λ tm y=>m _ d tm H y h) (acc:=[]) rfl i ho r f
def rh.Rw{Z:cG}(hp:∀c tm H d,(∀t v,lk d t=B1 v->tm.get t=B1 v/\lk E t=B1 v)->Q (.panic c) d D H->Z (.panic c) ⟨tm,D,up,H⟩){l:List aO}{g:Bool}{H:ar}{K:KR}{tm:T AV}{ks:List Nat}(he:fZ ks E tm)(h:rh M cZ Q E D l g H K)(j:∀L R tm H,mh E L R tm->K g L R H->Z .normal ⟨tm,D,up,H⟩):oq M ctx l ⟨tm,D,up,H⟩ Z:=by
 have⟨f,i⟩:=C4 l;have:=yN.Rw hp (ctx:=ctx) j i (mh.first he) h
 rwa [f]at this
end
end
end Go.Am
namespace Go.Am
noncomputable section
variable{M:ak}{ctx:Ctx}{K:Kp}
def XF(ks:List Nat)(E:Env):∀(L:Env)(t:Nat)(v:AV),bF t ks=B4->lk (dG ks E L) t=B1 v->lk L t=B1 v\/lk L t=B5/\lk E t=B1 v
 |[],t,v,_,h=>.inr ⟨rfl,h⟩
 |(k,w)::r,t,v,ht,h=>by
  have h:lk (cond (bF k ks) ((k,w)::dG ks E r) (dG ks E r)) t=B1 v:=h;rw[wX];cases hm:bF k ks with
  |true =>
   rw[hm,xw,wX]at h;split at h
   .rename_i e;rw[xb e];exact .inl h
   .rename_i e;rw[qt e];exact XF ks E r t v ht h
  |false =>
   rw[hm,zm]at h
   by_cases e:k=t
   .subst e;rw[hm]at ht;cases ht
   .rw [qt e];exact XF ks E r t v ht h
def YA(ks:List Nat)(E:Env)(c:∀t v,lk E t=B1 v->bF t ks=B4):∀(L:Env)(t:Nat)(v:AV),lk (dG ks E L) t=B1 v->bF t ks=B4
 |[],t,v,h=>c t v h
 |(k,w)::r,t,v,h=>by
  have h:lk (cond (bF k ks) ((k,w)::dG ks E r) (dG ks E r)) t=B1 v:=h;cases hm:bF k ks with
  |true =>
   rw[hm,xw,wX]at h;split at h
   .rename_i e;subst e;exact hm
   .exact YA ks E c r t v h
  |false=>rw[hm,zm]at h;exact YA ks E c r t v h
def mh.ah{E L R:Env}{tm:T AV}(h:mh E L R tm){ks:List Nat}(d:∀t v,lk E t=B1 v->bF t ks=B4):fZ ks (dG ks E L) tm:=λ t v c=>by
 have hm:=YA ks E d L t v c;refine⟨?_,hm⟩;rcases XF ks E L t v hm c with q|⟨f,g⟩
 .exact h.l t v q
 .exact h.e t v f g
def fZ.keys{ks:List Nat}{E:Env}{tm:T AV}(h:fZ ks E tm):∀t v,lk E t=B1 v->bF t ks=true:=λ t v c=>(h t v c).2
def fZ.cZ{ks:List Nat}{E d:Env}{tm c:T AV}(h:fZ ks E tm)(f:∀t v,lk d t=B1 v->c.get t=B1 v/\lk E t=B1 v):fZ ks d c:=λ t v g=>⟨(f t v g).1,(h t v (f t v g).2).2⟩
def TV.cv{E L R:Env}{x:bJ}{g:Bool}{P:Bool->AV->Prop}{tm:T AV}(hr:mh E L R tm)(h:CV E L R x g P):∃v,rQ tm x=B1 v/\P g v:=by
 cases x with
 |tmp t=>have⟨v,_,c,_,d⟩:=TV.elim hr (show TV E L R t g (λ g _ v=>P g v)from h);exact⟨v,c,d⟩
 |const v=>exact⟨v,rfl,h⟩
 |eF v=>exact⟨_,rfl,h⟩
 |func v=>exact⟨_,rfl,h⟩
def OV.elim{ks:List Nat}{E:Env}{x:bJ}{g:Bool}{P:Bool->AV->Prop}{tm:T AV}(hr:fZ ks E tm)(h:OV E x g P):∃v,rQ tm x=B1 v/\P g v:=by
 cases x with
 |tmp t=>have⟨v,c,d⟩:=LK.elim (show LK g (lk E t) P from h);exact⟨v,(hr t v c).1,d⟩
 |const v=>exact⟨v,rfl,h⟩
 |eF v=>exact⟨_,rfl,h⟩
 |func v=>exact⟨_,rfl,h⟩
def xbc{tm:T AV}{x:bJ}{v:AV}{P:AV->Prop}(h:rQ tm x=B1 v)(hp:P v):FT tm x P:=by
 cases x with
 |tmp t=>exact bQ.intro (m:=aH) h hp
 |const c=>cases h;exact hp
 |eF c=>cases h;exact hp
 |func c=>cases h;exact hp
def ny.wp{a b:ai}{g:Bool}{v:AV}{A B:Bool->Prop}{tm:T AV}{c:bJ}{st:St}{Q:cG}(d:rQ st.tm c=B1 v)(h:ny g v A B)(ha:A g->WP M ctx a st Q)(hb:B g->WP M ctx b st Q):WP M ctx (.cond c a b) st Q:=by
 obtain⟨q,rfl,h⟩:=h.elim;refine xbc d ?_;cases q with
 |true=>exact ha h
 |false=>exact hb h
def eY:ai->Nat
 | .seq a b=>eY a+eY b+1
 | .cond _ a b=>eY a+eY b+1
 | .block _ b=>eY b+1
 | .loop _ b=>eY b+1
 | .scope b=>eY b+1
 |_=>0
def W3.wp:∀(n:Nat)(c:ai),eY c<=n -> ∀{g:Bool}{Q:aI}{E:Env}{D:List aM}{H:ar}{tm:T AV}{up:Option aG},W3 M ctx K c g Q E D H->fZ K.ah E tm->WP M ctx c ⟨tm,D,up,H⟩ (QQ K.ah Q up):=by
 intro n
 induction n with
 |zero =>
  intro c s g Q E D H tm up h he;cases c with
  |skip=>exact⟨rfl,E,he,h⟩
  |label _=>exact⟨rfl,E,he,h⟩
  |exit _=>exact⟨rfl,E,he,h⟩
  |goto _=>exact⟨rfl,E,he,h⟩
  |ret=>exact⟨rfl,E,he,h⟩
  |stuck=>exact OH h
  |region l=>exact rh.Rw (λ c F H' j p i=>⟨rfl,j,he.cZ p,i⟩) he (show rh M K.cZ Q E D l g H _ from h) λ L R tm H hr hk=>⟨rfl,_,hr.ah he.keys,hk⟩
  |rangeFunc f k =>
   have⟨v,t,h⟩:=OV.elim he (show OV E f g _ from h);exact xbc t (by
    have:=h tm up he;unfold J0 at this⊢;split
    .rename_i hr;rw[hr]at this;exact Np this λ e st⟨p,i,o⟩=>⟨p,E,by rw[i];exact he,o⟩
    .rename_i l hr;rw[hr]at this;exact Gh (m:=aH) this λ d q=>Np q λ e st⟨p,i,o⟩=>⟨p,E,by rw[i];exact he,o⟩)
  |seq _ _=>simp[eY]at s
  |cond _ _ _=>simp[eY]at s
  |block _ _=>simp[eY]at s
  |loop _ _=>simp[eY]at s
  |scope _=>simp[eY]at s
 |succ n ih =>
  intro c s g Q E D H tm up h he;have u:∀{a b:ai}{tm:T AV}{H:ar},eY b<=n->WP M ctx a ⟨tm,D,up,H⟩ (QQ K.ah (fg (W3 M ctx K b) Q) up)->WP M ctx a ⟨tm,D,up,H⟩ (BN (WP M ctx b) (QQ K.ah Q up)):=λ{a b tm H}hb h=>pV h λ e st⟨p,j,i,o⟩=>by
   have⟨F,D',V,H'⟩:=st;subst p;cases e with
   |normal=>exact ih b hb o i
   |exit _=>exact⟨rfl,j,i,o⟩
   |goto _=>exact⟨rfl,j,i,o⟩
   |ret=>exact⟨rfl,j,i,o⟩
   |panic _=>exact⟨rfl,j,i,o⟩
  have w:∀{c:bJ}{x y:ai}{E:Env}{tm:T AV}{v:AV}{g:Bool}{Q:aI}{H:ar},eY x<=n->eY y<=n->rQ tm c=B1 v->fZ K.ah E tm->ny g v (λ g=>W3 M ctx K x g Q E D H) (λ g=>W3 M ctx K y g Q E D H)->WP M ctx (.cond c x y) ⟨tm,D,up,H⟩ (QQ K.ah Q up) :=
   λ{c x y E tm v g Q H}hx hy t he h=>ny.wp (tm:=tm) (st:=⟨tm,D,up,H⟩) t h (λ h=>ih x hx h he) (λ h=>ih y hy h he)
  cases c with
  |seq a b =>
   have z:eY a+eY b<=n:=by simp only[eY]at s;omega
   have gen:W3 M ctx K a g (fg (W3 M ctx K b) Q) E D H->WP M ctx (.seq a b) ⟨tm,D,up,H⟩ (QQ K.ah Q up):=λ h=>u (a:=a) (b:=b) (by omega) (ih a (by omega) h he);have pq:∀(l:List aO)(S:KR),a=.region l->rh M K.cZ Q E D l g H S->(∀L R tm H,mh E L R tm->S g L R H->WP M ctx b ⟨tm,D,up,H⟩ (QQ K.ah Q up))->WP M ctx (.seq a b) ⟨tm,D,up,H⟩ (QQ K.ah Q up):=λ l S e h' hk=>by
    subst e;exact rh.Rw (Z:=BN (WP M ctx b) (QQ K.ah Q up)) (λ c F H' j p i=>⟨rfl,j,he.cZ p,i⟩) he h' hk
   cases a with
   |region l =>
    have plain:(rh M K.cZ Q E D l g H λ g L _ H=>W3 M ctx K b g Q (dG K.ah E L) D H)->WP M ctx (.seq (.region l) b) ⟨tm,D,up,H⟩ (QQ K.ah Q up):=λ h=>pq l _ rfl h λ L R tm H hr hk=>ih b (by omega) hk (hr.ah he.keys);cases b with
    |cond c x y =>
     have U:eY x+eY y+1<=n:=by simp only[eY]at z;omega
     refine pq l _ rfl h λ L R tm H hr hk=>?_;have⟨v,t,hk⟩:=TV.cv hr hk;exact w (by omega) (by omega) t (hr.ah he.keys) hk
    |seq b1 r =>
     cases b1 with
     |cond c x y =>
      have U:eY x+eY y+1+eY r+1<=n:=by simp only[eY]at z;omega
      refine pq l _ rfl h λ L R tm H hr hk=>?_;have⟨v,t,hk⟩:=TV.cv hr hk;exact u (by omega) (w (by omega) (by omega) t (hr.ah he.keys) hk)
     |_=>exact plain h
    |_=>exact plain h
   |_=>exact gen h
  |cond c x y =>
   have z:eY x+eY y<=n:=by simp only[eY]at s;omega
   have⟨v,t,h⟩:=OV.elim he (show OV E c g _ from h);exact w (by omega) (by omega) t he h
  |block id b =>
   have hb:eY b<=n:=by simp only[eY]at s;omega
   exact pV (c:=b) (ih b hb (show W3 M ctx K b g (eU id Q) E D H from h) he) λ e st⟨p,j,i,o⟩=>by cases e<;>exact⟨p,j,i,o⟩
  |scope b =>
   have hb:eY b<=n:=by simp only[eY]at s;omega
   refine pV (c:=b) (ih b hb (show W3 M ctx K b g (kK b Q) E D H from h) he) λ e st⟨p,j,i,o⟩=>?_;cases e with
   |goto l=>exact⟨o.1,p,j,i,o.2⟩
   |normal=>exact⟨p,j,i,o⟩
   |exit _=>exact⟨p,j,i,o⟩
   |ret=>exact⟨p,j,i,o⟩
   |panic _=>exact⟨p,j,i,o⟩
  |loop ah b =>
   have hb:eY b<=n:=by simp only[eY]at s;omega
   cases ah with
   |some _=>exact OH h
   |none =>
    have⟨I,⟨n0,W,h0,hs⟩,C⟩:=(show dD (W3 M ctx K b) Q E D H from h)
    refine⟨λ n st=>st.up=up /\ ∃j,fZ K.ah j st.tm/\I n j st.aZ st.H,⟨n0,rfl,W,hs.sub he,h0⟩,λ n st⟨p,j,i,o⟩=>?_⟩;have⟨F,D',V,H'⟩:=st;subst p;refine pV (c:=b) (ih b hb (C n j D' H' o) i) λ e st⟨G,O,J,N⟩=>?_;cases e with
    |normal=>have⟨m,Y,q1,q2,q3⟩:=N;exact⟨m,q3,G,Y,q2.sub J,q1⟩
    |exit _=>exact⟨G,O,J,N⟩
    |goto _=>exact⟨G,O,J,N⟩
    |ret=>exact⟨G,O,J,N⟩
    |panic _=>exact⟨G,O,J,N⟩
  |skip=>exact⟨rfl,E,he,h⟩
  |label _=>exact⟨rfl,E,he,h⟩
  |exit _=>exact⟨rfl,E,he,h⟩
  |goto _=>exact⟨rfl,E,he,h⟩
  |ret=>exact⟨rfl,E,he,h⟩
  |stuck=>exact OH h
  |region l=>exact ih _ (x9 _) h he
  |rangeFunc f k=>exact ih _ (x9 _) h he
def jK(E:Env)(H:ar):List ei->(List AV->Prop)->Prop
 |[],P=>P []
 | .tmp t::rs,P=>LK B4 (lk E t) λ _ v=>jK E H rs λ vs=>P (v::vs)
 | .kR a::rs,P=>LK B4 (lk E a) λ _ v=>B3 B4 (Op.ae [v] H) λ _ v=>jK E H rs λ vs=>P (v::vs)
 | .cM n a::rs,P=>LK B4 (lk E a) λ _ v=>B3 B4 (Op.av n [v] H) λ _ v=>jK E H rs λ vs=>P (v::vs)
def mU(M:ak)(rs:List ei)(E:Env)(Q:bH->ar->Prop):List aM->Option aG->ar->Prop
 |[],B5,H=>jK E H rs λ l=>Q (.ret (jN l)) H
 |[],B1 c,H=>Q (.panic c) H
 | .jJ b::ds,m,H=>H.get b=B1 (.deferred (B1 []))/\mU M rs E Q ds m (H.set b (.deferred B5))
 | .fn (.func f) args::ds,m,H=>∃v up' H',jW M f args (B1 (m.getD [])) H (.ret v) (B1 up') H'/\bQ aH (nQ m up') λ m'=>mU M rs E Q ds m' H'
 | .fn (.yield _) _::_,_,_=>False
def jK.elim{ks:List Nat}{E:Env}{tm:T AV}(he:fZ ks E tm){H:ar}:∀{rs:List ei}{P:List AV->Prop},jK E H rs P -> ∃l,d8 H tm rs=B1 l/\P l
 |[],P,h=>⟨[],rfl,h⟩
 | .tmp t::rs,P,h=>by
  have⟨v,c,h⟩:=LK.elim (show LK B4 (lk E t) _ from h);have⟨l,d,h⟩:=jK.elim he h;exact⟨v::l,by rw[HZ,(he t v c).1,d];rfl,h⟩
 | .kR t::rs,P,h=>by
  have⟨v,c,h⟩:=LK.elim (show LK B4 (lk E t) _ from h);have⟨w,d,h⟩:=B3.elim h;have⟨l,f,h⟩:=jK.elim he h;exact⟨w::l,by rw[xmw,(he t v c).1,qr,d,qr,f];rfl,h⟩
 | .cM n t::rs,P,h=>by
  have⟨v,c,h⟩:=LK.elim (show LK B4 (lk E t) _ from h);have⟨w,d,h⟩:=B3.elim h;have⟨l,f,h⟩:=jK.elim he h;exact⟨w::l,by rw[xmx,(he t v c).1,qr,d,qr,f];rfl,h⟩
def mU.UF{ks:List Nat}{E:Env}{tm:T AV}(he:fZ ks E tm){rs:List ei}{Q:bH->ar->Prop}:∀{D:List aM}{m:Option aG}{H:ar},mU M rs E Q D m H->zQ M rs tm Q D m H
 |[],B5,H,h=>by have⟨l,d,g⟩:=jK.elim he h;exact bQ.intro (m:=aH) d g
 |[],B1 c,H,h=>h
 | .jJ b::ds,m,H,⟨d,g⟩=>⟨d,mU.UF he g⟩
 | .fn (.func f) args::ds,m,H,⟨v,up',H',d,g⟩=>⟨v,up',H',d,Gh g λ i h=>mU.UF he h⟩
 | .fn (.yield _) _::_,_,_,h=>h
def eX(M:ak)(rs:List ei)(Q:bH->ar->Prop):aI:=λ e E D H=>match e with
 | .normal=>mU M rs E Q D B5 H
 | .ret=>mU M rs E Q D B5 H
 | .panic c=>mU M rs E Q D (B1 c) H
 |_=>False
def Dd(M:ak)(f:Nat)(vs:List AV)(H:ar)(Q:bH->ar->Prop):Prop:=∃e H',CALL M f vs H e H'/\Q e H'
def vK(Q:AV->ar->Prop)(e:bH)(H:ar):Prop:=match e with
 | .ret v=>Q v H
 | .panic _=>False
def zk(M:ak)(f:Nat)(vs:List AV)(H:ar)(Q:AV->ar->Prop):Prop:=Dd M f vs H (vK Q)
def zk.elim{f:Nat}{vs:List AV}{H:ar}{Q:AV->ar->Prop}(h:zk M f vs H Q):∃v H',CALL M f vs H (.ret v) H'/\Q v H':=by
 have⟨e,H',d,c⟩:=h;cases e with
 |ret v=>exact⟨v,H',d,c⟩
 |panic _=>exact c.elim
def zk.intro{f:Nat}{vs:List AV}{H:ar}{Q:AV->ar->Prop}{v:AV}{H':ar}(h:CALL M f vs H (.ret v) H')(c:Q v H'):zk M f vs H Q:=⟨_,H',h,c⟩
def zk.mono{f:Nat}{vs:List AV}{H:ar}{Q Q':AV->ar->Prop}(h:zk M f vs H Q)(g:∀v H',Q v H'->Q' v H'):zk M f vs H Q':=by
 have⟨v,H',c,d⟩:=h.elim;exact⟨_,H',c,g _ _ d⟩
def C3.q{m:Bool}{f:Nat}{vs:List AV}{H:ar}{R:AV->ar->Prop}{P:Bool->AV->ar->Prop}(h:zk M f vs H R)(hk:∀v H',R v H'->P m v H'):C3 M m (.func f) vs H P:=by
 have⟨v,H',c,d⟩:=h.elim;exact⟨v,H',c,hk v H' d⟩
def C3.ret{m:Bool}{f:Nat}{vs:List AV}{H:ar}{P:Bool->AV->ar->Prop}{v:AV}{H':ar}(h:CALL M f vs H (.ret v) H')(hk:P m v H'):C3 M m (.func f) vs H P:=⟨v,H',h,hk⟩
def C3.tH{m:Bool}{l:Nat}{vs:List AV}{H:ar}{P:Bool->AV->ar->Prop}{v:AV}{H':ar}(h:sD M l vs H (.ret v) H')(hk:P m v H'):C3 M m (.yield l) vs H P:=⟨v,H',h,hk⟩
def P3.q{m:Bool}{X:aG->ar->Prop}{f:Nat}{vs:List AV}{H:ar}{R:bH->ar->Prop}{P:Bool->AV->ar->Prop}(h:Dd M f vs H R)(hk:∀v H',R (.ret v) H'->P m v H')(i:∀c H',R (.panic c) H'->X c H'):P3 M m X (.func f) vs H P:=by
 have⟨e,H',g,d⟩:=h;refine⟨e,H',g,?_⟩;cases e with
 |ret v=>exact hk _ _ d
 |panic c=>exact i _ _ d
def kN:Nat->List AV->Env
 |_,[]=>[]
 |i,v::vs=>(i,v)::kN (i+1) vs
def kA:Nat->Nat->List Nat->Bool
 |_,0,_=>B4
 |i,n+1,ks=>bF i ks && kA (i+1) n ks
def S':∀(vs:List AV)(i t:Nat)(tm:T AV),(jV i vs tm).get t=if i<=t then(match vs[t-i]? with|some v=>B1 v|none=>tm.get t)else tm.get t
 |[],i,t,tm=>by simp[jV]
 |v::vs,i,t,tm=>by
  rw[jV,S' vs (i+1) t,T.aJ]
  by_cases h:i=t
  .subst h;simp;intro h;omega
  .by_cases c:i<=t
   .have e:t-i=(t-(i+1))+1:=by omega
    rw[xb (show i+1<=t by omega),xb c,qt h,e,zr]
   .rw [qt (by omega),qt c,qt h]
def Γ:∀(vs:List AV)(i t:Nat)(v:AV),lk (kN i vs) t=B1 v->i<=t/\vs[t-i]? = B1 v
 |[],i,t,v,h=>by cases h
 |w::vs,i,t,v,h=>by
  rw[kN,wX]at h;split at h
  .rename_i e;subst e;cases h;simp
  .have ⟨d,c⟩:=Γ vs (i+1) t v h;refine⟨by omega,?_⟩;have e:t-i=(t-(i+1))+1:=by omega
   rw[e,zr,c]
def xch:∀(n i:Nat)(ks:List Nat),kA i n ks=B4 -> ∀t,i<=t->t<i+n->bF t ks=B4
 |0,i,ks,_,t,h1,h2=>by omega
 |n+1,i,ks,h,t,h1,h2=>by
  simp only[kA,zd]at h
  by_cases e:i=t
  .subst e;exact h.1
  .exact xch n (i+1) ks h.2 t (by omega) (by omega)
def gw{ks:List Nat}{vs:List AV}(h:kA 0 vs.length ks=B4):fZ ks (kN 0 vs) (jV 0 vs .nil):=λ t v d=>by
 have⟨_,c⟩:=Γ vs 0 t v d;rw[Ja]at c;refine⟨by rw[S',xb (x9 _),Ja,c],xch _ 0 ks h t (x9 _) ?_⟩;rw[yr];exact(qo.1 c).1
structure Fn3 where
 n:Nat
 F:bV
 K:Kp
def pre:ai->List ai
 | .seq a b=>.seq a b::kO (pre a) (pre b)
 | .cond c a b=>.cond c a b::kO (pre a) (pre b)
 | .block i b=>.block i b::pre b
 | .loop k b=>.loop k b::pre b
 | .scope b=>.scope b::pre b
 |c=>[c]
def part(c:ai)(k:Nat):ai:=Ra (motive:=λ _=>ai) .stuck (λ c=>c) (nth (pre c) k)
def dA:ai->Nat
 | .seq a b=>dA a+dA b+1
 | .cond _ a b=>dA a+dA b+1
 | .block _ b=>dA b+1
 | .loop _ b=>dA b+1
 | .scope b=>dA b+1
 |_=>1
def HQ:∀(c:ai),(pre c).length=dA c
 | .seq a b=>by simp[pre,dA,pD,HQ a,HQ b]
 | .cond _ a b=>by simp[pre,dA,pD,HQ a,HQ b]
 | .block _ b=>by simp[pre,dA,HQ b]
 | .loop _ b=>by simp[pre,dA,HQ b]
 | .scope b=>by simp[pre,dA,HQ b]
 | .skip=>rfl
 | .label _=>rfl
 | .exit _=>rfl
 | .goto _=>rfl
 | .ret=>rfl
 | .stuck=>rfl
 | .region _=>rfl
 | .rangeFunc _ _=>rfl
def ZJ(c:ai):∃l,pre c=c::l:=by cases c<;>exact⟨_,rfl⟩
def Za{α:Type}:∀(l:List α)(i:Nat),nth l i=l[i]?
 |[],i=>rfl
 |x::l,0=>rfl
 |x::l,i+1=>by rw[zr,<-Za l i];rfl
def KX:∀(r:ai)(k:Nat)(c:ai),(pre r)[k]? = B1 c -> ∃l,(pre r).drop k=pre c++l:=by
 intro r
 induction r with
 |seq a b iha ihb =>
  intro k c h;cases k with
  |zero=>simp[pre]at h;subst h;exact⟨[],by simp⟩
  |succ k =>
   simp only[pre,pD,zr]at h;simp only[pre,pD,Lm]
   by_cases hk:k<(pre a).length
   .rw [jq hk]at h;have⟨l,hl⟩:=iha k c h;exact⟨l++pre b,by rw[y9 (by omega),hl,zy]⟩
   .rw [zu (by omega)]at h;have⟨l,hl⟩:=ihb _ c h;refine⟨l,?_⟩;rw[BE,jr (by omega),jc,hl]
 |cond x a b iha ihb =>
  intro k c h;cases k with
  |zero=>simp[pre]at h;subst h;exact⟨[],by simp⟩
  |succ k =>
   simp only[pre,pD,zr]at h;simp only[pre,pD,Lm]
   by_cases hk:k<(pre a).length
   .rw [jq hk]at h;have⟨l,hl⟩:=iha k c h;exact⟨l++pre b,by rw[y9 (by omega),hl,zy]⟩
   .rw [zu (by omega)]at h;have⟨l,hl⟩:=ihb _ c h;refine⟨l,?_⟩;rw[BE,jr (by omega),jc,hl]
 |block i b ih =>
  intro k c h;cases k with
  |zero=>simp[pre]at h;subst h;exact⟨[],by simp⟩
  |succ k=>simp only[pre,zr]at h;simpa only[pre,Lm]using ih k c h
 |loop i b ih =>
  intro k c h;cases k with
  |zero=>simp[pre]at h;subst h;exact⟨[],by simp⟩
  |succ k=>simp only[pre,zr]at h;simpa only[pre,Lm]using ih k c h
 |scope b ih =>
  intro k c h;cases k with
  |zero=>simp[pre]at h;subst h;exact⟨[],by simp⟩
  |succ k=>simp only[pre,zr]at h;simpa only[pre,Lm]using ih k c h
 |_ =>
  intro k c h;cases k with
  |zero=>simp[pre]at h;subst h;exact⟨[],by simp[pre]⟩
  |succ k=>simp[pre]at h
def t5{r:ai}{k:Nat}{c:ai}(h:(pre r)[k]? = B1 c):part r k=c:=by
 unfold part;rw[Za,h]
def φ{r:ai}{k:Nat}{c:ai}(h:part r k=c)(m:c≠ .stuck):∀(j:Nat)(d:ai),(pre c)[j]? = B1 d->part r (k+j)=d:=λ j d f=>by
 have i:(pre r)[k]? = B1 c:=by
  unfold part at h;rw[Za]at h;cases g:(pre r)[k]? with
  |none=>rw[g]at h;exact(m h.symm).elim
  |some x=>rw[g]at h;exact congrArg B1 h
 have⟨l,hl⟩:=KX r k c i;refine t5 ?_;rw[<-vc,hl,jq (qo.1 f).1,f]
def Dw(c:ai):(pre c)[0]? = B1 c:=by have⟨l,h⟩:=ZJ c;rw[h];rfl
def GI{r:ai}{k:Nat}{c a b:ai}(h:part r k=c)(d:c≠ .stuck)(e:∃x l,pre c=x::(pre a++l)):part r (k+1)=a:=by
 have⟨x,l,e⟩:=e;have⟨f,e'⟩:=ZJ a;exact φ h d 1 a (by rw[e,e'];rfl)
def Ou{r:ai}{k:Nat}{c a b:ai}(h:part r k=c)(d:c≠ .stuck)(e:∃x,pre c=x::(pre a++pre b)):part r (k+1+dA a)=b:=by
 have⟨x,e⟩:=e;have⟨f,e'⟩:=ZJ b;rw[wT];exact φ h d (1+dA a) b (by rw[e,Nat.add_comm,zr,zu (by rw[HQ];exact qm _),HQ,Nat.sub_self,e'];rfl)
def U(M:ak)(ctx:Ctx)(K:Kp)(X:Nat->WX):ai->Nat->WX
 | .skip,_,g,Q,E,D,H=>qF g Q .normal E D H
 | .label _,_,g,Q,E,D,H=>qF g Q .normal E D H
 | .exit id,_,g,Q,E,D,H=>qF g Q (.exit id) E D H
 | .goto l,_,g,Q,E,D,H=>qF g Q (.goto l) E D H
 | .ret,_,g,Q,E,D,H=>qF g Q .ret E D H
 | .stuck,_,_,_,_,_,_=>False
 | .region l,_,g,Q,E,D,H=>rh M K.cZ Q E D l g H λ g L _ H=>qF g Q .normal (dG K.ah E L) D H
 | .seq a b,k,g,Q,E,D,H=>match a,b with
  | .region l,.cond c x y=>rh M K.cZ Q E D l g H λ g L R H=>CV E L R c g λ g v=>ny g v (λ g=>(Pa (motive:=λ _=>WX) (U M ctx K X x (k+3)) (X (k+3)) (bF (k+3) K.named)) g Q (dG K.ah E L) D H) (λ g=>(Pa (motive:=λ _=>WX) (U M ctx K X y (k+3+dA x)) (X (k+3+dA x)) (bF (k+3+dA x) K.named)) g Q (dG K.ah E L) D H)
  | .region l,.seq (.cond c x y) r=>rh M K.cZ Q E D l g H λ g L R H=>CV E L R c g λ g v=>ny g v (λ g=>(Pa (motive:=λ _=>WX) (U M ctx K X x (k+4)) (X (k+4)) (bF (k+4) K.named)) g (fg (Pa (motive:=λ _=>WX) (U M ctx K X r (k+4+dA x+dA y)) (X (k+4+dA x+dA y)) (bF (k+4+dA x+dA y) K.named)) Q) (dG K.ah E L) D H)
   (λ g=>(Pa (motive:=λ _=>WX) (U M ctx K X y (k+4+dA x)) (X (k+4+dA x)) (bF (k+4+dA x) K.named)) g (fg (Pa (motive:=λ _=>WX) (U M ctx K X r (k+4+dA x+dA y)) (X (k+4+dA x+dA y)) (bF (k+4+dA x+dA y) K.named)) Q) (dG K.ah E L) D H)
  | .region l,b=>rh M K.cZ Q E D l g H λ g L _ H=>(Pa (motive:=λ _=>WX) (U M ctx K X b (k+2)) (X (k+2)) (bF (k+2) K.named)) g Q (dG K.ah E L) D H
  |a,b=>(Pa (motive:=λ _=>WX) (U M ctx K X a (k+1)) (X (k+1)) (bF (k+1) K.named)) g (fg (Pa (motive:=λ _=>WX) (U M ctx K X b (k+1+dA a)) (X (k+1+dA a)) (bF (k+1+dA a) K.named)) Q) E D H
 | .cond c x y,k,g,Q,E,D,H=>OV E c g λ g v=>ny g v (λ g=>(Pa (motive:=λ _=>WX) (U M ctx K X x (k+1)) (X (k+1)) (bF (k+1) K.named)) g Q E D H) (λ g=>(Pa (motive:=λ _=>WX) (U M ctx K X y (k+1+dA x)) (X (k+1+dA x)) (bF (k+1+dA x) K.named)) g Q E D H)
 | .block id b,k,g,Q,E,D,H=>(Pa (motive:=λ _=>WX) (U M ctx K X b (k+1)) (X (k+1)) (bF (k+1) K.named)) g (eU id Q) E D H
 | .scope b,k,g,Q,E,D,H=>(Pa (motive:=λ _=>WX) (U M ctx K X b (k+1)) (X (k+1)) (bF (k+1) K.named)) g (kK b Q) E D H
 | .loop (B1 _) _,_,_,_,_,_,_=>False
 | .loop B5 b,k,g,Q,E,D,H=>dD (Pa (motive:=λ _=>WX) (U M ctx K X b (k+1)) (X (k+1)) (bF (k+1) K.named)) Q E D H
 | .rangeFunc f n,_,g,Q,E,D,H=>OV E f g λ g v=>iE M K.ah ctx n E D H Q v
def Xv(r:ai):∀(n:Nat)(c:ai),dA c<=n -> ∀k,part r k=c->U M ctx K (λ j=>W3 M ctx K (part r j)) c k=W3 M ctx K c:=by
 intro n
 induction n with
 |zero=>intro c f;cases c<;>simp[dA]at f
 |succ n ih =>
  intro c f k hk;have sub:∀(d:ai)(j:Nat),dA d<=n->part r j=d->Pa (motive:=λ _=>WX) (U M ctx K (λ j=>W3 M ctx K (part r j)) d j) (W3 M ctx K (part r j)) (bF j K.named)=W3 M ctx K d:=λ d j t s=>by
   cases bF j K.named with
   |true=>show W3 M ctx K (part r j)=_;rw[s]
   |false=>exact ih d t j s
  have pl:=@GI r;have z:=@Ou r;cases c with
  |seq a b =>
   have e:pre (.seq a b)=.seq a b::(pre a++pre b):=by simp[pre,pD]
   have ha:=GI (b:=b) hk (by simp) ⟨_,_,e⟩;have hb:=Ou hk (by simp) ⟨_,e⟩;have hs:dA a+dA b<=n:=by simp only[dA]at f;omega
   have gen:(Pa (motive:=λ _=>WX) (U M ctx K (λ j=>W3 M ctx K (part r j)) a (k+1)) (W3 M ctx K (part r (k+1))) (bF (k+1) K.named))=W3 M ctx K a/\(Pa (motive:=λ _=>WX) (U M ctx K (λ j=>W3 M ctx K (part r j)) b (k+1+dA a)) (W3 M ctx K (part r (k+1+dA a))) (bF (k+1+dA a) K.named))=W3 M ctx K b :=
    ⟨sub a _ (by omega) ha,sub b _ (by omega) hb⟩
   cases a with
   |region l =>
    have plain:(Pa (motive:=λ _=>WX) (U M ctx K (λ j=>W3 M ctx K (part r j)) b (k+2)) (W3 M ctx K (part r (k+2))) (bF (k+2) K.named))=W3 M ctx K b:=sub b _ (by omega) hb;cases b with
    |cond c x y =>
     have e2:pre (.cond c x y)=.cond c x y::(pre x++pre y):=by simp[pre,pD]
     have m:=GI (b:=y) hb (by simp) ⟨_,_,e2⟩;have p:=Ou hb (by simp) ⟨_,e2⟩;have o:dA x+dA y+1<=n:=by simp only[dA]at hs;omega
     have s1:=sub x (k+3) (by omega) m;have s2:=sub y (k+3+dA x) (by omega) p;funext g Q E D H;simp only[U,W3,s1,s2]
    |seq b1 q =>
     cases b1 with
     |cond c x y =>
      have e1:pre (.seq (.cond c x y) q)=.seq (.cond c x y) q::(pre (.cond c x y)++pre q):=by simp[pre,pD]
      have e2:pre (.cond c x y)=.cond c x y::(pre x++pre y):=by simp[pre,pD]
      have h:=GI (b:=q) hb (by simp) ⟨_,_,e1⟩;have u:=Ou hb (by simp) ⟨_,e1⟩;have m:=GI (b:=y) h (by simp) ⟨_,_,e2⟩;have p:=Ou h (by simp) ⟨_,e2⟩;have o:dA x+dA y+1+dA q+1<=n:=by simp only[dA]at hs;omega
      have s1:=sub x (k+4) (by omega) m;have s2:=sub y (k+4+dA x) (by omega) p;have w:=sub q (k+4+dA x+dA y) (by omega) (by rw[<-u];simp only[dA];congr 1;omega);funext g Q E D H;simp only[U,W3,s1,s2,w]
     |_=>funext g Q E D H;simp only[U,W3]at plain⊢;simp only[plain]
    |_=>funext g Q E D H;simp only[U,W3]at plain⊢;simp only[plain]
   |_=>funext g Q E D H;simp only[U,W3]at gen⊢;simp only[gen.1,gen.2]
  |cond c x y =>
   have e2:pre (.cond c x y)=.cond c x y::(pre x++pre y):=by simp[pre,pD]
   have m:=GI (b:=y) hk (by simp) ⟨_,_,e2⟩;have p:=Ou hk (by simp) ⟨_,e2⟩;have o:dA x+dA y<=n:=by simp only[dA]at f;omega
   have s1:=sub x (k+1) (by omega) m;have s2:=sub y (k+1+dA x) (by omega) p;funext g Q E D H;simp only[U,W3,s1,s2]
  |block i b =>
   have s1:=sub b (k+1) (by simp only[dA]at f;omega) (GI (b:=b) hk (by simp) ⟨.block i b,[],by simp[pre]⟩);funext g Q E D H;simp only[U,W3,s1]
  |scope b =>
   have s1:=sub b (k+1) (by simp only[dA]at f;omega) (GI (b:=b) hk (by simp) ⟨.scope b,[],by simp[pre]⟩);funext g Q E D H;simp only[U,W3,s1]
  |loop i b =>
   have s1:=sub b (k+1) (by simp only[dA]at f;omega) (GI (b:=b) hk (by simp) ⟨.loop i b,[],by simp[pre]⟩);funext g Q E D H;cases i with
   |none=>simp only[U,W3,s1]
   |some _=>rfl
  |_=>funext g Q E D H;rfl
def Pt:∃F:ak->Ctx->Kp×ai->WX,F=λ M ctx p=>W3 M ctx p.1 p.2:=⟨_,rfl⟩
def W:ak->Ctx->Kp×ai->WX:=Classical.choose Pt
def lS(M:ak)(ctx:Ctx)(p:Kp×ai):W M ctx p=W3 M ctx p.1 p.2:=congrFun (congrFun (congrFun (Classical.choose_spec Pt) M) ctx) p
def funcAt(P:Kc)(n:Nat):bV:=Ra (motive:=λ _=>bV) ⟨[],.stuck,[]⟩ (λ f=>f) ((aW P).func n)
def gY(F:bV)(i:Nat):dM:=Ra (motive:=λ _=>dM) ⟨[],.stuck,.stuck⟩ (λ l=>l) (nth F.loops i)
def yX{M:ak}{ctx:Ctx}{K:Kp}{r:ai}{k:Nat}{g:Bool}{Q:aI}{E:Env}{D:List aM}{H:ar}{R:Prop}(h:U M ctx K (λ j=>W M ctx (K,part r j)) (part r k) k g Q E D H=R):W M ctx (K,part r k) g Q E D H=R:=by
 rw[<-h];have e:(λ j=>W M ctx (K,part r j))=λ j=>W3 M ctx K (part r j):=by funext j;exact lS ..
 rw[e,Xv (ctx:=ctx) (K:=K) r _ (part r k) (qm _) k rfl,lS]
abbrev uu:AV:=.undef
def TB(c:ai):part c 0=c:=t5 (Dw c)
def Y3{α β:Type}{a b:α}{x y:β}(h:(a,x)=(b,y)):a=b/\x=y:=by injection h with c d;exact⟨c,d⟩
def Pe{M:ak}{f:Nat}{fn:bV}(o:M.func f=B1 fn){ks:Kp}{vs:List AV}(hk:kA 0 vs.length ks.ah=B4){H:ar}{Q:bH->ar->Prop}
 (h:W M ⟨B5,f⟩ (ks,part fn.body 0) B4 (eX M fn.results Q) (kN 0 vs) [] H):Dd M f vs H Q:=by
 rw[lS,TB]at h;refine _1 o (pV (W3.wp (eY fn.body) fn.body (qm _) (up:=B5) h (gw hk)) λ e st⟨g,i,l,d⟩=>?_);have⟨tm,D,up,H'⟩:=st;have g:up=none:=g;subst g;have mono:∀{m:Option aG},mU M fn.results i Q D m H'->zQ M fn.results tm (λ e H=>(B5:Option aG)=B5/\Q e H) D m H':=λ{m}h=>by
  have j:mU M fn.results i (λ e H=>(B5:Option aG)=B5/\Q e H) D m H':=by
   have e:(λ e H=>(B5:Option aG)=B5/\Q e H)=Q:=by funext e H;simp
   rw[e];exact h
  exact mU.UF l j
 cases e with
 |normal=>exact mono d
 |ret=>exact mono d
 |panic c=>exact mono d
 |exit _=>exact d.elim
 |goto _=>exact d.elim
section
variable(E:Env)(H:ar)(K:Bool->AV->Prop)(K2:Bool->AV->ar->Prop)(A B:Bool->Prop)
def Lz(E:Env)(n:Nat)(K:Bool->AV->Prop):Prop:=LK B4 (lk E n) K
def Ly(g:Bool)(E:Env)(n:Nat)(K:Bool->AV->Prop):Prop:=LK g (lk E n) K
def Fl(g:Bool)(i:Nat)(a:AV)(H:ar)(K:Bool->AV->Prop):Prop:=B3 g (Op.fieldAddr i [a]) λ g x=>B3 g (Op.ae [x] H) K
def Nf(g:Bool)(i:Nat)(a:AV)(H:ar)(K:Bool->AV->Prop):Prop:=B3 g (Op.nilCheck [a]) λ g x=>Fl g i x H K
def Fs(g:Bool)(i:Nat)(a b:AV)(H:ar)(K:Bool->AV->ar->Prop):Prop:=B3 g (Op.fieldAddr i [a]) λ g x=>jO g (Op.store 1 [x,b] H) K
def Ns(g:Bool)(i:Nat)(a b:AV)(H:ar)(K:Bool->AV->ar->Prop):Prop:=B3 g (Op.nilCheck [a]) λ g x=>Fs g i x b H K
def Xl(g:Bool)(a b:AV)(H:ar)(K:Bool->AV->Prop):Prop:=B3 g (Op.aP 1 [a,b]) λ g x=>B3 g (Op.ae [x] H) K
def Xs(g:Bool)(a b c:AV)(H:ar)(K:Bool->AV->ar->Prop):Prop:=B3 g (Op.aP 1 [a,b]) λ g x=>jO g (Op.store 1 [x,c] H) K
def Bn(g:Bool)(o:BinOp)(a b:AV)(K:Bool->AV->Prop):Prop:=B3 g (Op.bin o [a,b]) K
def Cb(g:Bool)(o:BinOp)(a b:AV)(A B:Bool->Prop):Prop:=B3 g (Op.bin o [a,b]) λ g v=>ny g v A B
def Gt(g:Bool)(M:ak)(c:Ctx)(p:Kp×ai)(Q:aI)(E:Env)(D:List aM)(H:ar):Prop:=qF g (fg (W M c p) Q) .normal E D H
def X0(n:Nat):Lz E n K=LK B4 (lk E n) K:=propext kq
def Zb(n:Nat):Ly B4 E n K=LK B4 (lk E n) K:=propext kq
def X1(i:Nat)(a:AV):Fl B4 i a H K=B3 B4 (Op.fieldAddr i [a]) λ g x=>B3 g (Op.ae [x] H) K:=propext kq
def ZB(i:Nat)(a:AV):Nf B4 i a H K=B3 B4 (Op.nilCheck [a]) λ g x=>Fl g i x H K:=propext kq
def Yl(i:Nat)(a b:AV):Fs B4 i a b H K2=B3 B4 (Op.fieldAddr i [a]) λ g x=>jO g (Op.store 1 [x,b] H) K2:=propext kq
def Wh(i:Nat)(a b:AV):Ns B4 i a b H K2=B3 B4 (Op.nilCheck [a]) λ g x=>Fs g i x b H K2:=propext kq
def XX(a b:AV):Xl B4 a b H K=B3 B4 (Op.aP 1 [a,b]) λ g x=>B3 g (Op.ae [x] H) K:=propext kq
def WU(a b c:AV):Xs B4 a b c H K2=B3 B4 (Op.aP 1 [a,b]) λ g x=>jO g (Op.store 1 [x,c] H) K2:=propext kq
def UT(o:BinOp)(a b:AV):Bn B4 o a b K=B3 B4 (Op.bin o [a,b]) K:=propext kq
def Zl(o:BinOp)(a b:AV):Cb B4 o a b A B=B3 B4 (Op.bin o [a,b]) λ g v=>ny g v A B:=propext kq
def XK(M:ak)(c:Ctx)(p:Kp×ai)(Q:aI)(D:List aM):Gt B4 M c p Q E D H=qF B4 (fg (W M c p) Q) .normal E D H:=propext kq
end
end
end Go.Am
namespace Go.Am
end Go.Am
namespace Go.Am
section
variable{M:ak}{ctx:Ctx}{cZ:Bool}{Q Q':aI}{E:Env}{D:List aM}
def UN{α:Type}{m:Bool}{o:Option α}{K K':Bool -> α->Prop}(h:B3 m o K)(hk:∀a,K m a->K' m a):B3 m o K':=by
 cases o with
 |none=>exact h
 |some a=>exact hk a h
def xf4{α β:Type}{m:Bool}{o:Option (α×β)}{K K':Bool -> α -> β->Prop}(h:jO m o K)(hk:∀a b,K m a b->K' m a b):jO m o K':=by
 cases o with
 |none=>exact h
 |some a=>exact hk a.1 a.2 h
def E_{α:Type}{m:Bool}{o:Option α}{K K':Bool -> α->Prop}(h:LK m o K)(hk:∀a,K m a->K' m a):LK m o K':=by
 cases o with
 |none=>exact h
 |some a=>exact hk a h
def xf7{m:Bool}{v:AV}{A B c d:Bool->Prop}(h:ny m v A B)(ha:A m->c m)(hb:B m->d m):ny m v c d:=by
 obtain⟨q,rfl,h⟩:=h.elim;cases q with
 |true=>exact ha h
 |false=>exact hb h
def ZY{L R:Env}{t:Nat}{g:Bool}{K K':Bool->Env->AV->Prop}(h:TV E L R t g K)(hk:∀R v,K g R v->K' g R v):TV E L R t g K':=by
 unfold TV at h⊢;cases hl:lk L t with
 |some v=>rw[hl]at h;exact hk _ _ h
 |none =>
  rw[hl]at h;cases c:lk R t with
  |some v=>rw[c]at h;exact hk _ _ h
  |none=>rw[c]at h;exact E_ h λ v q=>hk _ _ q
def xj9{x:bJ}{g:Bool}{K K':Bool->AV->Prop}(h:OV E x g K)(hk:∀v,K g v->K' g v):OV E x g K':=by
 cases x with
 |tmp t=>simp only[OV]at h⊢;exact E_ h hk
 |const v=>exact hk _ h
 |eF b=>exact hk _ h
 |func f=>exact hk _ h
def Ie{L R:Env}{x:bJ}{g:Bool}{K K':Bool->AV->Prop}(h:CV E L R x g K)(hk:∀v,K g v->K' g v):CV E L R x g K':=by
 cases x with
 |tmp t=>simp only[CV]at h⊢;exact ZY h λ _ v=>hk v
 |const v=>exact hk _ h
 |eF b=>exact hk _ h
 |func f=>exact hk _ h
def RW{L:Env}{g:Bool}:∀{l:List bJ}{R:Env}{K K':Bool->Env->List AV->Prop},xZ E L l g R K->(∀R vs,K g R vs->K' g R vs)->xZ E L l g R K'
 |[],R,K,K',h,hk=>hk _ _ h
 | .tmp t::xs,R,K,K',h,hk=>ZY (K:=λ g R v=>xZ E L xs g R λ g R vs=>K g R (v::vs)) (K':=λ g R v=>xZ E L xs g R λ g R vs=>K' g R (v::vs)) h λ R v q=>RW (K:=λ g R vs=>K g R (v::vs)) (K':=λ g R vs=>K' g R (v::vs)) q λ R vs=>hk _ _
 | .const v::xs,R,K,K',h,hk=>RW (l:=xs) (K:=λ g R vs=>K g R (v::vs)) (K':=λ g R vs=>K' g R (v::vs)) h λ R vs=>hk _ _
 | .eF v::xs,R,K,K',h,hk=>RW (l:=xs) (K:=λ g R vs=>K g R (.ptr v 0::vs)) (K':=λ g R vs=>K' g R (.ptr v 0::vs)) h λ R vs=>hk _ _
 | .func v::xs,R,K,K',h,hk=>RW (l:=xs) (K:=λ g R vs=>K g R (.fn (.func v) [] []::vs)) (K':=λ g R vs=>K' g R (.fn (.func v) [] []::vs)) h λ R vs=>hk _ _
def xka(f:∀e E D H,Q e E D H->Q' e E D H){d:Option (List Nat)}{ks:List Nat}{c:aG}{H:ar}(h:PX d ks Q E D c H):PX d ks Q' E D c H:=by
 cases d with
 |none=>exact h
 |some _=>exact f _ _ _ _ h
def Tj(l:∀e E D H,Q e E D H->Q' e E D H){j:Option (List Nat)}{L:Env}{g:Bool}{f:mA}{vs:List AV}{H:ar}{K K':Bool->AV->ar->Prop}(h:EW M cZ j L Q E D g f vs H K)(hk:∀v H,K g v H->K' g v H):EW M cZ j L Q' E D g f vs H K':=by
 cases cZ with
 |false=>obtain⟨v,H',i,d⟩:=h;exact⟨v,H',i,hk _ _ d⟩
 |true =>
  obtain⟨e,H',i,d⟩:=h;refine⟨e,H',i,?_⟩;cases e with
  |ret v=>exact hk _ _ d
  |panic c=>exact xka l d
def ag6(c:∀e E D H,Q e E D H->Q' e E D H){s:aO}{K K':KR}{g:Bool}{L R:Env}{H:ar}(h:FU M cZ s Q E D K g L R H)(hk:∀L R H,K g L R H->K' g L R H):FU M cZ s Q' E D K' g L R H:=by
 refine RW (show xZ E L s.args g R _ from h) λ R vs h=>?_;obtain⟨ij,dst,guard,args,op,i⟩:=s;cases ij with
 |true =>
  have h:T4 dst E L R H K g vs op:=h;show T4 dst E L R H K' g vs op;cases op with
  |read f =>
   cases dst with
   |none=>exact h
   |some d=>exact⟨h.1,hk _ _ _ h.2⟩
  |_=>exact h
 |false =>
  have h:vQ M cZ dst i Q E D L R H K g vs op:=h;show vQ M cZ dst i Q' E D L R H K' g vs op;cases op with
  |pure f=>simp only[vQ]at h⊢;exact UN h λ a=>hk _ _ _
  |read f=>simp only[vQ]at h⊢;exact UN h λ a=>hk _ _ _
  |alloc f=>simp only[vQ]at h⊢;exact xf4 h λ a b=>hk _ _ _
  |gN f=>simp only[vQ]at h⊢;exact xf4 h λ a b=>hk _ _ _
  |iq f=>exact Tj c h λ v H=>hk _ _ _
  |ik =>
   simp only[vQ,V3]at h⊢;split at h
   .exact Tj c h λ v H=>hk _ _ _
   .exact Tj c h λ v H=>hk _ _ _
   .exact h.elim
  |invoke n =>
   simp only[vQ,N3]at h⊢;split at h
   .exact UN h λ a q=>Tj c q λ v H=>hk _ _ _
   .exact h.elim
  |recover=>exact h
  |defer=>exact h
  |panic =>
   cases cZ with
   |false=>exact h
   |true =>
    have h:gD vs H (PX i (lV L) Q E D):=h;show gD vs H (PX i (lV L) Q' E D);unfold gD at h⊢;split at h
    .exact xka c h
    .exact h.elim
def Vq(c:∀e E D H,Q e E D H->Q' e E D H){K K':KR}{g:Bool}(hk:∀L R H,K g L R H->K' g L R H):∀{l:List aO}{L R:Env}{H:ar},pQ M cZ Q E D K l g L R H->pQ M cZ Q' E D K' l g L R H
 |[],L,R,H,h=>hk _ _ _ h
 |s::l,L,R,H,h=>ag6 c (show FU M cZ s Q E D (pQ M cZ Q E D K l) g L R H from h) λ L R H=>Vq c hk
def WW:∀(n:Nat){f f':List AV->ar->Prop},(∀vs H,f vs H->f' vs H) -> ∀(l:List AV)(H:ar),qA n (qU n f) l H->qA n (qU n f') l H
 |0,f,f',hf,l,H,h=>hf [] H h
 |n+1,f,f',hf,[],H,h=>h
 |n+1,f,f',hf,v::l,H,h=>WW n (f:=λ l=>f (v::l)) (f':=λ l=>f' (v::l)) (λ vs H=>hf _ _) l H h
def DF(f:∀e E D H,Q e E D H->Q' e E D H){x:FP}{K K':KR}{g:Bool}(hk:∀L R H,K g L R H->K' g L R H){L R:Env}{H:ar}(h:P7 M cZ Q E D x K g L R H):P7 M cZ Q' E D x K' g L R H:=by
 obtain⟨q,l⟩:=x;cases q with
 |none=>exact Vq f hk (show pQ M cZ Q E D K l g L R H from h)
 |some q =>
  cases ho:vV q.1 l with
  |false =>
   have h:cond (vV q.1 l) _ False:=h;rw[ho]at h;exact h.elim
  |true =>
   have h:cond (vV q.1 l) _ False:=h;rw[ho,xw]at h;show cond (vV q.1 l) _ False;rw[ho,xw];refine ZY h λ c v h=>?_;have h:B3 g (cP q.2 (B1 v)) λ g w=>wD g w (λ g=>pQ M cZ Q E D (λ g d _ H=>qA (cS (bq l [])) (qU (cS (bq l [])) λ vs H=>K g (lE (bq l []) L vs) c H) (rM (cS (bq l [])) d) H) l g L c H)
    (λ g=>qA (cS (bq l [])) (qU (cS (bq l [])) λ vs H=>K g (lE (bq l []) L vs) c H) (sk (cS (bq l []))) H):=h
   refine UN (K':=λ g w=>wD g w (λ g=>pQ M cZ Q' E D (λ g d _ H=>qA (cS (bq l [])) (qU (cS (bq l [])) λ vs H=>K' g (lE (bq l []) L vs) c H) (rM (cS (bq l [])) d) H) l g L c H)
    (λ g=>qA (cS (bq l [])) (qU (cS (bq l [])) λ vs H=>K' g (lE (bq l []) L vs) c H) (sk (cS (bq l []))) H)) h λ w h=>?_
   cases w with
   |true=>exact Vq f (λ d R H h=>WW _ (λ vs H=>hk _ _ _) _ _ h) (show pQ M cZ Q E D _ l g L c H from h)
   |false=>exact WW _ (λ vs H=>hk _ _ _) _ _ h
def S0(c:∀e E D H,Q e E D H->Q' e E D H){l:List aO}{K K':KR}{g:Bool}(hk:∀L R H,K g L R H->K' g L R H){H:ar}(h:rh M cZ Q E D l g H K):rh M cZ Q' E D l g H K':=by
 unfold rh at h⊢;generalize Ji l=gs at h⊢;generalize([]:Env)=L at h⊢;have key:∀(gs:List FP)(L R:Env)(H:ar),yN M cZ Q E D K gs g L R H->yN M cZ Q' E D K' gs g L R H:=by
  intro gs
  induction gs with
  |nil=>exact λ L R H h=>hk _ _ _ h
  |cons x gs ih=>exact λ L R H h=>DF c ih (show P7 M cZ Q E D x (yN M cZ Q E D K gs) g L R H from h)
 exact key gs L L H h
def I2{K:Kp}:∀(n:Nat)(c:ai),eY c<=n -> ∀{g:Bool}{Q Q':aI}{E:Env}{D:List aM}{H:ar},(∀e E D H,Q e E D H->Q' e E D H)->W3 M ctx K c g Q E D H->W3 M ctx K c g Q' E D H:=by
 intro n
 induction n with
 |zero =>
  intro c j g Q Q' E D H i h;cases c with
  |region l=>exact S0 i (λ L R H h=>i _ _ _ _ h) h
  |rangeFunc f k =>
   have h:OV E f g λ g v=>iE M K.ah ctx k E D H Q v:=h;show OV E f g λ g v=>iE M K.ah ctx k E D H Q' v;have key:∀v,iE M K.ah ctx k E D H Q v->iE M K.ah ctx k E D H Q' v:=λ v h tm up he=>by
    have:=h tm up he;unfold J0 at this⊢;split
    .rename_i hr;rw[hr]at this;exact Np this λ e st⟨p,u,w⟩=>⟨p,u,i _ _ _ _ w⟩
    .rename_i l hr;rw[hr]at this;exact Gh (m:=aH) this λ d q=>Np q λ e st⟨p,u,w⟩=>⟨p,u,i _ _ _ _ w⟩
   exact xj9 h key
  |skip=>exact i _ _ _ _ h
  |label _=>exact i _ _ _ _ h
  |exit _=>exact i _ _ _ _ h
  |goto _=>exact i _ _ _ _ h
  |ret=>exact i _ _ _ _ h
  |stuck=>exact h
  |seq _ _=>simp[eY]at j
  |cond _ _ _=>simp[eY]at j
  |block _ _=>simp[eY]at j
  |loop _ _=>simp[eY]at j
  |scope _=>simp[eY]at j
 |succ n ih =>
  intro c j g Q Q' E D H i h;have C:∀{b:ai},eY b<=n -> ∀e E D H,fg (W3 M ctx K b) Q e E D H->fg (W3 M ctx K b) Q' e E D H:=λ hb e E D H h=>by
   cases e with
   |normal=>exact ih _ hb i h
   |_=>exact i _ _ _ _ h
  cases c with
  |seq a b =>
   have o:eY a+eY b<=n:=by simp only[eY]at j;omega
   have gen:W3 M ctx K a g (fg (W3 M ctx K b) Q) E D H->W3 M ctx K a g (fg (W3 M ctx K b) Q') E D H:=λ h=>ih a (by omega) (C (by omega)) h;cases a with
   |region l =>
    have plain:(rh M K.cZ Q E D l g H λ g L _ H=>W3 M ctx K b g Q (dG K.ah E L) D H)->rh M K.cZ Q' E D l g H λ g L _ H=>W3 M ctx K b g Q' (dG K.ah E L) D H:=λ h=>S0 i (λ L R H h=>ih b (by omega) i h) h;have cv:∀{L R:Env}{c:bJ}{A B s t:Bool->Prop},CV E L R c g (λ g v=>ny g v A B)->(A g->s g)->(B g->t g)->CV E L R c g (λ g v=>ny g v s t):=λ{L R c A B s t}h ha hb=>by
     exact Ie h λ v h=>xf7 h ha hb
    cases b with
    |cond c x y =>
     have z:eY x+eY y+1<=n:=by simp only[eY]at o;omega
     exact S0 i (λ L R H h=>cv h (ih x (by omega) i) (ih y (by omega) i)) h
    |seq b1 r =>
     cases b1 with
     |cond c x y =>
      have z:eY x+eY y+1+eY r+1<=n:=by simp only[eY]at o;omega
      exact S0 i (λ L R H h=>cv h (ih x (by omega) (C (by omega))) (ih y (by omega) (C (by omega)))) h
     |_=>exact plain h
    |_=>exact plain h
   |_=>exact gen h
  |cond c x y =>
   have o:eY x+eY y<=n:=by simp only[eY]at j;omega
   have h:OV E c g λ g v=>ny g v (λ g=>W3 M ctx K x g Q E D H) (λ g=>W3 M ctx K y g Q E D H):=h;exact xj9 (K':=λ g v=>ny g v (λ g=>W3 M ctx K x g Q' E D H) (λ g=>W3 M ctx K y g Q' E D H)) h λ v h=>xf7 h (ih x (by omega) i) (ih y (by omega) i)
  |block id b =>
   have hb:eY b<=n:=by simp only[eY]at j;omega
   exact ih b hb (λ e E D H h=>by cases e<;>exact i _ _ _ _ h) h
  |scope b =>
   have hb:eY b<=n:=by simp only[eY]at j;omega
   exact ih b hb (λ e E D H h=>by cases e<;>first|exact i _ _ _ _ h|exact⟨h.1,i _ _ _ _ h.2⟩) h
  |loop ah b =>
   have hb:eY b<=n:=by simp only[eY]at j;omega
   cases ah with
   |some _=>exact h
   |none =>
    obtain⟨I,F,p⟩:=h;exact⟨I,F,λ n E D H G=>ih b hb (λ e E D H h=>by cases e<;>first|exact h|exact i _ _ _ _ h) (p n E D H G)⟩
  |_=>exact ih _ (x9 _) i h
end
def W.mono{M:ak}{ctx:Ctx}{p:Kp×ai}{g:Bool}{Q Q':aI}{E:Env}{D:List aM}{H:ar}(h:W M ctx p g Q E D H)(c:∀e E D H,Q e E D H->Q' e E D H):W M ctx p g Q' E D H:=by
 rw[lS]at h⊢;exact I2 _ p.2 (qm _) c h
end Go.Am
namespace Go.Am
universe u
noncomputable section
variable(X:WX)(Q:aI)(E:Env)(D:List aM)(H:ar)(I:Mw)(n:Nat)
def xd6:fg X Q .normal E D H=X B4 Q E D H:=propext kq
def ad9:fg X Q .ret E D H=Q .ret E D H:=propext kq
def xkb(l:Nat):fg X Q (.exit l) E D H=Q (.exit l) E D H:=propext kq
def xkc(l:Nat):fg X Q (.goto l) E D H=Q (.goto l) E D H:=propext kq
def xhz(c:aG):fg X Q (.panic c) E D H=Q (.panic c) E D H:=propext kq
def xd1(i:Nat):eU i Q .normal E D H=Q .normal E D H:=propext kq
def Ex(i:Nat):eU i Q .ret E D H=Q .ret E D H:=propext kq
def xjy(i l:Nat):eU i Q (.goto l) E D H=Q (.goto l) E D H:=propext kq
def xhn(i:Nat)(c:aG):eU i Q (.panic c) E D H=Q (.panic c) E D H:=propext kq
def xjx(i l:Nat):eU i Q (.exit l) E D H=if i=l then Q .normal E D H else Q (.exit l) E D H:=by
 show Q (cond (J3 i l) .normal (.exit l)) E D H=_
 by_cases h:i=l
 .subst h;simp
 .rw [qt h,IQ h];rfl
section
variable(M:ak)(rs:List ei)(Q:bH->ar->Prop)(P:List AV->Prop)(R:AV->ar->Prop)
def Fa:eX M rs Q .ret E [] H=jK E H rs λ l=>Q (.ret (jN l)) H:=propext kq
def xd5:eX M rs Q .normal E [] H=jK E H rs λ l=>Q (.ret (jN l)) H:=propext kq
def xht(c:aG):eX M rs Q (.panic c) E [] H=Q (.panic c) H:=propext kq
def ae2:jK E H [] P=P []:=propext kq
def DG(t:Nat):jK E H (.tmp t::rs) P=LK B4 (lk E t) λ _ v=>jK E H rs λ vs=>P (v::vs):=propext kq
def xhx(t:Nat):jK E H (.kR t::rs) P=LK B4 (lk E t) λ _ v=>B3 B4 (Op.ae [v] H) λ _ v=>jK E H rs λ vs=>P (v::vs):=propext kq
def xhy(n t:Nat):jK E H (.cM n t::rs) P=LK B4 (lk E t) λ _ v=>B3 B4 (Op.av n [v] H) λ _ v=>jK E H rs λ vs=>P (v::vs):=propext kq
def HU(v:AV):vK R (.ret v) H=R v H:=propext kq
end
def JP:((0:Nat):Int)=0:=rfl
def z7(l:List AV):AV.cells (.agg l)=l:=rfl
def xkz(k:Pl)(n:Int):AV.cells (.int k n)=[.int k n]:=rfl
def xh9(b:Bool):AV.cells (.bool b)=[.bool b]:=rfl
def xk2(s:List UInt8):AV.cells (.str s)=[.str s]:=rfl
def xk1(b o:Nat):AV.cells (.ptr b o)=[.ptr b o]:=rfl
def NP(I:Nat->Env->ar->Prop)(D:List aM)(n:Nat)(Q:aI):aI:=λ e E D' H=>match e with
 | .normal=>D'=D /\ ∃m E',I m E' H/\xY E' E/\m<n
 |e=>Q e E D' H
def dD.intro{M:ak}{ctx:Ctx}{p:Kp×ai}{Q:aI}{E:Env}{D:List aM}{H:ar}(I:Nat->Env->ar->Prop)(j:∃n d,I n d H/\xY d E)(h:∀n E H,I n E H->W M ctx p B4 (NP I D n Q) E D H):dD (W M ctx p) Q E D H:=by
 obtain⟨n,d,l,o⟩:=j;refine⟨λ n E D' H=>D'=D/\I n E H,⟨n,d,⟨rfl,l⟩,o.ss⟩,λ n E D' H⟨e,r⟩=>?_⟩;subst e;refine W.mono (h n E H r) λ e E g H f=>?_;cases e with
 |normal=>obtain⟨q,m,i,a,b,c⟩:=f;exact⟨m,i,⟨q,a⟩,b.ss,c⟩
 |_=>exact f
def QY(P:Env->List aM->ar->Prop)(Q:aI):aI:=λ e E D H=>match e with
 | .normal=>P E D H
 |e=>Q e E D H
def xhu(P:Env->List aM->ar->Prop)(Q:aI)(E:Env)(D:List aM)(H:ar):QY P Q .normal E D H=P E D H:=propext kq
def GY(P:Env->List aM->ar->Prop)(Q:aI)(E:Env)(D:List aM)(H:ar):QY P Q .ret E D H=Q .ret E D H:=propext kq
def DQ(P:Env->List aM->ar->Prop)(Q:aI)(E:Env)(D:List aM)(H:ar)(l:Nat):QY P Q (.exit l) E D H=Q (.exit l) E D H:=propext kq
def LN(X:WX)(Q:aI):Nat->Env->List aM->ar->Prop
 |0,_,_,_=>False
 |n+1,E,D,H=>X B4 (QY (LN X Q n) Q) E D H
def GW(X:WX)(Q:aI)(n:Nat)(E:Env)(D:List aM)(H:ar):LN X Q (n+1) E D H=X B4 (QY (LN X Q n) Q) E D H:=propext kq
def xhv(I:Nat->Env->ar->Prop)(D:List aM)(n:Nat)(Q:aI)(E:Env)(H:ar):NP I D n Q .normal E D H = ∃m c,I m c H/\xY c E/\m<n:=propext ⟨λ h=>h.2,λ h=>⟨rfl,h⟩⟩
def Iw(I:Nat->Env->ar->Prop)(D D':List aM)(n:Nat)(Q:aI)(E:Env)(H:ar):NP I D n Q .ret E D' H=Q .ret E D' H:=propext kq
def EH(I:Nat->Env->ar->Prop)(D D':List aM)(n:Nat)(Q:aI)(E:Env)(H:ar)(l:Nat):NP I D n Q (.exit l) E D' H=Q (.exit l) E D' H:=propext kq
def ae5(I:Nat->Env->ar->Prop)(D D':List aM)(n:Nat)(Q:aI)(E:Env)(H:ar)(l:Nat):NP I D n Q (.goto l) E D' H=Q (.goto l) E D' H:=propext kq
def xj7(I:Nat->Env->ar->Prop)(D D':List aM)(n:Nat)(Q:aI)(E:Env)(H:ar)(c:aG):NP I D n Q (.panic c) E D' H=Q (.panic c) E D' H:=propext kq
def sw{α:Sort u}(b:Bool)(x y:α):α:=cond b x y
@[congr]def ac8{α:Sort u}{b c:Bool}{x y:α}(h:b=c):sw b x y=sw c x y:=by rw[h]
def Sa{α:Sort u}(x y:α):sw B4 x y=x:=rfl
def Rx{α:Sort u}(x y:α):sw B2 x y=y:=rfl
def J5{α:Sort u}(p:Prop)[Decidable p](x y:α):(if p then x else y)=sw (decide p) x y:=by by_cases h:p<;>simp[h,sw]
def QF(k t:Nat)(v:AV)(E:Env):lk ((k,v)::E) t=sw (decide (k=t)) (B1 v) (lk E t):=(wX ..).trans (J5 ..)
def It(Q:aI)(E:Env)(D:List aM)(H:ar)(i l:Nat):eU i Q (.exit l) E D H=sw (decide (i=l)) (Q .normal E D H) (Q (.exit l) E D H):=(xjx ..).trans (J5 ..)
def YX(α:Type)(h:Decidable True)(x y:α):@ite α True h x y=x:=xb trivial
def XM(α:Type)(h:Decidable False)(x y:α):@ite α False h x y=y:=qt id
def OZ(h:Decidable True)(x y:Prop):@ite Prop True h x y=x:=xb trivial
def PK(h:Decidable False)(x y:Prop):@ite Prop False h x y=y:=qt id
def Py:=I0 @GJ<|I0 @Hq<|I0 @Df<|I0 ag1<|I0 xj4<|I0 EP<|I0 xj5<|I0 ae8<|I0 Pp<|I0 @JS<|I0 EY <|
 I0 IL<|I0 ad2<|I0 DE<|I0 QF<|I0 Fg<|I0 af9<|I0 Hg <|
 I0 xd6<|I0 ad9<|I0 xkb<|I0 xkc<|I0 xhz<|I0 xd1<|I0 Ex<|I0 xjy<|I0 xhn<|I0 It <|
 I0 xhu<|I0 GY<|I0 DQ<|I0 GW<|I0 xhv<|I0 Iw<|I0 EH<|I0 ae5<|I0 xj7<|I0 Fa<|I0 xd5<|I0 xht<|I0 ae2<|I0 DG<|I0 xhx<|I0 xhy <|
 I0 HU<|I0 X0<|I0 Zb<|I0 X1<|I0 ZB<|I0 Yl<|I0 Wh<|I0 XX<|I0 WU<|I0 UT<|I0 Zl<|I0 XK<|I0 Yv<|I0 WV Zr
def Qp:=I0 YX<|I0 XM<|I0 OZ<|I0 PK<|I0 @Sa.{1}<|I0 @Rx.{1}<|I0 @Sa.{0}<|I0 @Rx.{0}<|I0 KS<|I0 Nc<|I0 @Sn<|I0 @Pu<|I0 @QJ<|I0 @QZ<|I0 @Pm<|I0 @PG<|I0 @O1<|I0 @Q6<|I0 @Pz<|I0 @Mc<|I0 Qs <|
 I0 LJ<|I0 Lx<|I0 ad0<|I0 ag2<|I0 xmk<|I0 xfh<|I0 Eu<|I0 LW<|I0 GM<|I0 HB<|I0 Qd <|
 I0 z7<|I0 xkz<|I0 xh9<|I0 xk2<|I0 xk1<|I0 @Nd<|I0 @F7<|I0 Bool.not_true<|I0 Bool.not_false<|I0 not_true_eq_false<|I0 not_false_eq_true<|I0 @ne_eq.{1}<|I0 BZ<|I0 sj<|I0 false_and<|I0 and_false <|
 I0 @xw.{1}<|I0 @zm.{1}<|I0 @qr.{0,0}<|I0 vj<|I0 yr<|I0 @jb.{0}<|I0 @zr.{0}<|I0 @jc.{0} @Ik.{0}
def OX:type_of% JP/\type_of% Py/\type_of% Qp:=⟨JP,Py,Qp⟩
section
variable{α:Type}{enc:α->List AV}{e size:Nat}{H0 H H':ar}{v:AV}{xs:List α}
def tP.to3{α β:Type}{m g:Bool}{o:Option (α×β)}{K:Bool -> α -> β->Prop}(h:tP m o λ _ a b=>K g a b):jO g o K:=by
 cases o with
 |none=>exact OH h
 |some a=>exact h
def R2{H:ar}{e size bytes:Nat}{v:AV}{n:Nat}{cells:List AV}(h:Own H e size v n cells){x:AV}{k:Nat}{new:List AV}(i:Sl H size x k new)(c:aQ new=B4)(hs:0<size)
 (g:(n+k)*bytes<=140737488355328) (d:n+k<=140737488355328) {K:Bool->AV->ar->Prop} {m:Bool}
 (hk:∀f H',Own H' e size f (n+k) (cells++new)->Fr (aN v) H H'->(∀b,aN f b->aN v b\/H.au<=b)->K m f H'):jO m (Op.append e size bytes [v,x] H) K :=
 tP.to3 (m:=m) (_e h i c hs g d hk)
def nG{H:ar}{e size bytes:Nat}{v:AV}{n:Nat}{cells:List AV}(h:Own H e size v n cells){zero:List AV}{x:AV}(q:zero.length=size)(p:x.cells.length=size)(c:aQ x.cells=B4)(hs:0<size)
 (l:(n+1)*bytes<=140737488355328) (f:n+1<=140737488355328) {K:bC->(Nat->AV)->Bool->AV->ar->Prop} {m:Bool}
 (hk:∀i H',Own H' e size i (n+1) (cells++x.cells)->Fr (aN v) H H'->(∀b,aN i b->aN v b\/H.au<=b)->K (.row x.cells e (0,0) B4) (Op.sliceTo 1 1) m i H') :
 jO m (Op.buildSlice e 1 zero [(0,size)] [x]) λ g o mk=>jO g (Op.append e size bytes [v,mk H.au] (H.alloc o)) (K o mk):=by
 have:=Ig (m:=m) h q p c hs l f (K:=λ o mk _ v H=>K o mk m v H) hk;obtain⟨o,mk,j,d⟩:∃o mk,Op.buildSlice e 1 zero [(0,size)] [x]=B1 (o,mk)/\tP B4 (Op.append e size bytes [v,mk H.au] (H.alloc o)) (λ _ v H=>K o mk m v H):=by
  unfold tP at this;split at this
  .rename_i a ha;exact⟨a.1,a.2,ha,this⟩
  .exact this.elim
 refine jO.intro j ?_;unfold tP at d;split at d
 .rename_i a ha;exact jO.intro (a:=a.1) (b:=a.2) ha d
 .exact d.elim
end
end
def qv(b o:Nat):Op.nilCheck [.ptr b o]=B1 (.ptr b o):=rfl
def xp(i:Nat)(l:List AV):Op.extract i [.tuple l]=l[i]?:=xmi i l
end Go.Am
namespace Go.Am
def JT:List bJ->Option Nat
 |[.tmp t]=>B1 t
 |_=>B5
def MT(s:aO):Option Nat:=match s.op,s.ij,s.guard,s.dst with
 | .defer,B2,B5,B5=>JT s.args
 |_,_,_,_=>B5
def Iq:List aO->Option (List aO×Nat×List aO)
 |[]=>B5
 |s::r=>match MT s with
  |some t=>B1 ([],t,r)
  |none=>(Iq r).map λ q=>(s::q.1,q.2.1,q.2.2)
def rV:ai->Option (ai×Nat×ai)
 | .region l=>(Iq l).map λ q=>(.region q.1,q.2.1,.region q.2.2)
 | .seq a b=>match rV a with
  |some q=>B1 (q.1,q.2.1,.seq q.2.2 b)
  |none=>(rV b).map λ q=>(.seq a q.1,q.2.1,q.2.2)
 |_=>B5
noncomputable def Al(c:ai):ai:=Ra (motive:=λ _=>ai) .stuck (λ q=>q.1) (rV c)
noncomputable def wO(c:ai):ai:=Ra (motive:=λ _=>ai) .stuck (λ q=>q.2.2) (rV c)
section
variable{M:ak}{ctx:Ctx}
def DX(W:St->cG->Prop)(t:Nat)(st:St)(Q:cG):Prop:=∃g first cap,st.tm.get t=B1 (.fn (.func g) first cap)/\W ⟨st.tm,.fn (.func g) (first++cap)::st.aZ,st.up,st.H⟩ Q
def Dk{s:aO}{st:St}{Q Q':cG}{K:St->Prop}(h:∀c st,Q (.panic c) st=Q' (.panic c) st):rB M ctx s st Q K=rB M ctx s st Q' K:=by
 have e:∀d tm aZ up,AK d tm aZ up Q=AK d tm aZ up Q':=λ d tm aZ up=>by
  funext c H;cases d with
  |none=>rfl
  |some ds=>exact h _ _
 have o:∀dst d vs op,oE M ctx dst d st Q K vs op=oE M ctx dst d st Q' K vs op:=λ dst d vs op=>by
  cases op<;>simp only[oE,e]
 unfold rB;simp only[o]
def xk5(hr:ctx.round=B5):∀{l l1 l2:List aO}{t:Nat},Iq l=B1 (l1,t,l2) -> ∀{st:St}{Q:cG},oq M ctx l1 st (BN (DX (oq M ctx l2) t) Q)->oq M ctx l st Q
 |s::r,l1,l2,t,h,st,Q,w=>by
  unfold Iq at h;cases c:MT s with
  |some t' =>
   rw[c]at h;injection h with h;injection h with i h;injection h with j p
   subst i;subst j;subst p;have⟨ij,dst,guard,args,op,x⟩:=s;unfold MT at c;split at c
   .rename_i e1 e2 f o;subst e1;subst e2;subst f;subst o;unfold JT at c;split at c
    .rename_i e;simp only at e;subst e;cases c;have⟨g,first,cap,i,j⟩:=w;exact bQ.intro (m:=aH) i ⟨hr,j⟩
    .cases c
   .cases c
  |none =>
   rw[c]at h;have⟨q,u,e⟩:=xm.1 h;injection e with e1 e;injection e with e2 f
   subst e1;subst e2;subst f;have w:rB M ctx s st (BN (DX (oq M ctx q.2.2) q.2.1) Q) λ d=>oq M ctx q.1 d (BN (DX (oq M ctx q.2.2) q.2.1) Q):=w;rw[Dk (Q:=BN (DX (oq M ctx q.2.2) q.2.1) Q) (Q':=Q) (λ _ _=>rfl)]at w;exact xbf w (λ _ _ h=>h) λ d h=>xk5 hr u h
def ZR(hr:ctx.round=B5):∀{c x y:ai}{t:Nat},rV c=B1 (x,t,y) -> ∀{st:St}{Q:cG},WP M ctx x st (BN (DX (WP M ctx y) t) Q)->WP M ctx c st Q
 | .region l,x,y,t,h,st,Q,w=>by
  unfold rV at h;have⟨q,f,e⟩:=xm.1 h;injection e with e1 e;injection e with e2 d
  subst e1;subst e2;subst d;exact xk5 hr f w
 | .seq a b,x,y,t,h,st,Q,w=>by
  unfold rV at h;cases ha:rV a with
  |some q =>
   rw[ha]at h;injection h with h;injection h with i h;injection h with j m
   subst i;subst j;subst m;refine ZR hr (c:=a) ha (pV w λ e g h=>?_);cases e with
   |normal=>exact h
   |_=>exact h
  |none =>
   rw[ha]at h;have⟨q,f,e⟩:=xm.1 h;injection e with e1 e;injection e with e2 d
   subst e1;subst e2;subst d;show WP M ctx a st (BN (WP M ctx b) Q);refine pV (show WP M ctx a st (BN (WP M ctx q.1) (BN (DX (WP M ctx q.2.2) q.2.1) Q))from w) λ e g h=>?_;cases e with
   |normal=>exact ZR hr (c:=b) f h
   |_=>exact h
end
def Bh(M:ak)(ctx:Ctx)(p:Kp×ai)(t:Nat)(Q:aI):aI:=λ e E D H=>match e with
 | .normal=>LK B4 (lk E t) λ _ v=>∃g first cap,v=.fn (.func g) first cap/\W M ctx p B4 Q E (.fn (.func g) (first++cap)::D) H
 |e=>Q e E D H
def xd3{M:ak}{ctx:Ctx}{p:Kp×ai}{t:Nat}{Q:aI}{E:Env}{D:List aM}{H:ar}:Bh M ctx p t Q .normal E D H=LK B4 (lk E t) λ _ v=>∃g first cap,v=.fn (.func g) first cap/\W M ctx p B4 Q E (.fn (.func g) (first++cap)::D) H:=rfl
def xf5{M:ak}{ctx:Ctx}{p:Kp×ai}{t:Nat}{Q:aI}{E:Env}{D:List aM}{H:ar}:Bh M ctx p t Q .ret E D H=Q .ret E D H:=rfl
def Of{M:ak}{rs:List ei}{ks:List Nat}{Q:bH->ar->Prop}{up:Option aG}{e:aX}{st:St}(h:QQ ks (eX M rs Q) up e st):ZK M rs (λ e u H=>u=up/\Q e H) e st:=by
 have⟨f,g,j,d⟩:=h;have⟨tm,D,u,H'⟩:=st;have f:u=up:=f;subst f;have mono:∀{m:Option aG},mU M rs g Q D m H'->zQ M rs tm (λ e H=>u=u/\Q e H) D m H':=λ{m}h=>by
  have i:mU M rs g (λ e H=>u=u/\Q e H) D m H':=by
   have e:(λ e H=>u=u/\Q e H)=Q:=by funext e H;simp
   rw[e];exact h
  exact mU.UF j i
 cases e with
 |normal=>exact mono d
 |ret=>exact mono d
 |panic c=>exact mono d
 |exit _=>exact d.elim
 |goto _=>exact d.elim
def Gj{M:ak}{f:Nat}{fn:bV}(u:M.func f=B1 fn){p ky:Kp}(hk:p.ah=ky.ah){t:Nat}(s:rV fn.body=B1 (Al fn.body,t,wO fn.body)){vs:List AV}(r:kA 0 vs.length p.ah=B4){H:ar}{Q:bH->ar->Prop}
 (h:W M ⟨B5,f⟩ (p,part (Al fn.body) 0) B4 (Bh M ⟨B5,f⟩ (ky,part (wO fn.body) 0) t (eX M fn.results Q)) (kN 0 vs) [] H):Dd M f vs H Q:=by
 rw[lS,TB]at h;refine _1 u (ZR rfl s (pV (W3.wp (eY (Al fn.body)) _ (qm _) (up:=B5) h (gw r)) λ e st h=>?_));cases e with
 |normal =>
  have⟨d,i,j,l⟩:=h;have⟨tm,D,up,H'⟩:=st;have d:up=none:=d;subst d;obtain⟨v,w,g,first,cap,rfl,q⟩:=LK.elim (m:=B4) (o:=lk i t) (K:=λ _ v=>∃g first cap,v=.fn (.func g) first cap/\W M ⟨B5,f⟩ (ky,part (wO fn.body) 0) B4 (eX M fn.results Q) i (.fn (.func g) (first++cap)::D) H') l;rw[lS,TB]at q;exact⟨g,first,cap,(j t _ w).1,pV (W3.wp (eY (wO fn.body)) _ (qm _) (up:=B5) q (hk▸j)) λ e st h=>Of h⟩
 |ret=>have⟨d,i,j,l⟩:=h;exact Of (e:=aX.ret) (rs:=fn.results) (ks:=p.ah) (Q:=Q) (up:=B5) ⟨d,i,j,l⟩
 |panic c=>have⟨d,i,j,l⟩:=h;exact Of (e:=aX.panic c) (rs:=fn.results) (ks:=p.ah) (Q:=Q) (up:=B5) ⟨d,i,j,l⟩
 |exit k=>obtain⟨d,i,j,l⟩:=h;exact Of (M:=M) (e:=aX.exit k) (rs:=fn.results) (ks:=p.ah) (Q:=Q) (up:=B5) ⟨d,i,j,l⟩
 |goto k=>obtain⟨d,i,j,l⟩:=h;exact Of (M:=M) (e:=aX.goto k) (rs:=fn.results) (ks:=p.ah) (Q:=Q) (up:=B5) ⟨d,i,j,l⟩
def GV{M:ak}{f:Nat}{fn:bV}(g:M.func f=B1 fn){ks:Kp}{vs:List AV}(hk:kA 0 vs.length ks.ah=B4){up:Option aG}{H:ar}{Q:bH->ar->Prop}
 (h:W M ⟨B5,f⟩ (ks,part fn.body 0) B4 (eX M fn.results Q) (kN 0 vs) [] H):∃e H',jW M f vs up H e up H'/\Q e H':=by
 rw[lS,TB]at h;obtain⟨e,i,H',c,rfl,d⟩:=q3z g (pV (W3.wp (eY fn.body) fn.body (qm _) (up:=up) h (gw hk)) λ e st h=>Of h);exact⟨e,H',c,d⟩
abbrev WE(M:ak)(c:Ctx)(p:Kp×ai)(R:aI->Env->List aM->ar->Prop):Prop:=∀Q E D H,W M c p B4 Q E D H=R Q E D H
end Go.Am
