import Derived.Test.YtgjdmncoonceaaaGreatDoorAmNZb
import Derived.Test.YtgjdmncoonceaaaGreatDoorAmNZa
set_option linter.unusedVariables false
set_option linter.unusedSimpArgs false
set_option linter.defProp false
open And renaming intro→IK
open Bool renaming rec→Ox,false→B2,true→B4
open False renaming elim→Nk
open Go renaming IntKind→P0,Program→Kb
open List renaming rec→An
open Nat renaming beq→J2,ble→Oc,blt→PE
open Option renaming rec→QT,none→B5,some→B1
namespace Go.Am
def aI:Bool:=B4
def bP{α:Type}(m:Bool)(o:Option α)(K:α->Prop):Prop:=match o with
 |some a=>K a
 |none=>False
def iQ{α β:Type}(m:Bool)(o:Option (α×β))(K:α -> β->Prop):Prop:=match o with
 |some a=>K a.1 a.2
 |none=>False
def L6(m:Bool)(q:Bool)(A B:Prop):Prop:=match q with
 |true=>A
 |false=>B
@[congr]def aa7{α:Type}{m c:Bool}{o o':Option α}{K:α->Prop}(hm:m=c)(h:o=o'):bP m o K=bP c o' K:=by rw[h,hm]
@[congr]def aa1{α β:Type}{m c:Bool}{o o':Option (α×β)}{K:α -> β->Prop}(hm:m=c)(h:o=o'):iQ m o K=iQ c o' K:=by rw[h,hm]
@[congr]def aa9{m c q d:Bool}{A B:Prop}(hm:m=c)(h:q=d):L6 m q A B=L6 c d A B:=by rw[h,hm]
def bP.elim{α:Type}{m:Bool}{o:Option α}{K:α->Prop}(h:bP m o K):∃a,o=B1 a/\K a:=by
 cases o with
 |none=>exact Nk h
 |some a=>exact⟨a,rfl,h⟩
def iQ.elim{α β:Type}{m:Bool}{o:Option (α×β)}{K:α -> β->Prop}(h:iQ m o K):∃a b,o=B1 (a,b)/\K a b:=by
 cases o with
 |none=>exact Nk h
 |some a=>exact⟨a.1,a.2,rfl,h⟩
theorem bP.intro{α:Type}{m:Bool}{o:Option α}{K:α->Prop}{a:α}(h:o=B1 a)(hk:K a):bP m o K:=by subst h;exact hk
theorem iQ.intro{α β:Type}{m:Bool}{o:Option (α×β)}{K:α -> β->Prop}{a:α}{b:β}(h:o=B1 (a,b))(hk:K a b):iQ m o K:=by subst h;exact hk
def L6.cases{m:Bool}{q:Bool}{A B:Prop}(c:q=B4->A)(d:q=B2->B):L6 m q A B:=by
 cases q with
 |true=>exact c rfl
 |false=>exact d rfl
def asBool:AV->Option Bool
 | .bool q=>B1 q
 |_=>B5
noncomputable section
structure ak where
 prog:jZ
 told:cj
 mute:Nat->Bool
 ok:∀f vs up H,mute f=B2->told f vs up H=B5
def ak.call(M:ak)(n:Nat):cj:=kI M.prog M.told n
def ak.func(M:ak)(f:Nat):Option bZ:=cond (M.mute f) B5 (M.prog.func f)
def ak.kN(M:ak):Nat->String->Option Nat:=M.prog.kN
def ak.zU{M:ak}{f:Nat}{fn:bZ}(h:M.func f=B1 fn):M.mute f=B2/\M.prog.func f=B1 fn:=by
 unfold ak.func at h;cases hm:M.mute f with
 |true=>rw[hm]at h;cases h
 |false=>rw[hm]at h;exact⟨rfl,h⟩
def ak.Az{M:ak}{f:Nat}(h:M.mute f=B2)(n:Nat)(vs:List AV)(up:Option aG)(H:ar):M.call (n+1) f vs up H=IE M.prog (M.call n) n f vs up H:=by
 show(match M.told f vs up H with|some r=>B1 r|none=>IE M.prog (kI M.prog M.told n) n f vs up H)=_;rw[M.ok f vs up H h];rfl
variable(AP:ak)
def zS(n k:Nat)(ctx:Ctx):RT:=⟨AP.prog,AP.call n,rounds AP.prog (AP.call n) n k,n,ctx⟩
def jK(f:Nat)(vs:List AV)(up:Option aG)(H:ar)(e:bI)(up':Option aG)(H':ar):Prop:=∃n0,∀n,n0<=n->AP.call n f vs up H=B1 (e,up',H')
def CALL(f:Nat)(vs:List AV)(H:ar)(e:bI)(H':ar):Prop:=jK AP f vs B5 H e B5 H'
def sY(l:Nat)(vs:List AV)(H:ar)(e:bI)(H':ar):Prop:=∃n0,∀n k,n0<=n->n0<=k->rounds AP.prog (AP.call n) n k vs l H=B1 (e,H')
def uJ:mG->List AV->ar->bI->ar->Prop
 | .func g=>CALL AP g
 | .yield l=>sY AP l
def om(m:Bool)(f:mG)(vs:List AV)(H:ar)(K:AV->ar->Prop)(E:aG->ar->Prop):Prop :=
 ∃e H',uJ AP f vs H e H'/\match e with
  | .ret v=>K v H'
  | .panic c=>E c H'
@[congr]def aa3{AP:ak}{m d:Bool}{f:mG}{vs c:List AV}{H:ar}{K:AV->ar->Prop}{E:aG->ar->Prop}(hm:m=d)(h:vs=c):om AP m f vs H K E=om AP d f c H K E:=by rw[h,hm]
def Oi(m:Bool)(vs:List AV)(K:mG->List AV->Prop):Prop:=match vs with
 | .fn (.func g) first cap::args=>K (.func g) (first++(args++cap))
 | .fn (.yield l) first []::args=>K (.yield l) (first++args)
 |_=>False
@[congr]def ab0{m d:Bool}{vs c:List AV}{K:mG->List AV->Prop}(hm:m=d)(h:vs=c):Oi m vs K=Oi d c K:=by rw[h,hm]
def Nb(m:Bool)(name:String)(vs:List AV)(K:mG->List AV->Prop):Prop:=match vs with
 | .iface t v::args=>bP aI (AP.kN t name) λ g=>K (.func g) (v::args)
 |_=>False
@[congr]def ab3{AP:ak}{m d:Bool}{name:String}{vs c:List AV}{K:mG->List AV->Prop}(hm:m=d)(h:vs=c):Nb AP m name vs K=Nb AP d name c K:=by rw[h,hm]
def qK(tm:T AV):List bL->(List AV->Prop)->Prop
 |[],K=>K []
 | .tmp t::xs,K=>bP aI (tm.get t) λ v=>qK tm xs λ vs=>K (v::vs)
 | .const v::xs,K=>qK tm xs λ vs=>K (v::vs)
 | .eH g::xs,K=>qK tm xs λ vs=>K (.ptr g 0::vs)
 | .func f::xs,K=>qK tm xs λ vs=>K (.fn (.func f) [] []::vs)
def qK.elim{tm:T AV}:∀{l:List bL}{K:List AV->Prop},qK tm l K -> ∃vs,mF tm l=B1 vs/\K vs
 |[],K,h=>⟨[],rfl,h⟩
 | .tmp t::xs,K,h=>by
  obtain⟨v,f,h⟩:=bP.elim (m:=aI) h;obtain⟨vs,c,d⟩:=qK.elim h;exact⟨v::vs,by simp[mF,rX,f,c],d⟩
 | .const v::xs,K,h=>by
  obtain⟨vs,c,d⟩:=qK.elim (l:=xs) h;exact⟨v::vs,by simp[mF,rX,c],d⟩
 | .eH v::xs,K,h=>by
  obtain⟨vs,c,d⟩:=qK.elim (l:=xs) h;exact⟨_,by simp[mF,rX,c],d⟩
 | .func v::xs,K,h=>by
  obtain⟨vs,c,d⟩:=qK.elim (l:=xs) h;exact⟨_,by simp[mF,rX,c],d⟩
def FK(tm:T AV)(x:bL)(K:AV->Prop):Prop:=match x with
 | .tmp t=>bP aI (tm.get t) K
 | .const v=>K v
 | .eH g=>K (.ptr g 0)
 | .func f=>K (.fn (.func f) [] [])
def FK.elim{tm:T AV}{x:bL}{K:AV->Prop}(h:FK tm x K):∃v,rX tm x=B1 v/\K v:=by
 cases x with
 |tmp t=>exact bP.elim (m:=aI) h
 |const v=>exact⟨v,rfl,h⟩
 |eH v=>exact⟨_,rfl,h⟩
 |func v=>exact⟨_,rfl,h⟩
abbrev cO:=aW->St->Prop
def AL(ps:Option (List Nat))(tm:T AV)(aY:List aK)(up:Option aG)(Q:cO)(c:aG)(H:ar):Prop:=match ps with
 |some ds=>Q (.panic c) ⟨forget ds tm,aY,up,H⟩
 |none=>False
def zJ(m:Bool)(ctx:Ctx)(up:Option aG)(K:AV->Option aG->Prop):Prop:=ctx.round=B5/\match up with
 |some ((v,B2)::older)=>K v (B1 ((v,B4)::older))
 |_=>K .nili up
@[congr]def aa5{m d:Bool}{ctx:Ctx}{up c:Option aG}{K:AV->Option aG->Prop}(hm:m=d)(h:up=c):zJ m ctx up K=zJ d ctx c K:=by rw[h,hm]
def ID(m:Bool)(ctx:Ctx)(vs:List AV)(aY:List aK)(K:List aK->Prop):Prop:=ctx.round=B5/\match vs with
 | .fn (.func f) first cap::args=>K (.fn (.func f) (first++(args++cap))::aY)
 |_=>False
@[congr]def aa8{m d:Bool}{ctx:Ctx}{vs c:List AV}{aY:List aK}{K:List aK->Prop}(hm:m=d)(h:vs=c):ID m ctx vs aY K=ID d ctx c aY K:=by rw[h,hm]
def gC(vs:List AV)(H:ar)(E:aG->ar->Prop):Prop:=match vs with
 |[.iface t v]=>E [(.iface t v,B2)] H
 |_=>False
@[congr]def aa0{vs c:List AV}{H:ar}{E:aG->ar->Prop}(h:vs=c):gC vs H E=gC c H E:=by rw[h]
def pW(ctx:Ctx)(dst:Option Nat)(ps:Option (List Nat))(st:St)(Q:cO)(K:St->Prop)(vs:List AV):fI->Prop
 | .pure f=>bP aI (f vs) λ v=>K ⟨eI dst v st.tm,st.aY,st.up,st.H⟩
 | .read f=>bP aI (f vs st.H) λ v=>K ⟨eI dst v st.tm,st.aY,st.up,st.H⟩
 | .alloc f=>iQ aI (f vs) λ o mk=>K ⟨eI dst (mk st.H.au) st.tm,st.aY,st.up,st.H.alloc o⟩
 | .gY f=>iQ aI (f vs st.H) λ v H=>K ⟨eI dst v st.tm,st.aY,st.up,H⟩
 | .im g=>om AP aI (.func g) vs st.H (λ v H=>K ⟨eI dst v st.tm,st.aY,st.up,H⟩) (AL ps st.tm st.aY st.up Q)
 | .iq=>Oi aI vs λ f vs=>om AP aI f vs st.H (λ v H=>K ⟨eI dst v st.tm,st.aY,st.up,H⟩) (AL ps st.tm st.aY st.up Q)
 | .invoke name=>Nb AP aI name vs λ f vs=>om AP aI f vs st.H (λ v H=>K ⟨eI dst v st.tm,st.aY,st.up,H⟩) (AL ps st.tm st.aY st.up Q)
 | .recover=>match vs with
  |[]=>zJ aI ctx st.up λ v up=>K ⟨eI dst v st.tm,st.aY,up,st.H⟩
  |_=>False
 | .defer=>ID aI ctx vs st.aY λ aY=>K ⟨eI dst .undef st.tm,aY,st.up,st.H⟩
 | .panic=>gC vs st.H (AL ps st.tm st.aY st.up Q)
def RN(dst:Option Nat)(st:St)(vs:List AV):fI->Prop
 | .read f=>match dst with
  |some d=>bP aI (f vs st.H) λ v=>bP aI (st.tm.get d) λ v'=>v=v'
  |none=>False
 |_=>False
def rP(ctx:Ctx)(s:aO)(st:St)(Q:cO)(K:St->Prop):Prop :=
 match s.iv with
 |false=>match s.guard with
  |none=>qK st.tm s.args λ vs=>pW AP ctx s.dst s.cI st Q K vs s.op
  |some g=>bP aI (cT g.2 (st.tm.get g.1)) λ w=>L6 aI w (qK st.tm s.args λ vs=>pW AP ctx s.dst s.cI st Q K vs s.op) (K ⟨eI s.dst .undef st.tm,st.aY,st.up,st.H⟩)
 |true=>match s.guard with
  |none=>qK st.tm s.args λ vs=>RN s.dst st vs s.op/\K st
  |some g=>bP aI (cT g.2 (st.tm.get g.1)) λ w=>L6 aI w (qK st.tm s.args λ vs=>RN s.dst st vs s.op/\K st) (s.dst.isSome=B4/\K st)
def oO(ctx:Ctx):List aO->St->cO->Prop
 |[],st,Q=>Q .normal st
 |s::rest,st,Q=>rP AP ctx s st Q λ st'=>oO ctx rest st' Q
def Eg(W:St->cO->Prop)(Q:cO):cO:=λ e st=>match e with
 | .normal=>W st Q
 |e=>Q e st
def BLK(id:Nat)(Q:cO):cO:=λ e st=>match e with
 | .exit id'=>Q (cond (J2 id id') .normal (.exit id')) st
 |e=>Q e st
def SCP(b:ai)(Q:cO):cO:=λ e st=>match e with
 | .goto l=>FO b l=B2/\Q (.goto l) st
 |e=>Q e st
def kX(ah:Option (List Nat))(st:St):St:=match ah with
 |none=>st
 |some ks=>{st with tm:=U8 st.tm ks .nil}
def LD(W:St->cO->Prop)(ah:Option (List Nat))(st:St)(Q:cO):Prop :=
 ∃I:Nat->St->Prop,(∃n,I n st) /\ ∀n st,I n st->W (kX ah st) λ e st'=>match e with
  | .normal=>∃m,m<n/\I m st'
  |e=>Q e st'
def Vc(st:St)(aY:List aK)(l:Nat)(Q:cO)(e:bI)(H:ar):Prop:=match e with
 | .panic c=>Q (.panic c) {st with aY:=aY,H:=H}
 | .ret _=>∃s p f k tm d,H.get l=B1 (.loop s p f k tm d)/\s≠ .busy/\Q (qU p) {st with aY:=aY,H:=H.set l (.loop .exhausted p f k tm d)}
def mJ(ctx:Ctx)(st:St)(k:Nat)(H0:ar)(aY:List aK)(d:Nat)(Q:cO):AV->Prop
 | .fn (.func g) first cap=>∃e H',CALL AP g (first++(.fn (.yield H0.au) [] []::cap)) (H0.alloc (.loop .ready B5 ctx.fn k st.tm d)) e H'/\Vc st aY H0.au Q e H'
 |_=>False
def Jv(ctx:Ctx)(k:Nat)(st:St)(Q:cO)(v:AV):Prop:=match ctx.round with
 |none=>mJ AP ctx st k (st.H.alloc (.deferred (B1 []))) (.iz st.H.au::st.aY) st.H.au Q v
 |some l=>bP aI (B0 st.H l) λ d=>mJ AP ctx st k st.H st.aY d Q v
def WP(ctx:Ctx):ai->St->cO->Prop
 | .skip,st,Q=>Q .normal st
 | .label _,st,Q=>Q .normal st
 | .region steps,st,Q=>oO AP ctx steps st Q
 | .seq a b,st,Q=>WP ctx a st (Eg (WP ctx b) Q)
 | .cond c a b,st,Q=>FK st.tm c λ v=>bP aI (asBool v) λ q=>L6 aI q (WP ctx a st Q) (WP ctx b st Q)
 | .block id b,st,Q=>WP ctx b st (BLK id Q)
 | .loop ah b,st,Q=>LD (WP ctx b) ah st Q
 | .exit id,st,Q=>Q (.exit id) st
 | .goto l,st,Q=>Q (.goto l) st
 | .ret,st,Q=>Q .ret st
 | .stuck,_,_=>False
 | .scope b,st,Q=>WP ctx b st (SCP b Q)
 | .rangeFunc f k,st,Q=>FK st.tm f λ v=>Jv AP ctx k st Q v
section
variable(ctx:Ctx)(st:St)(Q:cO)
def XB(s:aO)(l:List aO):oO AP ctx (s::l) st Q=rP AP ctx s st Q λ c=>oO AP ctx l c Q:=propext kq
end
def EX(ctx:Ctx)(c:ai)(st:St)(r:aW×St):Prop:=∃n0,∀n k,n0<=n->n0<=k->(bK c).run (zS AP n k ctx) st=B1 r
def EXS(ctx:Ctx)(l:List aO)(st:St)(r:aW×St):Prop:=∃n0,∀n k,n0<=n->n0<=k->(hO l).run (zS AP n k ctx) st=B1 r
def uJ.run{AP:ak}{f:mG}{vs:List AV}{H:ar}{e:bI}{H':ar}(h:uJ AP f vs H e H') :
 ∃n0,∀n k,n0<=n->n0<=k->da (AP.call n) (rounds AP.prog (AP.call n) n k) f vs H=B1 (e,H'):=by
 cases f with
 |func g=>obtain⟨n0,h⟩:=h;exact⟨n0,λ n k hn _=>by simp[da,h n hn]⟩
 |yield l=>obtain⟨n0,h⟩:=h;exact⟨n0,λ n k hn hk=>by simp[da,h n k hn hk]⟩
def q77:(∀v,cz v v=B4)/\(∀l,fj l l=B4):=by
 have e1:∀n,J2 n n=true:=λ n=>by simp
 have e2:∀k,tV k k=true:=λ k=>by cases k<;>rfl
 have c:∀i,uG i i=true:=λ i=>by rw[EE];simp
 have d:∀s,AY s s=true:=λ s=>by rw[L4];simp
 refine⟨λ v=>?_,λ l=>?_⟩
 .refine AV.rec (motive_1:=λ v=>cz v v=B4) (motive_2:=λ l=>fj l l=B4) ?_ ?_ ?_ ?_ ?_ ?_ ?_ ?_ ?_ ?_ ?_ ?_ ?_ ?_ ?_ ?_ ?_ ?_ ?_ v
  all_goals (intros;first|rfl|(simp only[cz,fj,z7,beq_self_eq_true, *];done)|(rename_i f _ _ _ _;cases f<;>simp only[cz,z7, *]))
 .refine AV.rec_1 (motive_1:=λ v=>cz v v=B4) (motive_2:=λ l=>fj l l=B4) ?_ ?_ ?_ ?_ ?_ ?_ ?_ ?_ ?_ ?_ ?_ ?_ ?_ ?_ ?_ ?_ ?_ ?_ ?_ l
  all_goals (intros;first|rfl|(simp only[cz,fj,z7,beq_self_eq_true, *];done)|(rename_i f _ _ _ _;cases f<;>simp only[cz,z7, *]))
def xkb(v:AV):cz v v=true:=q77.1 v
def RN.run{d:Option Nat}{st:St}{vs:List AV}{op:fI}(h:RN d st vs op):∃t,d=B1 t/\ry (T.oV (T.path t)).run st vs op=true:=by
 cases op with
 |read f =>
  cases d with
  |none=>exact Nk h
  |some t =>
   refine⟨t,rfl,?_⟩;obtain⟨v,g,h⟩:=bP.elim (m:=aI) h;obtain⟨j,i,h⟩:=bP.elim (m:=aI) h;subst h;have c:(T.oV (T.path t)).run st.tm=B1 v:=by rw[T.jS];exact i
   simp[ry,g,c,xkb]
 |_=>exact Nk h
def pW.run{AP:ak}{ctx:Ctx}{dst:Option Nat}{t:Option (List Nat)}{st:St}{Q:cO}{K:St->Prop}{vs:List AV}{op:fI}(h:pW AP ctx dst t st Q K vs op)
 {kk:Nat->Nat->St->gT} (p:∀st,K st -> ∃e d,Q e d /\ ∃n0,∀n k,n0<=n->n0<=k->kk n k st=B1 (e,d)) :
 ∃e d,Q e d /\ ∃n0,∀n k,n0<=n->n0<=k->(ri (lQ dst).run t op).run (zS AP n k ctx) st (kk n k) vs=B1 (e,d):=by
 have hp:∀v tm,(lQ dst).run v tm=eI dst v tm:=ZS dst;have call:∀{f vs},om AP aI f vs st.H (λ v H=>K ⟨eI dst v st.tm,st.aY,st.up,H⟩) (AL t st.tm st.aY st.up Q) ->
  ∃e d,Q e d /\ ∃n0,∀n k,n0<=n->n0<=k->((da (AP.call n) (rounds AP.prog (AP.call n) n k) f vs st.H).bind λ r=>fH (lQ dst).run t st (kk n k) r)=B1 (e,d):=by
  rintro f vs ⟨e,H',l,h⟩;obtain⟨n0,l⟩:=l.run;cases e with
  |ret v =>
   obtain⟨e,d,j,n1,i⟩:=p _ h;refine⟨e,d,j,max n0 n1,λ n k hn hk=>?_⟩;rw[l n k (by omega) (by omega)]
   simpa[fH,hp]using i n k (by omega) (by omega)
  |panic c =>
   cases t with
   |none=>exact Nk h
   |some ds =>
    refine⟨_,_,h,n0,λ n k hn hk=>?_⟩;rw[l n k (by omega) (by omega)];simp[fH]
 cases op with
 |pure f =>
  obtain⟨v,l,h⟩:=bP.elim (m:=aI) h;obtain⟨e,d,j,n1,i⟩:=p _ h;exact⟨e,d,j,n1,λ n k hn hk=>by simp[ri,EU,l,hp,i n k hn hk]⟩
 |read f =>
  obtain⟨v,l,h⟩:=bP.elim (m:=aI) h;obtain⟨e,d,j,n1,i⟩:=p _ h;exact⟨e,d,j,n1,λ n k hn hk=>by simp[ri,Du,l,hp,i n k hn hk]⟩
 |alloc f =>
  simp only[pW]at h;obtain⟨o,mk,l,h⟩:=iQ.elim (m:=aI) h;obtain⟨e,d,j,n1,i⟩:=p _ h;exact⟨e,d,j,n1,λ n k hn hk=>by simp[ri,xR,l,hp,i n k hn hk]⟩
 |gY f =>
  simp only[pW]at h;obtain⟨o,mk,l,h⟩:=iQ.elim (m:=aI) h;obtain⟨e,d,j,n1,i⟩:=p _ h;exact⟨e,d,j,n1,λ n k hn hk=>by simp[ri,Ld,l,hp,i n k hn hk]⟩
 |im f=>exact call h
 |iq =>
  simp only[pW,Oi]at h;split at h
  .exact call h
  .exact call h
  .exact Nk h
 |invoke name =>
  simp only[pW,Nb]at h;split at h
  .obtain ⟨g,hg,h⟩:=bP.elim (m:=aI) h;obtain⟨e,d,j,n1,i⟩:=call h;exact⟨e,d,j,n1,λ n k hn hk=>by simpa[ri,tq,zS,(show AP.prog.kN _ name=B1 g from hg)]using i n k hn hk⟩
  .exact Nk h
 |recover =>
  simp only[pW]at h;split at h
  .obtain ⟨hr,h⟩:=h;split at h
   .rename_i v s q;obtain⟨e,d,j,n1,i⟩:=p _ h;exact⟨e,d,j,n1,λ n k hn hk=>by simpa[ri,Tt,zS,hr,Qf,q,hp]using i n k hn hk⟩
   .rename_i q;obtain⟨e,d,j,n1,i⟩:=p _ h;refine⟨e,d,j,n1,λ n k hn hk=>?_⟩;have:Qf (lQ dst).run st=⟨eI dst .nili st.tm,st.aY,st.up,st.H⟩:=by
     unfold Qf;split
     .rename_i v s hu;exact(q _ _ hu).elim
     .rw [hp]
    simpa[ri,Tt,zS,hr,this]using i n k hn hk
  .exact Nk h
 |defer =>
  obtain⟨hr,h⟩:=h;split at h
  .obtain ⟨e,d,j,n1,i⟩:=p _ h;exact⟨e,d,j,n1,λ n k hn hk=>by simpa[ri,wG,zS,hr,hp]using i n k hn hk⟩
  .exact Nk h
 |panic =>
  simp only[pW,gC]at h;split at h
  .cases t with
   |none=>exact Nk h
   |some ds=>exact⟨_,_,h,0,λ n k hn hk=>by simp[ri,wR,fH]⟩
  .exact Nk h
def rP.run{AP:ak}{ctx:Ctx}{s:aO}{st:St}{Q:cO}{K:St->Prop}(h:rP AP ctx s st Q K)
 {kk:Nat->Nat->St->gT} (o:∀st,K st -> ∃e c,Q e c /\ ∃n0,∀n k,n0<=n->n0<=k->kk n k st=B1 (e,c)) :
 ∃e c,Q e c /\ ∃n0,∀n k,n0<=n->n0<=k->(gV s).run (zS AP n k ctx) (kk n k) st=B1 (e,c):=by
 obtain⟨iv,dst,guard,args,op,u⟩:=s;have hp:∀v tm,(lQ dst).run v tm=eI dst v tm:=ZS dst;have p:∀g,(T.oV (T.path g)).run st.tm=st.tm.get g:=λ g=>by rw[T.jS];rfl
 cases iv with
 |false =>
  cases guard with
  |none =>
   obtain⟨vs,l,h⟩:=qK.elim h;obtain⟨e,c,j,n0,f⟩:=h.run o;exact⟨e,c,j,n0,λ n k hn hk=>by simpa[gV,Gp,l]using f n k hn hk⟩
  |some g =>
   obtain⟨w,hw,h⟩:=bP.elim (m:=aI) h;cases w with
   |true =>
    obtain⟨vs,l,h⟩:=qK.elim h;obtain⟨e,c,j,n0,f⟩:=h.run o;exact⟨e,c,j,n0,λ n k hn hk=>by simpa[gV,p,hw,Gp,l]using f n k hn hk⟩
   |false =>
    obtain⟨e,c,j,n0,f⟩:=o _ h;exact⟨e,c,j,n0,λ n k hn hk=>by simpa[gV,p,hw,hp]using f n k hn hk⟩
 |true =>
  cases guard with
  |none =>
   obtain⟨vs,l,hk,q⟩:=qK.elim h;obtain⟨t,rfl,hk⟩:=hk.run;obtain⟨e,c,j,n0,f⟩:=o _ q;exact⟨e,c,j,n0,λ n k hn i=>by simpa[gV,Gp,l,hk]using f n k hn i⟩
  |some g =>
   obtain⟨w,hw,h⟩:=bP.elim (m:=aI) h;cases w with
   |true =>
    obtain⟨vs,l,hk,q⟩:=qK.elim h;obtain⟨t,rfl,hk⟩:=hk.run;obtain⟨e,c,j,n0,f⟩:=o _ q;exact⟨e,c,j,n0,λ n k hn i=>by simpa[gV,p,hw,Gp,l,hk]using f n k hn i⟩
   |false =>
    obtain⟨r,h⟩:=h;obtain⟨e,c,j,n0,f⟩:=o _ h;cases dst with
    |none=>cases r
    |some d=>exact⟨e,c,j,n0,λ n k hn i=>by simpa[gV,p,hw]using f n k hn i⟩
def oO.run{AP:ak}{ctx:Ctx}:∀{l:List aO}{st:St}{Q:cO},oO AP ctx l st Q -> ∃e c,Q e c/\EXS AP ctx l st (e,c)
 |[],st,Q,h=>⟨_,_,h,0,λ _ _ _ _=>rfl⟩
 |s::rest,st,Q,h=>by
  obtain⟨e,c,d,n0,h⟩:=rP.run (kk:=λ n k=>(hO rest).run (zS AP n k ctx)) h λ c hs=>oO.run hs;exact⟨e,c,d,n0,h⟩
def Di{AP:ak}{ctx:Ctx}{ah:Option (List Nat)}{b:ai}{Q:cO}{I:Nat->St->Prop}
 (hb:∀n st,I n st -> ∃e f,(match e with| .normal=>∃m,m<n/\I m f|e=>Q e f)/\EX AP ctx b (kX ah st) (e,f)) :
 ∀m n,n<=m -> ∀st,I n st -> ∃e f,Q e f /\ ∃n0 c,∀n k,n0<=n->n0<=k -> ∀d,c<=d->gO ah ((bK b).run (zS AP n k ctx)) d st=B1 (e,f):=by
 intro m
 induction m with
 |zero =>
  intro n hn st q;obtain⟨e,f,h,n0,g⟩:=hb n st q;cases e with
  |normal=>obtain⟨j,w,_⟩:=h;omega
  |exit id=>exact⟨_,_,h,n0,1,λ n k hn hk d i=>by obtain⟨c,rfl⟩:∃c,d=c+1:=⟨d-1,by omega⟩;have:=g n k hn hk;cases ah<;>simp[gO,kX]at this⊢<;>simp[this]⟩
  |goto l=>exact⟨_,_,h,n0,1,λ n k hn hk d i=>by obtain⟨c,rfl⟩:∃c,d=c+1:=⟨d-1,by omega⟩;have:=g n k hn hk;cases ah<;>simp[gO,kX]at this⊢<;>simp[this]⟩
  |ret=>exact⟨_,_,h,n0,1,λ n k hn hk d i=>by obtain⟨c,rfl⟩:∃c,d=c+1:=⟨d-1,by omega⟩;have:=g n k hn hk;cases ah<;>simp[gO,kX]at this⊢<;>simp[this]⟩
  |panic p=>exact⟨_,_,h,n0,1,λ n k hn hk d i=>by obtain⟨c,rfl⟩:∃c,d=c+1:=⟨d-1,by omega⟩;have:=g n k hn hk;cases ah<;>simp[gO,kX]at this⊢<;>simp[this]⟩
 |succ m ih =>
  intro n hn st q;obtain⟨e,f,h,n0,g⟩:=hb n st q;cases e with
  |normal =>
   obtain⟨j,w,r⟩:=h;obtain⟨e,s,x,n1,c,t⟩:=ih j (by omega) f r;refine⟨e,s,x,max n0 n1,c+1,λ n k hn hk d i=>?_⟩;obtain⟨o,rfl⟩:∃c,d=c+1:=⟨d-1,by omega⟩
   have:=g n k (by omega) (by omega);have u:=t n k (by omega) (by omega) o (by omega);cases ah<;>simp[gO,kX]at this⊢<;>simp[this,u]
  |exit id=>exact⟨_,_,h,n0,1,λ n k hn hk d i=>by obtain⟨c,rfl⟩:∃c,d=c+1:=⟨d-1,by omega⟩;have:=g n k hn hk;cases ah<;>simp[gO,kX]at this⊢<;>simp[this]⟩
  |goto l=>exact⟨_,_,h,n0,1,λ n k hn hk d i=>by obtain⟨c,rfl⟩:∃c,d=c+1:=⟨d-1,by omega⟩;have:=g n k hn hk;cases ah<;>simp[gO,kX]at this⊢<;>simp[this]⟩
  |ret=>exact⟨_,_,h,n0,1,λ n k hn hk d i=>by obtain⟨c,rfl⟩:∃c,d=c+1:=⟨d-1,by omega⟩;have:=g n k hn hk;cases ah<;>simp[gO,kX]at this⊢<;>simp[this]⟩
  |panic p=>exact⟨_,_,h,n0,1,λ n k hn hk d i=>by obtain⟨c,rfl⟩:∃c,d=c+1:=⟨d-1,by omega⟩;have:=g n k hn hk;cases ah<;>simp[gO,kX]at this⊢<;>simp[this]⟩
def mJ.run{AP:ak}{ctx:Ctx}{st:St}{j:Nat}{H0:ar}{aY:List aK}{d:Nat}{Q:cO}{v:AV}(h:mJ AP ctx st j H0 aY d Q v) :
 ∃e g,Q e g /\ ∃n0,∀n k,n0<=n->n0<=k->jE (AP.call n) (rounds AP.prog (AP.call n) n k) ctx st j H0 aY d v=B1 (e,g):=by
 unfold mJ at h;split at h
 .obtain ⟨e,H',⟨n0,i⟩,h⟩:=h;cases e with
  |panic c=>exact⟨_,_,h,n0,λ n k hn hk=>by simp[jE,da,i n hn,NH]⟩
  |ret v =>
   obtain⟨s,p,f,k,tm,d,hg,hs,h⟩:=h;refine⟨_,_,h,n0,λ n k hn hk=>?_⟩;simp only[jE,da,i n hn,NH,qr,hg]
 .exact Nk h
def WP.run{AP:ak}{ctx:Ctx}:∀{c:ai}{st:St}{Q:cO},WP AP ctx c st Q -> ∃e j,Q e j/\EX AP ctx c st (e,j)
 | .skip,st,Q,h=>⟨_,_,h,0,λ _ _ _ _=>rfl⟩
 | .label _,st,Q,h=>⟨_,_,h,0,λ _ _ _ _=>rfl⟩
 | .exit _,st,Q,h=>⟨_,_,h,0,λ _ _ _ _=>rfl⟩
 | .goto _,st,Q,h=>⟨_,_,h,0,λ _ _ _ _=>rfl⟩
 | .ret,st,Q,h=>⟨_,_,h,0,λ _ _ _ _=>rfl⟩
 | .stuck,st,Q,h=>Nk h
 | .region steps,st,Q,h=>oO.run h
 | .seq a b,st,Q,h=>by
  obtain⟨e,dg,i,n0,g⟩:=WP.run (c:=a) h;cases e with
  |normal =>
   obtain⟨e,t,o,n1,x⟩:=WP.run (c:=b) i;exact⟨e,t,o,max n0 n1,λ n k hn hk=>by simp[bK,g n k (by omega) (by omega),vE,x n k (by omega) (by omega)]⟩
  |exit id=>exact⟨_,_,i,n0,λ n k hn hk=>by simp[bK,g n k hn hk,vE]⟩
  |goto id=>exact⟨_,_,i,n0,λ n k hn hk=>by simp[bK,g n k hn hk,vE]⟩
  |ret=>exact⟨_,_,i,n0,λ n k hn hk=>by simp[bK,g n k hn hk,vE]⟩
  |panic p=>exact⟨_,_,i,n0,λ n k hn hk=>by simp[bK,g n k hn hk,vE]⟩
 | .cond c a b,st,Q,h=>by
  obtain⟨v,r,h⟩:=FK.elim h;obtain⟨q,o,h⟩:=bP.elim (m:=aI) h;have hv':v=.bool q:=by
   unfold asBool at o;split at o
   .injection o with o;rw[o]
   .cases o
  subst hv';cases q with
  |true =>
   obtain⟨e,dg,i,n0,g⟩:=WP.run (c:=a) h;exact⟨e,dg,i,n0,λ n k hn hk=>by simp[bK,Je,r,vH,g n k hn hk]⟩
  |false =>
   obtain⟨e,dg,i,n0,g⟩:=WP.run (c:=b) h;exact⟨e,dg,i,n0,λ n k hn hk=>by simp[bK,Je,r,vH,g n k hn hk]⟩
 | .block id b,st,Q,h=>by
  obtain⟨e,dg,i,n0,g⟩:=WP.run (c:=b) h;cases e with
  |exit id'=>exact⟨_,_,i,n0,λ n k hn hk=>by simp[bK,g n k hn hk,kE]⟩
  |normal=>exact⟨_,_,i,n0,λ n k hn hk=>by simp[bK,g n k hn hk,kE]⟩
  |goto id=>exact⟨_,_,i,n0,λ n k hn hk=>by simp[bK,g n k hn hk,kE]⟩
  |ret=>exact⟨_,_,i,n0,λ n k hn hk=>by simp[bK,g n k hn hk,kE]⟩
  |panic p=>exact⟨_,_,i,n0,λ n k hn hk=>by simp[bK,g n k hn hk,kE]⟩
 | .scope b,st,Q,h=>by
  obtain⟨e,dg,i,n0,g⟩:=WP.run (c:=b) h;cases e with
  |exit id'=>exact⟨_,_,i,n0,λ n k hn hk=>by simp[bK,g n k hn hk,mf]⟩
  |normal=>exact⟨_,_,i,n0,λ n k hn hk=>by simp[bK,g n k hn hk,mf]⟩
  |goto id=>exact⟨_,_,i.2,n0,λ n k hn hk=>by simp[bK,g n k hn hk,mf,i.1]⟩
  |ret=>exact⟨_,_,i,n0,λ n k hn hk=>by simp[bK,g n k hn hk,mf]⟩
  |panic p=>exact⟨_,_,i,n0,λ n k hn hk=>by simp[bK,g n k hn hk,mf]⟩
 | .loop ah b,st,Q,⟨I,⟨n,s⟩,h⟩=>by
  obtain⟨e,j,o,n0,c,g⟩:=Di (AP:=AP) (ctx:=ctx) (ah:=ah) (b:=b) (Q:=Q) (I:=I) (λ n st s=>by
   obtain⟨e,j,i,u⟩:=WP.run (c:=b) (h n st s);exact⟨e,j,i,u⟩) n n (qm n) st s
  exact⟨e,j,o,max n0 c,λ n k hn hk=>g n k (by omega) (by omega) n (by omega)⟩
 | .rangeFunc f k0,st,Q,h=>by
  obtain⟨v,r,h⟩:=FK.elim h;unfold Jv at h;cases hr:ctx.round with
  |none =>
   rw[hr]at h;obtain⟨e,j,o,n0,g⟩:=mJ.run h;exact⟨e,j,o,n0,λ n k hn hk=>by simpa[bK,Je,r,qS,zS,hr]using g n k hn hk⟩
  |some l =>
   rw[hr]at h;obtain⟨d,w,h⟩:=bP.elim (m:=aI) h;obtain⟨e,j,o,n0,g⟩:=mJ.run h;exact⟨e,j,o,n0,λ n k hn hk=>by simpa[bK,Je,r,qS,zS,hr,w]using g n k hn hk⟩
def Av(AP:ak)(rs:List ep)(tm:T AV)(Q:bI->ar->Prop):List aK->Option aG->ar->Prop
 |[],B5,H=>bP aI (eh H tm rs) λ l=>Q (.ret (jG l)) H
 |[],B1 c,H=>Q (.panic c) H
 | .iz b::ds,m,H=>H.get b=B1 (.deferred (B1 []))/\Av AP rs tm Q ds m (H.set b (.deferred B5))
 | .fn (.func f) args::ds,m,H=>∃v up' H',jK AP f args (B1 (m.getD [])) H (.ret v) (B1 up') H'/\bP aI (nY m up') λ m'=>Av AP rs tm Q ds m' H'
 | .fn (.yield _) _::_,_,_=>False
def Av.run{AP:ak}{rs:List ep}{tm:T AV}{Q:bI->ar->Prop}:∀{ds:List aK}{m:Option aG}{H:ar},Av AP rs tm Q ds m H ->
 ∃e H',Q e H' /\ ∃n0,∀n,n0<=n->cw (AP.call n) rs tm ds m H=B1 (e,H')
 |[],B5,H,h=>by
  obtain⟨l,hl,h⟩:=bP.elim (m:=aI) h;exact⟨_,_,h,0,λ n _=>by simp[cw,hl]⟩
 |[],B1 c,H,h=>⟨_,_,h,0,λ n _=>by simp[cw]⟩
 | .iz b::ds,m,H,⟨hb,h⟩=>by
  obtain⟨e,H',d,n0,g⟩:=Av.run h;exact⟨e,H',d,n0,λ n hn=>by simp[cw,hb,g n hn]⟩
 | .fn (.func f) args::ds,m,H,⟨v,up',H',⟨n0,hc⟩,h⟩=>by
  obtain⟨j,hm,h⟩:=bP.elim (m:=aI) h;obtain⟨e,i,d,n1,g⟩:=Av.run h;exact⟨e,i,d,max n0 n1,λ n hn=>by simp[cw,hc n (by omega),hm,g n (by omega)]⟩
 | .fn (.yield _) _::_,_,_,h=>Nk h
def fu(AP:ak)(rs:List ep)(Q:bI->Option aG->ar->Prop):cO:=λ e st=>match e with
 | .normal=>Av AP rs st.tm (λ e H=>Q e st.up H) st.aY B5 st.H
 | .ret=>Av AP rs st.tm (λ e H=>Q e st.up H) st.aY B5 st.H
 | .panic c=>Av AP rs st.tm (λ e H=>Q e st.up H) st.aY (B1 c) st.H
 |_=>False
def P_{AP:ak}{f:Nat}{fn:bZ}(i:AP.func f=B1 fn){vs:List AV}{up:Option aG}{H:ar}{Q:bI->Option aG->ar->Prop}
 (h:WP AP ⟨B5,f⟩ fn.body ⟨jL 0 vs .nil,[],up,H⟩ (fu AP fn.results Q)):∃e d H',jK AP f vs up H e d H'/\Q e d H':=by
 obtain⟨l,i⟩:=ak.zU i;obtain⟨e,st,g,n0,p⟩:=h.run;have key:∀m,Av AP fn.results st.tm (λ e H=>Q e st.up H) st.aY m st.H->(∀call,qJ call fn (e,st)=(cw call fn.results st.tm st.aY m st.H).bind λ q=>B1 (q.1,st.up,q.2)) ->
  ∃e d H',jK AP f vs up H e d H'/\Q e d H':=by
  intro m g he;obtain⟨e',H',o,n1,r⟩:=g.run;refine⟨e',st.up,H',⟨max n0 n1+1,λ n hn=>?_⟩,o⟩;obtain⟨n,rfl⟩:∃j,n=j+1:=⟨n-1,by omega⟩
  have:=p n n (by omega) (by omega);simp only[zS]at this;rw[ak.Az l];simp only[IE,i,qr,exec,this,he,r n (by omega)]
 cases e with
 |normal=>exact key B5 g λ _=>rfl
 |ret=>exact key B5 g λ _=>rfl
 |panic c=>exact key (B1 c) g λ _=>rfl
 |exit _=>exact Nk g
 |goto _=>exact Nk g
def q8k{AP:ak}{f:Nat}{fn:bZ}(g:AP.func f=B1 fn){vs:List AV}{H:ar}{Q:bI->ar->Prop}
 (h:WP AP ⟨B5,f⟩ fn.body ⟨jL 0 vs .nil,[],B5,H⟩ (fu AP fn.results λ e up H=>up=B5/\Q e H)):∃e H',CALL AP f vs H e H'/\Q e H':=by
 obtain⟨e,i,H',c,rfl,d⟩:=P_ g h;exact⟨e,H',c,d⟩
def RE(l:Nat)(Q:bI->ar->Prop):cO:=λ e st=>st.aY=[]/\match e with
 | .panic c=>Q (.panic c) st.H
 |e=>bP aI (cW st.H l (cond (AA e) .ready .done) (kV e)) λ H=>Q (.ret (.bool (AA e))) H
def RB(W:St->cO->Prop)(l:Nat)(Q:bI->ar->Prop):cO:=λ e st=>match e with
 | .normal=>bP aI (beginRound st.H l) λ H=>W {st with H:=H} (RE l Q)
 |_=>False
def _k{AP:ak}{l:Nat}{H:ar}{s:ng}{p:Option ik}{f k:Nat}{tm:T AV}{d:Nat}{fn:bZ}{lp:dL}{vs:List AV}{u:T AV}{Q:bI->ar->Prop}
 (hl:H.get l=B1 (.loop s p f k tm d)) (y:AP.func f=B1 fn) (hk:nth fn.loops k=B1 lp) (hb:KT tm lp.params vs=B1 u)
 (h:WP AP ⟨B1 l,f⟩ lp.assign ⟨u,[],B5,H⟩ (RB (WP AP ⟨B1 l,f⟩ lp.body) l Q)):∃e H',sY AP l vs H e H'/\Q e H':=by
 obtain⟨F,y⟩:=ak.zU y;obtain⟨e,st,o,n0,J⟩:=h.run;cases e with
 |normal =>
  obtain⟨N,x,o⟩:=bP.elim (m:=aI) o;obtain⟨e,z,⟨C,g⟩,n1,L⟩:=WP.run o;have key:∀e' H',Q e' H'->HB l (e,z)=B1 (e',H') -> ∃e H',sY AP l vs H e H'/\Q e H':=by
   intro e' H' G he;refine⟨e',H',⟨max n0 n1+1,λ n j hn O=>?_⟩,G⟩;obtain⟨j,rfl⟩:∃i,j=i+1:=⟨j-1,by omega⟩
   have r:=J n j (by omega) (by omega);have t:=L n j (by omega) (by omega);simp only[zS]at r t;simp only[rounds,roundOf,hl,y,qr,hk,hb,exec,r,x,t,C,roundOf.noDefs,xu,he]
  cases e with
  |panic c=>exact key _ _ g rfl
  |normal=>obtain⟨w,q,g⟩:=bP.elim (m:=aI) g;exact key _ _ g (by simp[HB,q])
  |exit id=>obtain⟨w,q,g⟩:=bP.elim (m:=aI) g;exact key _ _ g (by simp[HB,q])
  |goto id=>obtain⟨w,q,g⟩:=bP.elim (m:=aI) g;exact key _ _ g (by simp[HB,q])
  |ret=>obtain⟨w,q,g⟩:=bP.elim (m:=aI) g;exact key _ _ g (by simp[HB,q])
 |exit _=>exact Nk o
 |goto _=>exact Nk o
 |ret=>exact Nk o
 |panic _=>exact Nk o
def CALL.CU{AP:ak}{f:Nat}{vs:List AV}{H:ar}{e:bI}{H':ar}(h:CALL AP f vs H e H'):∃n,AP.call n f vs B5 H=B1 (e,B5,H'):=by
 obtain⟨n,h⟩:=h;exact⟨n,h n (qm n)⟩
end
end Go.Am
namespace Go.Am
abbrev Env:=List (Nat×AV)
def lT(dst:Option Nat)(v:AV)(E:Env):Env:=match dst with
 |some d=>(d,v)::E
 |none=>E
def tO{α β:Type}(m:Bool)(o:Option (α×β))(K:Bool -> α -> β->Prop):Prop:=match o with
 |some a=>K aI a.1 a.2
 |none=>False
def LK{α:Type}(m:Bool)(o:Option α)(K:Bool -> α->Prop):Prop:=match o with
 |some a=>K m a
 |none=>False
def G4{α:Type}(a:α)(K:Bool -> α->Prop):LK B4 (B1 a) K=K B4 a:=propext kq
@[congr]def ac2{α:Type}{m c:Bool}{o o':Option α}{K:Bool -> α->Prop}(hm:m=c)(h:o=o'):LK m o K=LK c o' K:=by grind
@[congr]def ab2{α β:Type}{m c:Bool}{o o':Option (α×β)}{K:Bool -> α -> β->Prop}(hm:m=c)(h:o=o'):tO m o K=tO c o' K:=by grind
theorem tO.intro{α β:Type}{m:Bool}{o:Option (α×β)}{K:Bool -> α -> β->Prop}{a:α}{b:β}(h:o=B1 (a,b))(hk:K aI a b):tO m o K:=by subst h;exact hk
noncomputable section
variable(AP:ak)
end
end Go.Am
namespace Go.Am
def xn8(n:Int):aj .i64 n=(n+9223372036854775808) % 18446744073709551616-9223372036854775808:=by
 simp[aj,IntKind.wrap,IntKind.bits,IntKind.signed];split<;>omega
def xel(n:Int):aj .u64 n=n % 18446744073709551616:=by simp[aj,IntKind.wrap,IntKind.bits,IntKind.signed]
theorem jk{n:Int}(h:-9223372036854775808<=n)(c:n<9223372036854775808):aj .i64 n=n:=by rw[xn8];omega
def xh9{n:Int}(h:0<=n)(c:n<18446744073709551616):aj .u64 n=n:=by rw[xel];omega
section
variable(k:P0)(a b:Int)
def KZ(v:AV):Op.move [v]=B1 v:=rfl
def Kv(q:Bool)(a b:AV):Op.pick [.bool q,a,b]=B1 (cond q a b):=rfl
def Q7:Op.bin .add [.int k a,.int k b]=B1 (.int k (aj k (a+b))):=by cases k<;>rfl
def Qr:Op.bin .sub [.int k a,.int k b]=B1 (.int k (aj k (a-b))):=by cases k<;>rfl
def QB:Op.bin .mul [.int k a,.int k b]=B1 (.int k (aj k (a*b))):=by cases k<;>rfl
def O7(hb:b≠0):Op.bin .quo [.int k a,.int k b]=B1 (.int k (aj k (a.tdiv b))):=by
 have:uG b 0=false:=by rw[EE];simpa using hb
 cases k<;>simp[Op.bin,nI,d9,tV,kS,gK,this]
def vG(hb:b≠0):Op.bin .rem [.int k a,.int k b]=B1 (.int k (a.tmod b)):=by
 have:uG b 0=false:=by rw[EE];simpa using hb
 cases k<;>simp[Op.bin,nI,d9,tV,kS,gK,this]
def OK:Op.bin .eql [.int k a,.int k b]=B1 (.bool (decide (a=b))):=by
 have:uG a b=decide (a=b):=by rw[EE];rfl
 cases k<;>simp[Op.bin,nI,d9,tV,kS,gK,this]
def Pw:Op.bin .neq [.int k a,.int k b]=B1 (.bool (decide (a≠b))):=by
 have:uG a b=decide (a=b):=by rw[EE];rfl
 cases k<;>simp[Op.bin,nI,d9,tV,kS,gK,this]
def R7:Op.bin .lss [.int k a,.int k b]=B1 (.bool (decide (a<b))):=by
 cases k<;>simp[Op.bin,nI,d9,tV,kS,gK,LA]
def Pe:Op.bin .leq [.int k a,.int k b]=B1 (.bool (decide (a<=b))):=by
 cases k<;>simp[Op.bin,nI,d9,tV,kS,gK,Ol]
def Qp:Op.bin .gtr [.int k a,.int k b]=B1 (.bool (decide (b<a))):=by
 cases k<;>simp[Op.bin,nI,d9,tV,kS,gK,LA]
def QN:Op.bin .geq [.int k a,.int k b]=B1 (.bool (decide (b<=a))):=by
 cases k<;>simp[Op.bin,nI,d9,tV,kS,gK,Ol]
def KD(k':P0):Op.wrap k [.int k' a]=B1 (.int k (aj k a)):=rfl
def Rk(q:Bool):Op.un .not [.bool q]=B1 (.bool (!q)):=rfl
def xl9(a b:List UInt8):AY a b=decide (a=b):=by
 by_cases h:a=b
 .subst h;simp[L4]
 .simp [L4,h]
def Kn(a b:List UInt8):Op.bin .eql [.str a,.str b]=B1 (.bool (decide (a=b))):=by
 simp only[Op.bin,nI,rI,xl9]
def KG(a b:List UInt8):Op.bin .neq [.str a,.str b]=B1 (.bool (decide (a≠b))):=by
 simp[Op.bin,nI,rI,xl9]
def Ff(s:List UInt8):Op.fA [.str s]=B1 (.int .i64 s.length):=by simp[Op.fA,eW,Ip]
def xm6(i:Nat)(l:List AV):Op.extract i [.tuple l]=l[i]?:=by simp[Op.extract,kA]
def Ek(f n:Nat)(l:List AV):Op.bt f n l=B1 (.fn (.func f) (l.take n) (l.drop n)):=rfl
def xm8(t:Nat)(v:AV):Op.dF t [v]=B1 (.iface t v):=rfl
def xf4(off b o:Nat):Op.fieldAddr off [.ptr b o]=B1 (.ptr b (o+off)):=rfl
def Dm(off:Nat)(l:List AV):Op.field off B5 [.agg l]=l[off]?:=by simp[Op.field,partAt,kA]
def LO(q:Bool):cT B4 (B1 (.bool q))=B1 q:=by cases q<;>rfl
def G7(q:Bool):cT B2 (B1 (.bool q))=B1 (!q):=by cases q<;>rfl
def Iz(b:Bool):cT b (B1 .undef)=B1 false:=rfl
end
structure Fr(W:Nat->Prop)(H H':ar):Prop where
 au:H.au<=H'.au
 ah:∀b,b<H.au -> ¬W b->H'.get b=H.get b
def Em:Nat->Prop:=λ _=>False
def On(b:Nat):Nat->Prop:=λ x=>x=b
theorem Fr.refl{W:Nat->Prop}(H:ar):Fr W H H:=⟨qm _,λ _ _ _=>rfl⟩
theorem Fr.trans{W W':Nat->Prop}{H H1 d:ar}(a:Fr W H H1)(b:Fr W' H1 d)(h:∀x,W' x->W x\/H.au<=x):Fr W H d :=
 ⟨xy a.au b.au,λ x f hw=>by
  rw[b.ah x (qn f a.au) (λ c=>(h x c).elim hw (λ q=>by omega)),a.ah x f hw]⟩
def Fr.em{W:Nat->Prop}{H H1 c:ar}(a:Fr W H H1)(b:Fr Em H1 c):Fr W H c:=a.trans b λ _ h=>h.elim
def Fr.mono{W W':Nat->Prop}{H H':ar}(a:Fr W H H')(h:∀x,x<H.au->W x->W' x):Fr W' H H':=⟨a.au,λ x c hw=>a.ah x c λ q=>hw (h x c q)⟩
def xx(H:ar)(o:bF):(H.alloc o).au=H.au+1:=rfl
def tI(H:ar)(b:Nat)(o:bF):(H.set b o).au=H.au:=rfl
def Iu(H:ar)(b:Nat):(H.kill b).au=H.au:=rfl
theorem Fr.alloc{W:Nat->Prop}{H H1:ar}(a:Fr W H H1)(o:bF):Fr W H (H1.alloc o) :=
 ⟨Nat.le_succ_of_le a.au,λ x c hw=>by rw[ar.bN,qy (by have:=a.au;omega),a.ah x c hw]⟩
theorem Fr.set{W:Nat->Prop}{H H1:ar}(a:Fr W H H1){b:Nat}(h:W b\/H.au<=b)(o:bF):Fr W H (H1.set b o) :=
 ⟨a.au,λ x c hw=>by rw[ar.aJ,qy (by rintro rfl;exact h.elim hw (λ q=>by omega)),a.ah x c hw]⟩
def Fr.kill{W:Nat->Prop}{H H1:ar}(a:Fr W H H1){b:Nat}(h:W b\/H.au<=b):Fr W H (H1.kill b) :=
 ⟨a.au,λ x c hw=>by rw[ar.rT,qy (by rintro rfl;exact h.elim hw (λ q=>by omega)),a.ah x c hw]⟩
def xc{H:ar}{b:Nat}{c:List AV}{e:Nat}{fz:Nat×Nat}{ow:Bool}(h:H.get b=B1 (.row c e fz ow)):H.bV b=B1 c:=by simp[ar.bV,h]
def Q6{H:ar}{b m s:Nat}{c:List AV}{e:Nat}{fz:Nat×Nat}(h:H.get b=B1 (.grown m s c e fz)):H.bV b=B1 c:=by simp[ar.bV,h]
def H_{H H':ar}{b:Nat}(h:H'.get b=H.get b):H'.bV b=H.bV b:=by simp[ar.bV,h]
def Fr.cells{W:Nat->Prop}{H H':ar}(a:Fr W H H'){b:Nat}(hb:b<H.au)(hw:¬W b):H'.bV b=H.bV b:=H_ (a.ah b hb hw)
def zb{H:ar}{b:Nat}{c:List AV}(h:H.bV b=B1 c)(o:Nat):Op.ae [.ptr b o] H=c[o]?:=by simp[Op.ae,ar.ae,h,kA]
def rU{H:ar}{b:Nat}{c:List AV}(h:H.bV b=B1 c){o n:Nat}(hn:o+n<=c.length):Op.aq n [.ptr b o] H=B1 (.agg ((c.drop o).take n)):=by
 simp only[Op.aq,ar.aq,h,qr,tj];rw[xg (by omega)];rfl
def Sl(H:ar)(size:Nat)(v:AV)(n:Nat)(cells:List AV):Prop :=
 cells.length=n*size/\match v with
 | .nils=>n=0
 | .slice b o m c=>m=n/\n<=c/\(n=0\/b<H.au /\ ∃all,H.bV b=B1 all/\fR all o (n*size)=B1 cells)
 | .gslice b i m s alt k=>k=n/\s=size/\i+n<=m/\(n=0\/b<H.au /\ ∃all,H.bV b=B1 all/\fR all (i*size) (n*size)=B1 cells)
 | .eslice b=>n=0/\b<H.au
 |_=>False
def aF:AV->Nat
 | .slice b _ _ _=>b
 | .gslice b _ _ _ _ _=>b
 | .eslice b=>b
 |_=>0
def cZ(size:Nat):AV->Nat->Nat
 | .slice _ o _ _,j=>o+j*size
 | .gslice _ i _ s _ _,j=>i*s+j*s
 |_,_=>0
def Sl.eJ{H:ar}{size:Nat}{v:AV}{n:Nat}{cells:List AV}(h:Sl H size v n cells):eJ v=B1 n:=by
 obtain⟨_,h⟩:=h;split at h
 .subst h;rfl
 .obtain ⟨rfl,_⟩:=h;rfl
 .obtain ⟨rfl,_⟩:=h;rfl
 .obtain ⟨rfl,_⟩:=h;rfl
 .exact h.elim
def Sl.len{H:ar}{size:Nat}{v:AV}{n:Nat}{cells:List AV}(h:Sl H size v n cells):Op.ct [v]=B1 (.int .i64 n):=by
 obtain⟨_,h⟩:=h;split at h
 .subst h;rfl
 .obtain ⟨rfl,_⟩:=h;rfl
 .obtain ⟨rfl,_⟩:=h;rfl
 .obtain ⟨rfl,_⟩:=h;rfl
 .exact h.elim
def KW{z:Int}{i n:Nat}(c:z=i)(h:i<n):within z n=B1 i:=by
 subst c;show cond (PE i n) (B1 i) B5=B1 i;have:PE i n=true:=by simpa[yN]using h
 rw[this];rfl
def Gc{i j:Nat}(h:i≠j):J2 i j=false:=by
 cases q:J2 i j with
 |false=>rfl
 |true=>exact(h (Ln q)).elim
def AZ{i n:Nat}(h:i<n):PE i n=true:=by simpa[yN]using h
def ye{i n:Nat}(h:i<=n):Oc i n=true:=by simpa using h
def Sl.idx{H:ar}{size:Nat}{v:AV}{n:Nat}{cells:List AV}(h:Sl H size v n cells){i:Nat}(d:i<n){z:Int}(g:z=i)(k:P0) :
 Op.aQ size [v,.int k z]=B1 (.ptr (aF v) (cZ size v i)):=by
 obtain⟨hl,h⟩:=h;split at h
 .omega
 .rename_i b o m c;obtain⟨rfl,p,h⟩:=h;have f:=AZ d;simp[Op.aQ,Am.eJ,KW g d,elemAt,f,aF,cZ]
 .rename_i b j m s alt k;obtain⟨rfl,rfl,hm,h⟩:=h;have f:=AZ d;have l:=AZ (show j+i<m by omega);simp[Op.aQ,Am.eJ,KW g d,elemAt,f,l,aF,cZ]
 .omega
 .exact h.elim
def OC{α:Type}{l r:List α}{o n:Nat}(h:fR l o n=B1 r):n<=l.length-o/\r=(l.drop o).take n:=by
 rw[tj]at h;split at h
 .rename_i hn;injection h with h;exact⟨hn,h.symm⟩
 .cases h
def Sl.at{H:ar}{size:Nat}{v:AV}{n:Nat}{cells:List AV}(g:0<size)(h:Sl H size v n cells){i:Nat}(p:i<n) :
 aF v<H.au /\ ∃all,H.bV (aF v)=B1 all/\cZ size v i+size<=all.length /\ ∀j,j<size->all[cZ size v i+j]? = cells[i*size+j]?:=by
 obtain⟨hl,h⟩:=h;have t:0<n*size:=Nat.mul_pos (by omega) g;have u:i*size+size<=n*size:=by rw[<-vr];exact ya _ p
 split at h
 .omega
 .rename_i b o m c;obtain⟨rfl,w,h⟩:=h;rcases h with h|⟨hb,all,d,f⟩
  .omega
  obtain⟨l,rfl⟩:=OC f;refine⟨hb,all,d,?_,λ j r=>?_⟩
  .simp only[cZ];simp at hl;omega
  .simp only[cZ];rw[Jl,xg (by omega),HW];congr 1;omega
 .rename_i b q m s alt k;obtain⟨rfl,rfl,hm,h⟩:=h;rcases h with h|⟨hb,all,d,f⟩
  .omega
  obtain⟨l,rfl⟩:=OC f;refine⟨hb,all,d,?_,λ j r=>?_⟩
  .simp only[cZ];simp at hl;omega
  .simp only[cZ];rw[Jl,xg (by omega),HW];congr 1;omega
 .omega
 .exact h.elim
def Sl.fr{H H':ar}{W:Nat->Prop}{size:Nat}{v:AV}{n:Nat}{cells:List AV}(h:Sl H size v n cells)(f:Fr W H H')(hw:n=0 \/ ¬W (aF v)):Sl H' size v n cells:=by
 obtain⟨hl,h⟩:=h;refine⟨hl,?_⟩;split at h
 .exact h
 .obtain ⟨d,g,c⟩:=h;refine⟨d,g,?_⟩;rcases c with c|⟨hb,all,c,i⟩
  .exact .inl c
  .rcases hw with hw|hw
   .exact .inl hw
   .exact .inr ⟨qn hb f.au,all,by rw[f.cells hb hw];exact c,i⟩
 .obtain ⟨d,g,j,c⟩:=h;refine⟨d,g,j,?_⟩;rcases c with c|⟨hb,all,c,i⟩
  .exact .inl c
  .rcases hw with hw|hw
   .exact .inl hw
   .exact .inr ⟨qn hb f.au,all,by rw[f.cells hb hw];exact c,i⟩
 .exact ⟨h.1,qn h.2 f.au⟩
 .exact h.elim
def Sl.em{H H':ar}{size:Nat}{v:AV}{n:Nat}{cells:List AV}(h:Sl H size v n cells)(f:Fr Em H H'):Sl H' size v n cells:=h.fr f (.inr id)
def Sl.first{H:ar}{size:Nat}{v:AV}{n:Nat}{cells:List AV}(h:Sl H size v n cells):firstCells H size n v=B1 cells:=by
 obtain⟨hl,h⟩:=h;split at h
 .subst h;simp at hl;subst hl;rfl
 .rename_i b o m c;obtain⟨rfl,j,h⟩:=h;rcases h with rfl|⟨hb,all,d,f⟩
  .simp at hl;subst hl;rfl
  .by_cases hn:m=0
   .subst hn;simp at hl;subst hl;rfl
   .have:J2 m 0=false:=Gc hn;simp only[firstCells,this,zn,ar.aq,d,qr,f]
 .rename_i b i m s alt k;obtain⟨rfl,rfl,hm,h⟩:=h;rcases h with rfl|⟨hb,all,d,f⟩
  .simp at hl;subst hl;rfl
  .by_cases hn:k=0
   .subst hn;simp at hl;subst hl;rfl
   .have:J2 k 0=false:=Gc hn;have g:=AZ (show i<m by omega);simp[firstCells,this,g,ar.aq,d,f]
 .obtain ⟨rfl,_⟩:=h;simp at hl;subst hl;rfl
 .exact h.elim
def bX{α:Type}(enc:α->List AV)(size:Nat)(H:ar)(v:AV)(xs:List α):Prop:=Sl H size v xs.length (xs.flatMap enc)
section
variable{α:Type}{enc:α->List AV}{size:Nat}{H H':ar}{v:AV}{xs:List α}
def bX.len(h:bX enc size H v xs):Op.ct [v]=B1 (.int .i64 xs.length):=Sl.len h
def bX.fr{W:Nat->Prop}(h:bX enc size H v xs)(f:Fr W H H')(hw:¬W (aF v)):bX enc size H' v xs:=Sl.fr h f (.inr hw)
def bX.em(h:bX enc size H v xs)(f:Fr Em H H'):bX enc size H' v xs:=Sl.em h f
theorem Kf(hs:∀x,(enc x).length=size):∀(xs:List α){i:Nat}{x:α},xs[i]? = B1 x -> ∀{j:Nat},j<size->(xs.flatMap enc)[i*size+j]? = (enc x)[j]?
 |[],i,x,h,j,hj=>by simp at h
 |y::ys,0,x,h,j,hj=>by
  simp at h;subst h;rw[jz,yw (by rw[hs];omega)];simp
 |y::ys,i+1,x,h,j,hj=>by
  simp only[jc]at h;rw[jz,jd (by rw[hs,vr];omega),hs,<-Kf hs ys h hj];congr 1;rw[vr];omega
def L3{i:Nat}{x:α}(h:xs[i]? = B1 x):i<xs.length:=(qo.1 h).1
def bX.idx(h:bX enc size H v xs){i:Nat}{x:α}(c:xs[i]? = B1 x){z:Int}(d:z=i)(k:P0):Op.aQ size [v,.int k z]=B1 (.ptr (aF v) (cZ size v i)) :=
 Sl.idx h (L3 c) d k
def bX.ae(hs:∀x,(enc x).length=size)(h:bX enc size H v xs){i:Nat}{x:α}(d:xs[i]? = B1 x){j:Nat}(c:j<size):Op.ae [.ptr (aF v) (cZ size v i+j)] H=(enc x)[j]?:=by
 obtain⟨_,all,f,l,g⟩:=Sl.at (by omega) h (L3 d);rw[zb f,g j c,Kf hs xs d c]
def bX.jO(hs:∀x,(enc x).length=size)(h:bX enc size H v xs){i:Nat}{x:α}(d:xs[i]? = B1 x)(c:0<size):Op.ae [.ptr (aF v) (cZ size v i)] H=(enc x)[0]?:=h.ae hs d c
def bX.aq(hs:∀x,(enc x).length=size)(d:0<size)(h:bX enc size H v xs){i:Nat}{x:α}(f:xs[i]? = B1 x):Op.aq size [.ptr (aF v) (cZ size v i)] H=B1 (.agg (enc x)):=by
 obtain⟨_,all,g,l,m⟩:=Sl.at d h (L3 f);rw[rU g l];congr 2;refine ym λ j=>?_
 by_cases c:j<size
 .rw [Jl,xg c,HW,m j c,Kf hs xs f c]
 .rw [js (by simp;omega),js (by rw[hs];omega)]
end
def Own(H:ar)(e size:Nat)(v:AV)(n:Nat)(cells:List AV):Prop :=
 cells.length=n*size/\(n=0/\(v=.nils \/ ∃b,v=.slice b 0 0 0/\b<H.au) \/ ∃b,v=.gslice b 0 n size 0 n/\b<H.au/\H.get b=B1 (.grown n size cells e (0,0)))
def aM(v:AV):Nat->Prop:=λ x=>v≠ .nils/\x=aF v
def Own.nil(H:ar)(e size:Nat):Own H e size .nils 0 []:=⟨by simp,.inl ⟨rfl,.inl rfl⟩⟩
def Own.sl{H:ar}{e size:Nat}{v:AV}{n:Nat}{cells:List AV}(h:Own H e size v n cells):Sl H size v n cells:=by
 obtain⟨hl,⟨rfl,rfl|⟨b,rfl,hb⟩⟩|⟨b,rfl,c,d⟩⟩:=h
 .exact ⟨hl,rfl⟩
 .exact ⟨hl,rfl,qm _,.inl rfl⟩
 .refine ⟨hl,rfl,rfl,by omega,.inr ⟨c,cells,Q6 d,?_⟩⟩;rw[tj,xg (by simp[hl])];simp[<-hl]
def Own.fr{H H':ar}{W:Nat->Prop}{e size:Nat}{v:AV}{n:Nat}{cells:List AV}(h:Own H e size v n cells)(f:Fr W H H')(hw:∀x,aM v x -> ¬W x):Own H' e size v n cells:=by
 obtain⟨hl,⟨c,h|⟨b,rfl,hb⟩⟩|⟨b,rfl,d,g⟩⟩:=h
 .exact ⟨hl,.inl ⟨c,.inl h⟩⟩
 .exact ⟨hl,.inl ⟨c,.inr ⟨b,rfl,qn hb f.au⟩⟩⟩
 .exact ⟨hl,.inr ⟨b,rfl,qn d f.au,by rw[f.ah b d (hw b ⟨by simp,rfl⟩)];exact g⟩⟩
def Own.em{H H':ar}{e size:Nat}{v:AV}{n:Nat}{cells:List AV}(h:Own H e size v n cells)(f:Fr Em H H'):Own H' e size v n cells:=h.fr f λ _ _ h=>h
def Own.lt{H:ar}{e size:Nat}{v:AV}{n:Nat}{cells:List AV}(h:Own H e size v n cells):∀x,aM v x->x<H.au:=by
 rintro x ⟨c,rfl⟩;obtain⟨hl,⟨d,h|⟨b,rfl,hb⟩⟩|⟨b,rfl,c,f⟩⟩:=h
 .exact (c h).elim
 .exact hb
 .exact c
def Sl.one{H:ar}{size:Nat}{v:AV}{n:Nat}{cells:List AV}(h:Sl H size v n cells):aB v=true:=by
 obtain⟨_,h⟩:=h;cases v<;>first|rfl|exact h.elim
def Tr{n bytes:Nat}(c:n*bytes<=140737488355328)(d:n<=140737488355328):fits n bytes=true:=by
 simp[fits,c,d]
theorem _H{H:ar}{e size bytes:Nat}{v:AV}{n:Nat}{cells:List AV}(h:Own H e size v n cells){x:AV}{k:Nat}{new:List AV}(p:Sl H size x k new)(g:aN new=B4)(hs:0<size)
 (u:(n+k)*bytes<=140737488355328) (l:n+k<=140737488355328) {K:Bool->AV->ar->Prop} {m:Bool}
 (hk:∀q H',Own H' e size q (n+k) (cells++new)->Fr (aM v) H H'->(∀b,aM q b->aM v b\/H.au<=b)->K aI q H'):tO m (Op.append e size bytes [v,x] H) K:=by
 have c:=Tr u l;have hlen:new.length=k*size:=p.1;have f:=AZ hs;have e1:∀n,J2 n n=true:=λ n=>by simp
 simp only[Op.append,p.eJ,p.first,qr,g,xu];obtain⟨hl,⟨rfl,rfl|⟨b,rfl,hb⟩⟩|⟨b,rfl,s,r⟩⟩:=h
 .simp only[As,zy]at hl;subst hl
  by_cases d:k=0
  .subst d;simp at hlen;subst hlen;exact hk .nils H (Own.nil H e size) (Fr.refl H) λ b hb=>.inl hb
  .have i:J2 k 0=false:=Gc d;simp only[cN,i,zn,yf]at c⊢;simp only[c,f,z7,xu,dD,tO];refine hk _ _ ⟨by simpa using hlen,.inr ⟨H.au,by simp,by rw[xx];omega,?_⟩⟩ ((Fr.refl H).alloc _) λ b hb=>.inr (by rw[hb.2];exact qm _);rw[ar.bN,xg rfl];simp
 .simp only[As,zy]at hl;subst hl
  by_cases d:k=0
  .subst d;simp at hlen;subst hlen;simp only[cN,vq,ye (qm 0),xu,e1,tO];exact hk _ H ⟨by simp,.inl ⟨rfl,.inr ⟨b,rfl,hb⟩⟩⟩ (Fr.refl H) λ b hb=>.inl hb
  .have i:J2 k 0=false:=Gc d;have j:Oc k 0=false:=by cases o:Oc k 0 with|false=>rfl|true=>rw[ue]at o;omega
   have t:firstCells H size 0 (.slice b 0 0 0)=B1 []:=rfl;simp only[cN,yf,j,zn]at c⊢;simp only[c,ye (xz k),f,z7,xu,t,qr,pD,jp,dD,tO];refine hk _ _ ⟨by simpa using hlen,.inr ⟨H.au,by simp,by rw[xx];omega,?_⟩⟩ ((Fr.refl H).alloc _) λ b hb=>.inr (by rw[hb.2];exact qm _);rw[ar.bN,xg rfl];simp
 .by_cases d:k=0
  .subst d;simp at hlen;subst hlen;simp only[cN,J2,xu,yf,ye (qm n),tO];refine hk _ _ ⟨by simpa using hl,.inr ⟨b,rfl,s,by simpa using r⟩⟩ (Fr.refl H) λ b hb=>.inl hb
  .have i:J2 k 0=false:=Gc d;have j:Oc (0+n+k) n=false:=by cases o:Oc (0+n+k) n with|false=>rfl|true=>rw[ue]at o;omega
   simp only[cN,i,zn,e1,yf,ye (qm n),f,z7,xu]at j⊢;simp only[j,zn,c,xu,r,e1,z7,J2,ye (xz (n*size)),dD,tO];refine hk _ _ ⟨by simp[hl,hlen,yz],.inr ⟨H.au,by simp[Iu],by rw[xx,Iu];omega,?_⟩⟩ (((Fr.refl H).kill (.inl ⟨by simp,rfl⟩)).alloc _) λ b hb=>.inr (by rw[hb.2];exact qm _);rw[ar.bN,Iu,xg rfl,pD]
def UP(e n:Nat)(zero:List AV)(v:AV)(d:zero.length=n)(c:v.cells.length=n):Op.buildSlice e 1 zero [(0,n)] [v]=B1 (.row v.cells e (0,0) B4,Op.sliceTo 1 1):=by
 have e1:∀n,J2 n n=true:=λ n=>by simp
 simp only[Op.buildSlice,fK,pD,zm,jA,Ip,c,e1,xu,AH,yf,d,xg (qm n),yx,jp,qr];rw[jt (by omega)];simp
def B9{H:ar}{size e:Nat}{cells:List AV}(c:cells.length=size):Sl (H.alloc (.row cells e (0,0) B4)) size (Op.sliceTo 1 1 H.au) 1 cells:=by
 refine⟨by simp[c],rfl,qm 1,.inr ⟨by rw[xx];omega,cells,xc (by rw[ar.bN,xg rfl]),?_⟩⟩;rw[tj,xg (by simp[c])];simp[<-c]
def HI{H:ar}{e size bytes:Nat}{v:AV}{n:Nat}{cells:List AV}(h:Own H e size v n cells){zero:List AV}{x:AV}(t:zero.length=size)(l:x.cells.length=size)(d:aN x.cells=B4)(hs:0<size)
 (s:(n+1)*bytes<=140737488355328) (i:n+1<=140737488355328) {K:bF->(Nat->AV)->Bool->AV->ar->Prop} {m:Bool}
 (hk:∀f H',Own H' e size f (n+1) (cells++x.cells)->Fr (aM v) H H'->(∀b,aM f b->aM v b\/H.au<=b)->K (.row x.cells e (0,0) B4) (Op.sliceTo 1 1) aI f H') :
 tO m (Op.buildSlice e 1 zero [(0,size)] [x]) λ g o mk=>tO g (Op.append e size bytes [v,mk H.au] (H.alloc o)) (K o mk):=by
 rw[UP e size zero x t l];have c:Fr Em H (H.alloc (.row x.cells e (0,0) B4)):=(Fr.refl H).alloc _;refine tO.intro rfl ?_;refine _H (m:=aI) (h.em c) (B9 l) d hs s i λ f H' p j r=>hk f H' p ?_ λ b hb=>?_
 .exact ⟨xy c.au j.au,λ b hb hw=>by rw[j.ah b (qn hb c.au) hw,c.ah b hb (λ q=>q)]⟩
 .exact (r b hb).imp id λ q=>xy c.au q
theorem LD.intro{W:St->cO->Prop}{ah:Option (List Nat)}{st:St}{Q:cO}(I:Nat->St->Prop)(n:Nat)(d:I n st)
 (h:∀n st,I n st->W (kX ah st) λ e c=>match e with
  | .normal=>∃m,m<n/\I m c
  |e=>Q e c):LD W ah st Q:=⟨I,⟨n,d⟩,h⟩
end Go.Am
namespace Go.Am
def GR(H:ar)(tm:T AV)(t:Nat)(rs:List ep):eh H tm (.tmp t::rs)=(tm.get t).bind λ v=>(eh H tm rs).bind λ vs=>B1 (v::vs):=rfl
def xnn(H:ar)(tm:T AV)(t:Nat)(rs:List ep):eh H tm (.kU t::rs)=(((tm.get t).bind λ v=>Op.ae [v] H)).bind λ v=>(eh H tm rs).bind λ vs=>B1 (v::vs):=by
 simp only[eh,NR];congr 1;cases tm.get t with
 |none=>rfl
 |some v=>cases v<;>rfl
def xno(H:ar)(tm:T AV)(n t:Nat)(rs:List ep):eh H tm (.cS n t::rs)=(((tm.get t).bind λ v=>Op.aq n [v] H)).bind λ v=>(eh H tm rs).bind λ vs=>B1 (v::vs):=by
 simp only[eh,NR];congr 1;cases tm.get t with
 |none=>rfl
 |some v=>cases v<;>rfl
def Y9(v:AV):jG [v]=v:=rfl
def ZI:jG []=.tuple []:=rfl
def Vf(a b:AV)(l:List AV):jG (a::b::l)=.tuple (a::b::l):=rfl
def Rc(b:Nat):Op.ptrTo b=.ptr b 0:=rfl
def xg7(t:aR)(x y:AV)(H:ar)(q:Bool)(h:bm t x y=B1 q):Op.eq (.agg t) B4 [x,y] H=B1 (.bool (!q)):=by simp[Op.eq,Ka,h]
def zY(t:aR)(x y:AV)(H:ar)(q:Bool)(h:bm t x y=B1 q):Op.eq (.agg t) B2 [x,y] H=B1 (.bool q):=by simp[Op.eq,Ka,h]
structure fg where
 kind:Int
 time:Int
 core:Int
 block:Int
 WK:Int
 lane:Int
 addr:Int
 value:Int
 code:Int
deriving DecidableEq
def fg.enc(x:fg):List AV:=[.int .i64 x.kind,.int .i64 x.time,.int .i64 x.core,.int .i64 x.block,.int .i64 x.WK,.int .i64 x.lane,.int .i64 x.addr,.int .u64 x.value,.int .i64 x.code]
def fg.len(x:fg):x.enc.length=9:=rfl
def VM(a b:Int):uG a b=decide (a=b):=by rw[EE];rfl
end Go.Am
namespace Go.Am
theorem T.ti{α:Type}(v c:Option α):∀(p:List Bool)(t:T α),T.fO v p (T.fO c p t)=T.fO v p t
 |[],t=>rfl
 |b::p,t=>by cases b<;>simp[T.fO,T.l,T.r,T.val,T.ti v c p]
def Kl(H:ar)(o o':bF):(H.alloc o).set H.au o'=H.alloc o':=by
 grind [ar.alloc,ar.set,T.set,T.put,T.ti]
def xp(H:ar)(o:bF):(H.alloc o).get H.au=B1 o:=by rw[ar.bN,xg rfl]
def cq(H:ar)(o:bF):∃Z,Z=H.alloc o/\Fr Em H Z/\Z.au=H.au+1/\Z.get H.au=B1 o:=⟨_,rfl,(Fr.refl H).alloc _,xx ..,xp ..⟩
def yT{H:ar}{b:Nat}(h:b<H.au)(o:bF):(H.alloc o).get b=H.get b:=by rw[ar.bN,qy (by omega)]
theorem xe(H:ar)(b:Nat)(o:bF):(H.set b o).get b=B1 o:=by rw[ar.aJ,xg rfl]
def kw{H:ar}{b c:Nat}(h:b≠c)(o:bF):(H.set b o).get c=H.get c:=by rw[ar.aJ,qy h]
def wO{H:ar}{b:Nat}{c:List AV}{e:Nat}(h:H.get b=B1 (.row c e (0,0) B4)){o n:Nat}{v:AV}(f:v.cells.length=n)(hn:o+n<=c.length)(d:aN v.cells=B4) :
 Op.store n [.ptr b o,v] H=B1 (.undef,H.set b (.row (c.take o++v.cells++c.drop (o+n)) e (0,0) B4)):=by
 have e1:∀n,J2 n n=true:=λ n=>by simp
 simp only[Op.store,Ip,f,e1,xu,ar.store,d,h];have:dB (0,0) o n=true:=by simp[dB]
 simp_all[AH]
def q6x{H:ar}{b m s:Nat}{c:List AV}{e:Nat}(h:H.get b=B1 (.grown m s c e (0,0))){o n:Nat}{v:AV}(f:v.cells.length=n)(hn:o+n<=c.length)(d:aN v.cells=B4) :
 Op.store n [.ptr b o,v] H=B1 (.undef,H.set b (.grown m s (c.take o++v.cells++c.drop (o+n)) e (0,0))):=by
 have e1:∀n,J2 n n=true:=λ n=>by simp
 simp only[Op.store,Ip,f,e1,xu,ar.store,d,h];have:dB (0,0) o n=true:=by simp[dB]
 simp_all[AH]
def xc9(H:ar)(c:List AV)(e:Nat)(fz:Nat×Nat)(ow:Bool)(n:Nat)(hn:c.length=n):Op.aq n [.ptr H.au 0] (H.alloc (.row c e fz ow))=B1 (.agg c):=by
 rw[rU (xc (xp H _)) (by omega)];simp[<-hn]
def aT{α:Type}(enc:α->List AV)(e size:Nat)(H:ar)(v:AV)(xs:List α):Prop:=Own H e size v xs.length (xs.flatMap enc)
structure AN{α:Type}(enc:α->List AV)(e size:Nat)(H0 H:ar)(v:AV)(xs:List α):Prop where
 own:aT enc e size H v xs
 fr:Fr Em H0 H
 fresh:∀b,aM v b->H0.au<=b
section
variable{α:Type}{enc:α->List AV}{e size:Nat}{H0 H H':ar}{v:AV}{xs:List α}
def bX.one(h:bX enc size H v xs):aB v=true:=Sl.one h
def AN.nil(H:ar):AN enc e size H H .nils ([]:List α):=⟨Own.nil H e size,Fr.refl H,λ b h=>(h.1 rfl).elim⟩
def AN.sl(h:AN enc e size H0 H v xs):bX enc size H v xs:=Own.sl h.own
def aT.sl(h:aT enc e size H v xs):bX enc size H v xs:=Own.sl h
def AN.em(h:AN enc e size H0 H v xs)(f:Fr Em H H'):AN enc e size H0 H' v xs:=⟨Own.em h.own f,h.fr.em f,h.fresh⟩
def AN.len(h:AN enc e size H0 H v xs):Op.ct [v]=B1 (.int .i64 xs.length):=h.sl.len
def AN.step(h:AN enc e size H0 H v xs){c:AV}{ys:List α}(d:aT enc e size H' c ys)(f:Fr (aM v) H H')(g:∀b,aM c b->aM v b\/H.au<=b):AN enc e size H0 H' c ys :=
 ⟨d,h.fr.trans f λ x i=>.inr (h.fresh x i),λ b hb=>(g b hb).elim (h.fresh b) λ q=>xy h.fr.au q⟩
def Uk{f:α->List AV}(hs:∀x,(f x).length=size):∀(xs:List α){i:Nat}{x:α},xs[i]? = B1 x -> ∀(y:α),(xs.set i y).flatMap f=(xs.flatMap f).take (i*size)++f y++(xs.flatMap f).drop (i*size+size)
 |[],i,x,h,y=>by grind
 |z::zs,0,x,h,y=>by
  grind
 |z::zs,i+1,x,h,y=>by
  simp only[jc]at h;have e1:(f z++zs.flatMap f).take ((i+1)*size)=f z++(zs.flatMap f).take (i*size):=by
   grind [vr]
  have e2:(f z++zs.flatMap f).drop ((i+1)*size+size)=(zs.flatMap f).drop (i*size+size):=by
   rw[show(i+1)*size+size=(f z).length+(i*size+size)from by rw[hs,vr];omega,wh]
  rw[List.set_cons_succ,jz,jz,Uk hs zs h y,e1,e2]
  grind
theorem G6(hs:∀x,(enc x).length=size)(l:List α):(l.flatMap enc).length=l.length*size:=by
 induction l with
 |nil=>simp
 |cons a l ih=>grind
def _x{L E:List AV}{c j:Nat}{u:AV}(d:E.length=size)(f:j<size)(hk:c+size<=L.length)(h:∀r,r<size->L[c+r]? = E[r]?) :
 L.take c++E.set j u++L.drop (c+size)=L.set (c+j) u:=by
 refine ym λ k=>?_
 grind
def aT.AG(hs:∀x,(enc x).length=size)(h:aT enc e size H v xs){i:Nat}{x y:α}(d:xs[i]? = B1 x){j:Nat}(p:j<size){u:AV}(hu:aB u=B4)(q:enc y=(enc x).set j u) :
 ∃H',Op.store 1 [.ptr (aF v) (cZ size v i+j),u] H=B1 (.undef,H')/\aT enc e size H' v (xs.set i y)/\Fr (aM v) H H':=by
 obtain⟨hl,h|⟨b,rfl,f,g⟩⟩:=h
 .grind
 .have m:=L3 d;have hb:(i+1)*size<=xs.length*size:=ya _ m;rw[vr]at hb;have l:u.cells=[u]:=by cases u<;>first|rfl|cases hu
  have c:=q6x g (o:=i*size+j) (n:=1) (v:=u) (by grind) (by omega) (by grind [vg]);have ho:cZ size (AV.gslice b 0 xs.length size 0 xs.length) i=i*size:=by simp[cZ]
  rw[ho];refine⟨_,c,⟨?_,.inr ⟨b,?_,f,?_⟩⟩,(Fr.refl H).set (.inl ⟨by simp,rfl⟩) _⟩
  .grind [G6]
  .grind
  .rw [xw,xe,Uk hs xs d,q,l,_x (L:=xs.flatMap enc) (E:=enc x) (hs x) p (by omega) (λ r hr=>Kf hs xs d hr),List.set_eq_take_append_cons_drop,xg (by omega)];simp
end
abbrev OR(c:List AV)(e:Nat):bF:=.row c e (0,0) B4
end Go.Am
namespace Go.Am
def tP{k mx d:Nat}{z:Int}(c:z=k)(h:k<=mx)(kk:P0):bound (B1 (.int kk z)) d mx=B1 k:=by
 subst c;show cond (Oc k mx) (B1 k) B5=B1 k;rw[ye h];rfl
def Sl.from{H:ar}{size:Nat}{v:AV}{n:Nat}{cells:List AV}(h:Sl H size v n cells){k:Nat}(hk:k<=n){z:Int}(j:z=k)(kk:P0) :
 ∃l,Op.aA size [B1 0,B5,B5] [v,.int kk z]=B1 l/\Sl H size l (n-k) (cells.drop (k*size))/\(l=.nils\/aF l=aF v):=by
 obtain⟨hl,h⟩:=h;have hlen:(cells.drop (k*size)).length=(n-k)*size:=by grind [Nat.sub_mul]
 have x:k*size<=n*size:=ya _ hk;have u:(n-k)*size=n*size-k*size:=Nat.sub_mul n k size;split at h
 .subst h;have:k=0:=by omega
  subst this;refine⟨.nils,?_,⟨hlen,rfl⟩,.inl rfl⟩;have g:bound B5 0 0=B1 0:=rfl;simp[Op.aA,arg,kA,df,g,tP j (qm 0)]
 .rename_i b o m c;obtain⟨rfl,C,h⟩:=h;have f:∀d m,bound B5 d m=B1 d:=λ _ _=>rfl;refine⟨.slice b (cond (J2 c k) o (o+k*size)) (m-k) (c-k),by simp[Op.aA,arg,kA,df,f,tP j hk],⟨hlen,rfl,by omega,?_⟩,.inr rfl⟩;rcases h with h|⟨hb,all,p,r⟩
  .omega
  .by_cases he:c=k
   .omega
   .right;obtain⟨w,rfl⟩:=OC r;refine⟨hb,all,p,?_⟩;rw[Gc he,zn,tj,xg (by omega),List.drop_take,Gk]
    grind
 .rename_i b i m s alt q;obtain⟨rfl,rfl,hm,h⟩:=h;have e1:∀n,J2 n n=true:=λ n=>by simp
  have f:∀d m,bound B5 d m=B1 d:=λ _ _=>rfl;have y:=ye (show q<=m-i by omega);have t:=ye (show i<=m by omega);refine⟨.gslice b (i+k) m s (cond (J2 k 0) alt (i*s)) (q-k),by simp only[Op.aA,arg,kA,zo,qr,df,f,tP j hk,e1,t,y,z7,xu],⟨hlen,rfl,rfl,by omega,?_⟩,.inr rfl⟩;rcases h with h|⟨hb,all,p,r⟩
  .omega
  .right;obtain⟨w,rfl⟩:=OC r;refine⟨hb,all,p,?_⟩;rw[tj,xg (by rw[yz];omega),List.drop_take,Gk,yz]
   grind
 .rename_i b;obtain⟨rfl,hb⟩:=h;have:k=0:=by omega
  subst this;have g:bound B5 0 0=B1 0:=rfl;refine⟨.eslice b,?_,⟨hlen,rfl,hb⟩,.inr rfl⟩;simp[Op.aA,arg,kA,df,g,tP j (qm 0)]
 grind
def Sl.upto{H:ar}{size:Nat}{v:AV}{n:Nat}{cells:List AV}(h:Sl H size v n cells){k:Nat}(hk:k<=n){z:Int}(l:z=k)(kk:P0) :
 ∃p,Op.aA size [B5,B1 0,B5] [v,.int kk z]=B1 p/\Sl H size p k (cells.take (k*size))/\(p=.nils\/aF p=aF v):=by
 obtain⟨hl,h⟩:=h;have j:k*size<=n*size:=ya _ hk;have hlen:(cells.take (k*size)).length=k*size:=by grind
 split at h
 .subst h;have:k=0:=by omega
  subst this;refine⟨.nils,?_,⟨hlen,rfl⟩,.inl rfl⟩;have g:bound B5 0 0=B1 0:=rfl;simp[Op.aA,arg,kA,df,g,tP l (qm 0)]
 .rename_i b o m c;obtain⟨rfl,C,h⟩:=h;have u:∀h,bound B5 0 h=B1 0:=λ h=>rfl;have f:∀d m,bound B5 d m=B1 d:=λ _ _=>rfl;refine⟨.slice b (cond (J2 c 0) o (o+0*size)) (k-0) (c-0),by simp only[Op.aA,arg,kA,zo,qr,df,tP l (show k<=c by omega),u,f],⟨hlen,by omega,by omega,?_⟩,.inr rfl⟩;rcases h with h|⟨hb,all,r,t⟩
  .omega
  .right;obtain⟨x,rfl⟩:=OC t;refine⟨hb,all,r,?_⟩;have:cond (J2 c 0) o (o+0*size)=o:=by grind
   rw[this,tj,xg (by omega),List.take_take,Nat.min_eq_left j]
 .rename_i b i m s alt q;obtain⟨rfl,rfl,hm,h⟩:=h;have e1:∀n,J2 n n=true:=λ n=>by simp
  have f:∀d m,bound B5 d m=B1 d:=λ _ _=>rfl;have y:=ye (show k<=m-i by omega);have w:=ye (show i<=m by omega);refine⟨.gslice b (i+0) m s (cond (J2 0 0) alt (i*s)) (k-0),by simp only[Op.aA,arg,kA,zo,qr,df,f,tP l (show k<=m-i by omega),e1,w,y,z7,xu],⟨hlen,by omega,rfl,by omega,?_⟩,.inr rfl⟩;rcases h with h|⟨hb,all,r,t⟩
  .omega
  .right;obtain⟨x,rfl⟩:=OC t;refine⟨hb,all,r,?_⟩;rw[vq,tj,xg (by omega),List.take_take,Nat.min_eq_left j]
 .rename_i b;obtain⟨rfl,hb⟩:=h;have:k=0:=by omega
  subst this;have g:bound B5 0 0=B1 0:=rfl;refine⟨.eslice b,?_,⟨hlen,rfl,hb⟩,.inr rfl⟩;simp[Op.aA,arg,kA,df,g,tP l (qm 0)]
 grind
section
variable{α:Type}{enc:α->List AV}{size:Nat}{H H':ar}{v:AV}{xs:List α}
theorem mn(hs:∀x,(enc x).length=size):∀(xs:List α)(k:Nat),(xs.flatMap enc).drop (k*size)=(xs.drop k).flatMap enc
 |[],k=>by simp
 |x::xs,0=>by simp
 |x::xs,k+1=>by
  rw[jz,show(k+1)*size=(enc x).length+k*size from by rw[hs,vr];omega,wh,mn hs xs k];rfl
theorem qzo(hs:∀x,(enc x).length=size):∀(xs:List α)(k:Nat),(xs.flatMap enc).take (k*size)=(xs.take k).flatMap enc
 |[],k=>by simp
 |x::xs,0=>by simp
 |x::xs,k+1=>by
  rw[jz,show(k+1)*size=(enc x).length+k*size from by rw[hs,vr];omega,List.take_length_add_append,qzo hs xs k];rfl
def bX.from(hs:∀x,(enc x).length=size)(h:bX enc size H v xs){k:Nat}(hk:k<=xs.length){z:Int}(d:z=k)(kk:P0) :
 ∃c,Op.aA size [B1 0,B5,B5] [v,.int kk z]=B1 c/\bX enc size H c (xs.drop k)/\(c=.nils\/aF c=aF v):=by
 obtain⟨c,f,g,i⟩:=Sl.from h hk d kk
 grind [bX,mn]
def bX.upto(hs:∀x,(enc x).length=size)(h:bX enc size H v xs){k:Nat}(hk:k<=xs.length){z:Int}(d:z=k)(kk:P0) :
 ∃c,Op.aA size [B5,B1 0,B5] [v,.int kk z]=B1 c/\bX enc size H c (xs.take k)/\(c=.nils\/aF c=aF v):=by
 obtain⟨c,f,g,i⟩:=Sl.upto h hk d kk
 grind [bX,qzo]
def gW(enc:α->List AV)(e size:Nat)(H:ar)(v:AV)(xs:List α):Prop:=∃b,v=.slice b 0 xs.length xs.length/\b<H.au/\H.get b=B1 (.row (xs.flatMap enc) e (0,0) B4)
def gW.sl{e:Nat}(hs:∀x,(enc x).length=size)(h:gW enc e size H v xs):bX enc size H v xs:=by
 obtain⟨b,rfl,c,d⟩:=h;refine⟨G6 hs xs,rfl,qm _,.inr ⟨c,_,xc d,?_⟩⟩;rw[tj,xg (by grind [G6]),yv,zh (by grind [G6])]
def gW.fr{e:Nat}{W:Nat->Prop}(h:gW enc e size H v xs)(f:Fr W H H')(hw:¬W (aF v)):gW enc e size H' v xs:=by
 obtain⟨b,rfl,c,d⟩:=h;exact⟨b,rfl,qn c f.au,by rw[f.ah b c hw];exact d⟩
def gW.lt{e:Nat}(h:gW enc e size H v xs):aF v<H.au:=by
 obtain⟨b,rfl,c,d⟩:=h;exact c
def gW.AG{e:Nat}(hs:∀x,(enc x).length=size)(h:gW enc e size H v xs){i:Nat}{x y:α}(d:xs[i]? = B1 x){j:Nat}(p:j<size){u:AV}(hu:aB u=B4)(q:enc y=(enc x).set j u) :
 ∃H',Op.store 1 [.ptr (aF v) (cZ size v i+j),u] H=B1 (.undef,H')/\gW enc e size H' v (xs.set i y)/\Fr (On (aF v)) H H':=by
 obtain⟨b,rfl,f,g⟩:=h;have m:=L3 d;have hl:=G6 hs xs;have hb:(i+1)*size<=xs.length*size:=ya _ m;rw[vr]at hb;have l:u.cells=[u]:=by cases u<;>first|rfl|cases hu
 have c:=wO g (o:=i*size+j) (n:=1) (v:=u) (by grind) (by omega) (by grind [vg]);have ho:cZ size (AV.slice b 0 xs.length xs.length) i=i*size:=by simp[cZ]
 rw[ho];refine⟨_,c,⟨b,?_,f,?_⟩,(Fr.refl H).set (W:=On b) (.inl rfl) _⟩
 .grind
 .rw [xe,Uk hs xs d,q,l,_x (L:=xs.flatMap enc) (E:=enc x) (hs x) p (by omega) (λ r hr=>Kf hs xs d hr),List.set_eq_take_append_cons_drop,xg (by omega)];simp
end
def WI(e bytes:Nat)(z:List AV)(n:Nat)(k k':P0)(h:n*bytes<=140737488355328)(c:n<=140737488355328) :
 Op.mkSlice e bytes z [.int k n,.int k' n]=B1 (.row (fK n z) e (0,0) B4,Op.sliceTo n n):=by
 grind [Ol,Op.mkSlice]
end Go.Am
namespace Go.Am
def kn{tm:T AV}{x:bL}{K K':AV->Prop}(h:FK tm x K)(hk:∀v,K v->K' v):FK tm x K':=by
 have⟨v,d,f⟩:=h.elim;cases x with
 |tmp t=>grind [rX,FK,bP]
 |const c=>cases d;exact hk _ f
 |eH c=>cases d;exact hk _ f
 |func c=>cases d;exact hk _ f
def Jo{tm:T AV}:∀{l:List bL}{K K':List AV->Prop},qK tm l K->(∀v,K v->K' v)->qK tm l K'
 |[],K,K',h,hk=>hk _ h
 | .tmp t::xs,K,K',h,hk=>by
  simp only[qK]at h⊢;unfold bP at h⊢;split at h
  .exact Jo h λ vs=>hk _
  omega
 | .const v::xs,K,K',h,hk=>Jo (l:=xs) h λ vs=>hk _
 | .eH v::xs,K,K',h,hk=>Jo (l:=xs) h λ vs=>hk _
 | .func v::xs,K,K',h,hk=>Jo (l:=xs) h λ vs=>hk _
theorem FJ{α:Type}{m:Bool}{o:Option α}{K K':α->Prop}(h:bP m o K)(hk:∀a,K a->K' a):bP m o K':=by
 cases o with
 |none=>exact h
 |some a=>exact hk a h
theorem U_{α β:Type}{m:Bool}{o:Option (α×β)}{K K':α -> β->Prop}(h:iQ m o K)(hk:∀a b,K a b->K' a b):iQ m o K':=by
 cases o with
 |none=>exact h
 |some a=>exact hk a.1 a.2 h
section
variable{AP:ak}
theorem YP{m:Bool}{f:mG}{vs:List AV}{H:ar}{K K':AV->ar->Prop}{E d:aG->ar->Prop}(h:om AP m f vs H K E)(hk:∀v H,K v H->K' v H)(he:∀c H,E c H->d c H):om AP m f vs H K' d:=by
 have⟨e,H',i,g⟩:=h;refine⟨e,H',i,?_⟩;cases e with
 |ret v=>exact hk _ _ g
 |panic c=>exact he _ _ g
theorem UF{d:Option (List Nat)}{tm:T AV}{aY:List aK}{up:Option aG}{Q Q':cO}(f:∀e st,Q e st->Q' e st)(c:aG)(H:ar)(h:AL d tm aY up Q c H):AL d tm aY up Q' c H:=by
 cases d with
 |none=>exact h
 |some ds=>exact f _ _ h
def _w{ctx:Ctx}{dst:Option Nat}{c:Option (List Nat)}{st:St}{Q Q':cO}{K K':St->Prop}{vs:List AV}{op:fI}(h:pW AP ctx dst c st Q K vs op)(d:∀e st,Q e st->Q' e st)(hk:∀st,K st->K' st):pW AP ctx dst c st Q' K' vs op:=by
 cases op with
 |pure f=>exact FJ (m:=aI) h λ _=>hk _
 |read f=>exact FJ (m:=aI) h λ _=>hk _
 |alloc f=>grind [pW,U_]
 |gY f=>grind [pW,U_]
 |im f=>exact YP (m:=aI) h (by grind) (UF d)
 |iq =>
  simp only[pW,Oi]at h⊢
  grind [YP,UF]
 |invoke n =>
  simp only[pW,Nb]at h⊢;split at h
  .grind [FJ,YP,UF]
  omega
 |recover =>
  simp only[pW,zJ]at h⊢
  grind
 |defer =>
  simp only[pW,ID]at h⊢
  grind
 |panic =>
  simp only[pW,gC]at h⊢
  grind [UF]
def _J{ctx:Ctx}{s:aO}{st:St}{Q Q':cO}{K K':St->Prop}(h:rP AP ctx s st Q K)(c:∀e st,Q e st->Q' e st)(hk:∀st,K st->K' st):rP AP ctx s st Q' K':=by
 have⟨iv,dst,guard,args,op,d⟩:=s;cases iv with
 |false =>
  cases guard with
  |none=>exact Jo h λ _ q=>_w q c hk
  |some g =>
   refine FJ (m:=aI) h λ w q=>?_;cases w with
   |true=>exact Jo (K:=_) q λ _ q=>_w q c hk
   |false=>exact hk _ q
 |true =>
  cases guard with
  |none=>exact Jo h λ _ q=>(by grind)
  |some g =>
   refine FJ (m:=aI) h λ w q=>?_;cases w with
   |true=>exact Jo (K:=_) q λ _ q=>(by grind)
   |false=>exact⟨q.1,hk _ q.2⟩
def _2{ctx:Ctx}:∀{l:List aO}{st:St}{Q Q':cO},oO AP ctx l st Q->(∀e st,Q e st->Q' e st)->oO AP ctx l st Q'
 |[],st,Q,Q',h,hq=>hq _ _ h
 |s::rest,st,Q,Q',h,hq=>_J h hq λ d c=>_2 c hq
theorem Pq{ctx:Ctx}{st:St}{k:Nat}{H0:ar}{aY:List aK}{d:Nat}{Q Q':cO}{v:AV}(h:mJ AP ctx st k H0 aY d Q v)(i:∀e st,Q e st->Q' e st):mJ AP ctx st k H0 aY d Q' v:=by
 unfold mJ at h⊢;split at h
 .have ⟨e,H',j,g⟩:=h;refine⟨e,H',j,?_⟩;cases e with
  |panic c=>exact i _ _ g
  |ret v=>have⟨s,p,f,k,tm,d,l,m,o⟩:=g;exact⟨s,p,f,k,tm,d,l,m,i _ _ o⟩
 omega
def p5{ctx:Ctx}:∀{c:ai}{st:St}{Q Q':cO},WP AP ctx c st Q->(∀e st,Q e st->Q' e st)->WP AP ctx c st Q'
 | .skip,st,Q,Q',h,hq=>hq _ _ h
 | .label _,st,Q,Q',h,hq=>hq _ _ h
 | .exit _,st,Q,Q',h,hq=>hq _ _ h
 | .goto _,st,Q,Q',h,hq=>hq _ _ h
 | .ret,st,Q,Q',h,hq=>hq _ _ h
 | .stuck,st,Q,Q',h,hq=>h.elim
 | .region l,st,Q,Q',h,hq=>_2 h hq
 | .seq a b,st,Q,Q',h,hq=>p5 (c:=a) h λ e g d=>by
  cases e with
  |normal=>exact p5 (c:=b) d hq
  |exit _=>exact hq _ _ d
  |goto _=>exact hq _ _ d
  |ret=>exact hq _ _ d
  |panic _=>exact hq _ _ d
 | .cond c a b,st,Q,Q',h,hq=>kn h λ v q=>FJ (m:=aI) q λ w q=>by
  cases w with
  |true=>exact p5 (c:=a) q hq
  |false=>exact p5 (c:=b) q hq
 | .block id b,st,Q,Q',h,hq=>p5 (c:=b) h λ e g d=>by cases e<;>exact hq _ _ d
 | .scope b,st,Q,Q',h,hq=>p5 (c:=b) h λ e g d=>by
  cases e with
  |goto l=>exact⟨d.1,hq _ _ d.2⟩
  |normal=>exact hq _ _ d
  |exit _=>exact hq _ _ d
  |ret=>exact hq _ _ d
  |panic _=>exact hq _ _ d
 | .loop ah b,st,Q,Q',⟨I,h0,h⟩,hq=>⟨I,h0,λ n st i=>p5 (c:=b) (h n st i) λ e g d=>by grind⟩
 | .rangeFunc f k,st,Q,Q',h,hq=>kn h λ v q=>by
  grind [Jv,Pq,FJ]
def gG:aW->Prop
 | .exit _=>True
 | .goto _=>True
 | .ret=>True
 |_=>False
end
end Go.Am
namespace Go.Am
noncomputable section
abbrev aD:=aW->Env->List aK->ar->Prop
def lk(E:Env)(t:Nat):Option AV:=An (motive:=λ _=>Option AV) B5 (λ p _ ih=>cond (J2 p.1 t) (B1 p.2) ih) E
def Cc(t:Nat):lk [] t=none:=rfl
def wP(k t:Nat)(v:AV)(E:Env):lk ((k,v)::E) t=if k=t then B1 v else lk E t:=by
 show cond (J2 k t) (B1 v) (lk E t)=_;simp_all
def bH(t:Nat)(l:List Nat):Bool:=An (motive:=λ _=>Bool) B2 (λ x _ ih=>cond (J2 x t) B4 ih) l
def gf(ks:List Nat)(E:Env)(tm:T AV):Prop:=∀t v,lk E t=B1 v->tm.get t=B1 v/\bH t ks=B4
def uD:Env->Env->Prop
 |[],_=>True
 |(k,v)::r,E=>lk E k=B1 v/\uD r E
def It(E:Env):uD [] E=True:=rfl
def af5(k:Nat)(v:AV)(r E:Env):uD ((k,v)::r) E=(lk E k=B1 v/\uD r E):=rfl
def uD.look:∀{A E:Env},uD A E -> ∀{t:Nat}{v:AV},lk A t=B1 v->lk E t=B1 v
 |[],E,_,t,v,h=>by cases h
 |(k,w)::r,E,h,t,v,hl=>by
  rw[wP]at hl;split at hl
  .rename_i e;subst e;cases hl;exact h.1
  .exact uD.look h.2 hl
def uD.sub{ks:List Nat}{A E:Env}(h:uD A E){tm:T AV}(he:gf ks E tm):gf ks A tm:=λ t v hl=>he t v (h.look hl)
def SS(A E:Env):Prop:=∀t v,lk A t=B1 v->lk E t=B1 v
def uD.ss{A E:Env}(h:uD A E):SS A E:=λ t v hl=>h.look hl
def SS.sub{ks:List Nat}{A E:Env}(h:SS A E){tm:T AV}(he:gf ks E tm):gf ks A tm:=λ t v hl=>he t v (h t v hl)
def B3{α:Type}(m:Bool)(o:Option α)(K:Bool -> α->Prop):Prop:=match o with
 |some a=>K m a
 |none=>False
def i9{α β:Type}(m:Bool)(o:Option (α×β))(K:Bool -> α -> β->Prop):Prop:=match o with
 |some a=>K m a.1 a.2
 |none=>False
def nE(m:Bool)(v:AV)(A B:Bool->Prop):Prop:=match v with
 | .bool q=>match q with
  |true=>A m
  |false=>B m
 |_=>False
def wK(m:Bool)(q:Bool)(A B:Bool->Prop):Prop:=match q with
 |true=>A m
 |false=>B m
def NB(m:Bool)(o o':Option AV)(K:Bool->Prop):Prop:=(∃v,o=B1 v/\o'=B1 v)/\K m
def A3(m:Bool)(e:Nat)(z:List AV)(H:ar)(K:Bool->AV->ar->Prop):Prop:=K m (.ptr H.au 0) (H.alloc (.row z e (0,0) B4))
def JN{α:Type}(F:α->Prop)(K:α):Prop:=F K
def rN(m:Bool)(Q:aD)(e:aW)(E:Env)(D:List aK)(H:ar):Prop:=Q e E D H
def HP{α:Type}(a:α)(K:Bool -> α->Prop):B3 B4 (B1 a) K=K B4 a:=propext kq
def Ej{α β:Type}(a:α)(b:β)(K:Bool -> α -> β->Prop):i9 B4 (B1 (a,b)) K=K B4 a b:=propext kq
def Dr(A B:Bool->Prop):nE B4 (.bool B4) A B=A true:=propext kq
def xkt(A B:Bool->Prop):nE B4 (.bool B2) A B=B true:=propext kq
def Fb(A B:Bool->Prop):wK B4 B4 A B=A true:=propext kq
def xku(A B:Bool->Prop):wK B4 B2 A B=B true:=propext kq
def ae7(v:AV)(K:Bool->Prop):NB B4 (B1 v) (B1 v) K=K true:=propext ⟨λ h=>h.2,λ h=>⟨⟨v,rfl,rfl⟩,h⟩⟩
def PN(e:Nat)(z:List AV)(H:ar)(K:Bool->AV->ar->Prop):A3 B4 e z H K=K B4 (.ptr H.au 0) (H.alloc (.row z e (0,0) B4)):=propext kq
def Jy{α:Type}(F:α->Prop)(K:α):JN F K=F K:=propext kq
def af2(Q:aD)(e:aW)(E:Env)(D:List aK)(H:ar):rN B4 Q e E D H=Q e E D H:=propext kq
@[congr]def ab8{α:Type}{F:α->Prop}{K:α}:JN F K=JN F K:=rfl
@[congr]def ab4{α:Type}{m c:Bool}{o o':Option α}{K:Bool -> α->Prop}(hm:m=c)(h:o=o'):B3 m o K=B3 c o' K:=by grind
@[congr]def ab7{α β:Type}{m c:Bool}{o o':Option (α×β)}{K:Bool -> α -> β->Prop}(hm:m=c)(h:o=o'):i9 m o K=i9 c o' K:=by grind
@[congr]def aa6{m c:Bool}{v d:AV}{A B:Bool->Prop}(hm:m=c)(h:v=d):nE m v A B=nE c d A B:=by grind
@[congr]def ab6{m c:Bool}{v d:Bool}{A B:Bool->Prop}(hm:m=c)(h:v=d):wK m v A B=wK c d A B:=by grind
@[congr]def ab1{m c:Bool}{o o' p p':Option AV}{K:Bool->Prop}(hm:m=c)(h:o=o')(d:p=p'):NB m o p K=NB c o' p' K:=by grind
@[congr]def ac5{m c:Bool}{e:Nat}{z d:List AV}{H H':ar}{K:Bool->AV->ar->Prop}(hm:m=c)(h:z=d)(f:H=H'):A3 m e z H K=A3 c e d H' K:=by grind
def B3.elim{α:Type}{m:Bool}{o:Option α}{K:Bool -> α->Prop}(h:B3 m o K):∃a,o=B1 a/\K m a:=by
 cases o with
 |none=>exact Nk h
 |some a=>exact⟨a,rfl,h⟩
def i9.elim{α β:Type}{m:Bool}{o:Option (α×β)}{K:Bool -> α -> β->Prop}(h:i9 m o K):∃a b,o=B1 (a,b)/\K m a b:=by
 cases o with
 |none=>exact Nk h
 |some a=>exact⟨a.1,a.2,rfl,h⟩
def LK.elim{α:Type}{m:Bool}{o:Option α}{K:Bool -> α->Prop}(h:LK m o K):∃a,o=B1 a/\K m a:=by
 cases o with
 |none=>exact Nk h
 |some a=>exact⟨a,rfl,h⟩
theorem B3.intro{α:Type}{m:Bool}{o:Option α}{K:Bool -> α->Prop}{a:α}(h:o=B1 a)(hk:K m a):B3 m o K:=by subst h;exact hk
theorem i9.intro{α β:Type}{m:Bool}{o:Option (α×β)}{K:Bool -> α -> β->Prop}{a:α}{b:β}(h:o=B1 (a,b))(hk:K m a b):i9 m o K:=by subst h;exact hk
def nE.cases{m:Bool}{q:Bool}{A B:Bool->Prop}(c:q=B4->A m)(d:q=B2->B m):nE m (.bool q) A B:=by
 cases q with
 |true=>exact c rfl
 |false=>exact d rfl
def wK.cases{m:Bool}{q:Bool}{A B:Bool->Prop}(c:q=B4->A m)(d:q=B2->B m):wK m q A B:=by
 cases q with
 |true=>exact c rfl
 |false=>exact d rfl
def nE.elim{m:Bool}{v:AV}{A B:Bool->Prop}(h:nE m v A B):∃q,v=.bool q/\(match q with|true=>A m|false=>B m):=by
 unfold nE at h
 grind
section
variable(M:ak)
structure Kp where
 ah:List Nat
 dh:Bool
 named:List Nat
def dJ(K:List Nat)(E L:Env):Env:=An (motive:=λ _=>Env) E (λ p _ ih=>cond (bH p.1 K) (p::ih) ih) L
def sE(ds:List Nat)(E:Env):Env:=An (motive:=λ _=>Env) [] (λ p _ ih=>cond (bH p.1 ds) ih (p::ih)) E
def mi(L:Env):List Nat:=An (motive:=λ _=>List Nat) [] (λ p _ ih=>p.1::ih) L
abbrev KR:=Bool->Env->Env->ar->Prop
def TV(E L R:Env)(t:Nat)(g:Bool)(K:Bool->Env->AV->Prop):Prop :=
 QT (motive:=λ _=>Prop) (QT (motive:=λ _=>Prop) (LK g (lk E t) λ g v=>K g ((t,v)::R) v) (λ v=>K g R v) (lk R t)) (λ v=>K g R v) (lk L t)
def yZ(E L:Env)(l:List bL):Bool->Env->(Bool->Env->List AV->Prop)->Prop:=An (motive:=λ _=>Bool->Env->(Bool->Env->List AV->Prop)->Prop) (λ g R K=>K g R [])
 (λ x _ ih g R K=>bL.casesOn x (λ t=>TV E L R t g λ g R v=>ih g R λ g R vs=>K g R (v::vs)) (λ v=>ih g R λ g R vs=>K g R (v::vs)) (λ b=>ih g R λ g R vs=>K g R (.ptr b 0::vs)) (λ f=>ih g R λ g R vs=>K g R (.fn (.func f) [] []::vs))) l
def C3(m:Bool)(f:mG)(vs:List AV)(H:ar)(K:Bool->AV->ar->Prop):Prop:=∃v H',uJ M f vs H (.ret v) H'/\K m v H'
def P3(m:Bool)(X:aG->ar->Prop)(f:mG)(vs:List AV)(H:ar)(K:Bool->AV->ar->Prop):Prop:=∃e H',uJ M f vs H e H'/\match e with
 | .ret v=>K m v H'
 | .panic c=>X c H'
@[congr]def ac0{M:ak}{m d:Bool}{f f':mG}{vs c:List AV}{H H':ar}{K:Bool->AV->ar->Prop}(hm:m=d)(i:f=f')(h:vs=c)(g:H=H'):C3 M m f vs H K=C3 M d f' c H' K:=by grind
@[congr]def ac3{M:ak}{m d:Bool}{X:aG->ar->Prop}{f f':mG}{vs c:List AV}{H H':ar}{K:Bool->AV->ar->Prop}(hm:m=d)(i:f=f')(h:vs=c)(g:H=H'):P3 M m X f vs H K=P3 M d X f' c H' K:=by grind
def V3(m:Bool)(vs:List AV)(K:Bool->mG->List AV->Prop):Prop:=match vs with
 | .fn (.func g) first cap::args=>K m (.func g) (first++(args++cap))
 | .fn (.yield l) first []::args=>K m (.yield l) (first++args)
 |_=>False
@[congr]def ac1{m d:Bool}{vs c:List AV}{K:Bool->mG->List AV->Prop}(hm:m=d)(h:vs=c):V3 m vs K=V3 d c K:=by grind
def HZ(g:Nat)(first cap args:List AV)(K:Bool->mG->List AV->Prop):V3 B4 (.fn (.func g) first cap::args) K=K B4 (.func g) (first++(args++cap)):=propext kq
def ag7(l:Nat)(first args:List AV)(K:Bool->mG->List AV->Prop):V3 B4 (.fn (.yield l) first []::args) K=K B4 (.yield l) (first++args):=propext kq
def N3(m:Bool)(name:String)(vs:List AV)(K:Bool->mG->List AV->Prop):Prop:=match vs with
 | .iface t v::args=>B3 m (M.kN t name) λ m g=>K m (.func g) (v::args)
 |_=>False
@[congr]def ac4{M:ak}{m d:Bool}{name:String}{vs c:List AV}{K:Bool->mG->List AV->Prop}(hm:m=d)(h:vs=c):N3 M m name vs K=N3 M d name c K:=by grind
def DI(name:String)(t:Nat)(v:AV)(args:List AV)(K:Bool->mG->List AV->Prop):N3 M B4 name (.iface t v::args) K=B3 B4 (M.kN t name) λ m g=>K m (.func g) (v::args):=propext kq
def PX(ps:Option (List Nat))(ks:List Nat)(Q:aD)(E:Env)(D:List aK)(c:aG)(H:ar):Prop:=match ps with
 |some ds=>Q (.panic c) (sE ds (sE ks E)) D H
 |none=>False
def FQ(dh:Bool)(ps:Option (List Nat))(L:Env)(Q:aD)(E:Env)(D:List aK)(g:Bool)(f:mG)(vs:List AV)(H:ar)(K:Bool->AV->ar->Prop):Prop :=
 cond dh (P3 M g (PX ps (mi L) Q E D) f vs H K) (C3 M g f vs H K)
def wB(dh:Bool)(dst:Option Nat)(ps:Option (List Nat))(Q:aD)(E:Env)(D:List aK)(L R:Env)(H:ar)(K:KR)(g:Bool)(vs:List AV):fI->Prop
 | .pure f=>B3 g (f vs) λ g v=>K g (lT dst v L) R H
 | .read f=>B3 g (f vs H) λ g v=>K g (lT dst v L) R H
 | .alloc f=>i9 g (f vs) λ g o mk=>K g (lT dst (mk H.au) L) R (H.alloc o)
 | .gY f=>i9 g (f vs H) λ g v H=>K g (lT dst v L) R H
 | .im f=>FQ M dh ps L Q E D g (.func f) vs H (λ g v H=>K g (lT dst v L) R H)
 | .iq=>V3 g vs λ g f vs=>FQ M dh ps L Q E D g f vs H (λ g v H=>K g (lT dst v L) R H)
 | .invoke name=>N3 M g name vs λ g f vs=>FQ M dh ps L Q E D g f vs H (λ g v H=>K g (lT dst v L) R H)
 | .panic=>cond dh (gC vs H (PX ps (mi L) Q E D)) False
 |_=>False
def WV(L E:Env)(d:Nat):Option AV:=QT (motive:=λ _=>Option AV) (lk E d) (λ v=>B1 v) (lk L d)
def TA(dst:Option Nat)(E L R:Env)(H:ar)(K:KR)(g:Bool)(vs:List AV):fI->Prop
 | .read f=>match dst with
  |some d=>NB g (f vs H) (WV L E d) λ g=>K g L R H
  |none=>False
 |_=>False
def I5(dh:Bool)(s:aO)(Q:aD)(E:Env)(D:List aK)(K:KR):KR:=λ g L R H =>
 yZ E L s.args g R λ g R vs=>match s.iv with
  |false=>wB M dh s.dst s.cI Q E D L R H K g vs s.op
  |true=>TA s.dst E L R H K g vs s.op
def qD(dh:Bool)(Q:aD)(E:Env)(D:List aK)(K:KR)(l:List aO):KR:=An (motive:=λ _=>KR) K (λ s _ ih=>I5 M dh s Q E D ih) l
abbrev Gj:=Option (Nat×Bool)×List aO
def sJ:Option (Nat×Bool)->Option (Nat×Bool)->Bool
 |none,B5=>B4
 |some (t,b),B1 (u,c)=>cond (J2 t u) (cond b c (!c)) B2
 |_,_=>B2
def Jr(l:List aO):List Gj:=An (motive:=λ _=>List Gj) [] (λ s _ ih=>List.casesOn (motive:=λ _=>List Gj) ih [(s.guard,[s])] λ g r=>cond (sJ g.1 s.guard) ((g.1,s::g.2)::r) ((s.guard,[s])::g::r)) l
def PT(o:Option Nat)(t:Nat):Bool:=QT (motive:=λ _=>Bool) B2 (λ d=>J2 d t) o
def wA(t:Nat)(l:List aO):Bool:=An (motive:=λ _=>Bool) B4 (λ s _ ih=>cond (PT s.dst t) B2 (cond s.iv (cond s.dst.isSome ih B2) ih)) l
def CT(n:Nat):Type:=Nat.rec (motive:=λ _=>Type) (ar->Prop) (λ _ T=>AV->T) n
def rB(n:Nat):(List AV->ar->Prop)->CT n:=Nat.rec (motive:=λ n=>(List AV->ar->Prop)->CT n) (λ f=>f []) (λ _ ih f v=>ih λ l=>f (v::l)) n
def qB(n:Nat):CT n->List AV->ar->Prop:=Nat.rec (motive:=λ n=>CT n->List AV->ar->Prop) (λ k _=>k) (λ _ ih k l=>List.casesOn (motive:=λ _=>ar->Prop) l (λ _=>False) λ v l=>ih (k v) l) n
def bq(l:List aO):List Nat->List Nat:=An (motive:=λ _=>List Nat->List Nat) (λ acc=>acc) (λ s _ ih acc=>ih (cond s.iv acc (QT (motive:=λ _=>List Nat) acc (λ d=>d::acc) s.dst))) l
def lH(ks:List Nat)(L:Env):List AV->Env:=An (motive:=λ _=>List AV->Env) (λ _=>L) (λ k _ ih l=>List.casesOn (motive:=λ _=>Env) l L λ v l=>(k,v)::ih l) ks
def rE(n:Nat):Env->List AV:=Nat.rec (motive:=λ _=>Env->List AV) (λ _=>[]) (λ _ ih L=>List.casesOn (motive:=λ _=>List AV) L [] λ p L=>p.2::ih L) n
def sD(n:Nat):List AV:=Nat.rec (motive:=λ _=>List AV) [] (λ _ ih=>.undef::ih) n
def SK(dh:Bool)(Q:aD)(E:Env)(D:List aK)(x:Gj)(K:KR):KR:=λ g L R H=>match x.1 with
 |none=>qD M dh Q E D K x.2 g L R H
 |some q=>cond (wA q.1 x.2) (TV E L R q.1 g λ g R v=>JN (α:=Bool->CT (cQ (bq x.2 [])))
  (λ k=>B3 g (cT q.2 (B1 v)) λ g w=>wK g w (λ g=>qD M dh Q E D (λ g L _ H=>qB (cQ (bq x.2 [])) (k g) (rE (cQ (bq x.2 [])) L) H) x.2 g L R H) (λ g=>qB (cQ (bq x.2 [])) (k g) (sD (cQ (bq x.2 []))) H))
  (λ g=>rB (cQ (bq x.2 [])) λ vs H=>K g (lH (bq x.2 []) L vs) R H)) False
def yM(dh:Bool)(Q:aD)(E:Env)(D:List aK)(K:KR)(l:List Gj):KR:=An (motive:=λ _=>KR) K (λ x _ ih=>SK M dh Q E D x ih) l
def rO(dh:Bool)(Q:aD)(E:Env)(D:List aK)(l:List aO)(g:Bool)(H:ar)(K:KR):Prop:=yM M dh Q E D K (Jr l) g [] [] H
abbrev WX:=Bool->aD->Env->List aK->ar->Prop
def fp(X:WX)(Q:aD):aD:=λ e E D H=>match e with
 | .normal=>X B4 Q E D H
 |e=>Q e E D H
def eY(id:Nat)(Q:aD):aD:=λ e E D H=>match e with
 | .exit id'=>Q (cond (J2 id id') .normal (.exit id')) E D H
 |e=>Q e E D H
def kH(b:ai)(Q:aD):aD:=λ e E D H=>match e with
 | .goto l=>FO b l=B2/\Q (.goto l) E D H
 |e=>Q e E D H
abbrev LG:=Nat->Env->List aK->ar->Prop
def LP3(I:LG)(n:Nat)(Q:aD):aD:=λ e E D H=>match e with
 | .normal=>∃m E',I m E' D H/\SS E' E/\m<n
 |e=>Q e E D H
def cK(X:WX)(Q:aD)(E:Env)(D:List aK)(H:ar):Prop :=
 ∃I:LG,(∃n E0,I n E0 D H/\SS E0 E) /\ ∀n E D H,I n E D H->X B4 (LP3 I n Q) E D H
def iB(ks:List Nat)(ctx:Ctx)(k:Nat)(E:Env)(D:List aK)(H:ar)(Q:aD)(v:AV):Prop :=
 ∀tm up,gf ks E tm->Jv M ctx k ⟨tm,D,up,H⟩ (λ e st=>st.up=up/\st.tm=tm/\Q e E st.aY st.H) v
def OV(E:Env)(x:bL)(g:Bool)(K:Bool->AV->Prop):Prop:=match x with
 | .tmp t=>LK g (lk E t) K
 | .const v=>K g v
 | .eH b=>K g (.ptr b 0)
 | .func f=>K g (.fn (.func f) [] [])
def CV(E L R:Env)(x:bL)(g:Bool)(K:Bool->AV->Prop):Prop:=match x with
 | .tmp t=>TV E L R t g λ g _ v=>K g v
 | .const v=>K g v
 | .eH b=>K g (.ptr b 0)
 | .func f=>K g (.fn (.func f) [] [])
def W3(ctx:Ctx)(K:Kp):ai->Bool->aD->Env->List aK->ar->Prop
 | .skip,g,Q,E,D,H=>rN g Q .normal E D H
 | .label _,g,Q,E,D,H=>rN g Q .normal E D H
 | .exit id,g,Q,E,D,H=>rN g Q (.exit id) E D H
 | .goto l,g,Q,E,D,H=>rN g Q (.goto l) E D H
 | .ret,g,Q,E,D,H=>rN g Q .ret E D H
 | .stuck,_,_,_,_,_=>False
 | .region l,g,Q,E,D,H=>rO M K.dh Q E D l g H λ g L _ H=>rN g Q .normal (dJ K.ah E L) D H
 | .seq a b,g,Q,E,D,H=>match a,b with
  | .region l,.cond c x y=>rO M K.dh Q E D l g H λ g L R H=>CV E L R c g λ g v=>nE g v (λ g=>W3 ctx K x g Q (dJ K.ah E L) D H) (λ g=>W3 ctx K y g Q (dJ K.ah E L) D H)
  | .region l,.seq (.cond c x y) r=>rO M K.dh Q E D l g H λ g L R H=>CV E L R c g λ g v=>nE g v (λ g=>W3 ctx K x g (fp (W3 ctx K r) Q) (dJ K.ah E L) D H) (λ g=>W3 ctx K y g (fp (W3 ctx K r) Q) (dJ K.ah E L) D H)
  | .region l,b=>rO M K.dh Q E D l g H λ g L _ H=>W3 ctx K b g Q (dJ K.ah E L) D H
  |a,b=>W3 ctx K a g (fp (W3 ctx K b) Q) E D H
 | .cond c x y,g,Q,E,D,H=>OV E c g λ g v=>nE g v (λ g=>W3 ctx K x g Q E D H) (λ g=>W3 ctx K y g Q E D H)
 | .block id b,g,Q,E,D,H=>W3 ctx K b g (eY id Q) E D H
 | .scope b,g,Q,E,D,H=>W3 ctx K b g (kH b Q) E D H
 | .loop (B1 _) _,_,_,_,_,_=>False
 | .loop B5 b,g,Q,E,D,H=>cK (W3 ctx K b) Q E D H
 | .rangeFunc f k,g,Q,E,D,H=>OV E f g λ g v=>iB M K.ah ctx k E D H Q v
end
structure mq(E L R:Env)(tm:T AV):Prop where
 l:∀t v,lk L t=B1 v->tm.get t=B1 v
 r:∀t v,lk L t=B5->lk R t=B1 v->tm.get t=B1 v
 e:∀t v,lk L t=B5->lk E t=B1 v->tm.get t=B1 v
def mq.first{ks:List Nat}{E:Env}{tm:T AV}(h:gf ks E tm):mq E [] [] tm:=⟨λ _ _ h=>(by cases h),λ _ _ _ h=>(by cases h),λ t v _ c=>(h t v c).1⟩
theorem mq.put{E L R:Env}{tm:T AV}(h:mq E L R tm)(dst:Option Nat)(v:AV):mq E (lT dst v L) R (eI dst v tm):=by
 cases dst with
 |none=>exact h
 |some d =>
  show mq E ((d,v)::L) R (tm.set d v);refine⟨λ t w hw=>?_,λ t w hn hw=>?_,λ t w hn hw=>?_⟩
  .rw [wP]at hw;rw[T.aJ];split at hw
   .grind
   .rename_i e;rw[qy e];exact h.l t w hw
  .rw [wP]at hn;rw[T.aJ];split at hn
   .cases hn
   .rename_i e;rw[qy e];exact h.r t w hn hw
  .rw [wP]at hn;rw[T.aJ];split at hn
   .cases hn
   .rename_i e;rw[qy e];exact h.e t w hn hw
def TV.elim{E L R:Env}{t:Nat}{g:Bool}{K:Bool->Env->AV->Prop}{tm:T AV}(hr:mq E L R tm)(h:TV E L R t g K):∃v d,tm.get t=B1 v/\mq E L d tm/\K g d v:=by
 unfold TV at h;cases hl:lk L t with
 |some v=>rw[hl]at h;exact⟨v,R,hr.l t v hl,hr,h⟩
 |none =>
  rw[hl]at h;cases c:lk R t with
  |some v=>rw[c]at h;exact⟨v,R,hr.r t v hl c,hr,h⟩
  |none =>
   rw[c]at h;have⟨v,f,h⟩:=LK.elim h;refine⟨v,_,hr.e t v hl f,⟨hr.l,λ u w hn hw=>?_,hr.e⟩,h⟩;rw[wP]at hw;split at hw
   .rename_i e;subst e;cases hw;exact hr.e t v hl f
   .exact hr.r u w hn hw
def Nd{tm:T AV}:∀{l:List bL}{vs:List AV}{K:List AV->Prop},mF tm l=B1 vs->K vs->qK tm l K
 |[],vs,K,h,hk=>by cases h;exact hk
 |x::xs,vs,K,h,hk=>by
  simp only[mF,qj]at h;have⟨v,d,ws,f,g⟩:=h;cases g;cases x with
  |tmp t=>exact bP.intro (m:=aI) d (Nd f hk)
  |const c=>injection d with d;subst d;exact Nd (K:=λ vs=>K (c::vs)) f hk
  |eH c=>cases d;exact Nd (K:=λ vs=>K (_::vs)) f hk
  |func c=>cases d;exact Nd (K:=λ vs=>K (_::vs)) f hk
def yZ.elim{E L:Env}{tm:T AV}{g:Bool}:∀{l:List bL}{R:Env}{K:Bool->Env->List AV->Prop},mq E L R tm->yZ E L l g R K -> ∃vs j,mF tm l=B1 vs/\mq E L j tm/\K g j vs
 |[],R,K,hr,h=>⟨[],R,rfl,hr,h⟩
 | .tmp t::xs,R,K,hr,h=>by
  have⟨v,o,m,i,h⟩:=TV.elim hr (show TV E L R t g (λ g R v=>yZ E L xs g R λ g R vs=>K g R (v::vs))from h);have⟨vs,d,f,c,h⟩:=yZ.elim i h;exact⟨v::vs,d,by simp[mF,rX,m,f],c,h⟩
 | .const v::xs,R,K,hr,h=>by
  have⟨vs,d,f,c,h⟩:=yZ.elim (l:=xs) hr h;exact⟨v::vs,d,by simp[mF,rX,f],c,h⟩
 | .eH v::xs,R,K,hr,h=>by
  have⟨vs,d,f,c,h⟩:=yZ.elim (l:=xs) hr h;exact⟨_,d,by simp[mF,rX,f],c,h⟩
 | .func v::xs,R,K,hr,h=>by
  have⟨vs,d,f,c,h⟩:=yZ.elim (l:=xs) hr h;exact⟨_,d,by simp[mF,rX,f],c,h⟩
def SJ(ds:List Nat):∀(E:Env)(t:Nat),lk (sE ds E) t=if bH t ds then B5 else lk E t
 |[],t=>by simp[sE,Cc]
 |(k,v)::r,t=>by
  show lk (cond (bH k ds) (sE ds r) ((k,v)::sE ds r)) t=_;cases hm:bH k ds with
  |true =>
   rw[xu,SJ ds r,wP]
   grind
  |false =>
   rw[zn,wP,SJ ds r,wP]
   grind
def xdg:∀(L:Env)(t:Nat),bH t (mi L)=B2->lk L t=B5
 |[],t,_=>rfl
 |(k,v)::r,t,h=>by
  have h:cond (J2 k t) B4 (bH t (mi r))=false:=h;rw[wP];cases hb:J2 k t with
  |true=>grind
  |false=>rw[hb,zn]at h;rw[qy (Nat.ne_of_beq_eq_false hb)];exact xdg r t h
def xhn{t:Nat}:∀{l:List Nat},t∈l->bH t l=B4
 |x::r,h=>by
  show cond (J2 x t) B4 (bH t r)=B4;cases hb:J2 x t with
  |true=>rfl
  |false =>
   rw[zn];rcases kj.1 h with e|h
   .simp_all
   .exact xhn h
def q4x:∀(ds:List Nat)(tm:T AV)(t:Nat),t∉ds->(forget ds tm).get t=tm.get t
 |[],tm,t,_=>rfl
 |d::ds,tm,t,h=>by
  show(forget ds (tm.put d B5)).get t=_;rw[q4x ds _ t (by grind),T.kO,qy (λ e=>h (by rw[e];exact vx ..))]
def QQ(ks:List Nat)(Q:aD)(up:Option aG):cO:=λ e st=>st.up=up /\ ∃E',gf ks E' st.tm/\Q e E' st.aY st.H
section
variable{M:ak}{ctx:Ctx}{dh:Bool}{Q:aD}{E:Env}{D:List aK}{up:Option aG}
theorem PX.JL{Z:cO}(hp:∀c tm H g,(∀t v,lk g t=B1 v->tm.get t=B1 v/\lk E t=B1 v)->Q (.panic c) g D H->Z (.panic c) ⟨tm,D,up,H⟩){f:Option (List Nat)}{L R:Env}{tm:T AV}(hr:mq E L R tm){c:aG}{H:ar}(h:PX f (mi L) Q E D c H):AL f tm D up Z c H:=by
 cases f with
 |none=>exact h
 |some ds =>
  refine hp _ _ _ _ (λ t v d=>?_) h;rw[SJ,SJ]at d;split at d
  .cases d
  .rename_i i;split at d
   .cases d
   .rename_i j;rw[q4x ds tm t (λ q=>i (xhn q))];exact⟨hr.e t v (xdg L t (by simpa using j)) d,d⟩
theorem FQ.Cd{Z:cO}(hp:∀c tm H j,(∀t v,lk j t=B1 v->tm.get t=B1 v/\lk E t=B1 v)->Q (.panic c) j D H->Z (.panic c) ⟨tm,D,up,H⟩){i:Option (List Nat)}{L R:Env}{tm:T AV}(hr:mq E L R tm){g:Bool}{f:mG}{vs:List AV}{H:ar}{K:Bool->AV->ar->Prop}{K':AV->ar->Prop}
 (h:FQ M dh i L Q E D g f vs H K) (hk:∀v H,K g v H->K' v H):om M aI f vs H K' (AL i tm D up Z):=by
 cases dh with
 |false =>
  have⟨v,H',d,l⟩:=(show C3 M g f vs H K from h)
  exact⟨_,H',d,hk _ _ l⟩
 |true =>
  have⟨e,H',d,l⟩:=(show P3 M g (PX i (mi L) Q E D) f vs H K from h)
  refine⟨_,H',d,?_⟩
  grind [PX.JL]
def I5.body{Z:cO}(hp:∀c tm H x,(∀t v,lk x t=B1 v->tm.get t=B1 v/\lk E t=B1 v)->Q (.panic c) x D H->Z (.panic c) ⟨tm,D,up,H⟩){s:aO}{K:KR}{g:Bool}{L R R0:Env}{tm:T AV}{H:ar}(hr:mq E L R tm)(r:mq E L R0 tm)(h:I5 M dh s Q E D K g L R H){KK:St->Prop}
 (C:∀j y i H',(s.iv=B4/\j=L/\i=tm \/ ∃v,s.iv=B2/\j=lT s.dst v L/\i=eI s.dst v tm)->mq E j y i->mq E j R0 i->K g j y H'->KK ⟨i,D,up,H'⟩) :
 match s.iv with
 |false=>qK tm s.args λ vs=>pW M ctx s.dst s.cI ⟨tm,D,up,H⟩ Z KK vs s.op
 |true=>qK tm s.args λ vs=>RN s.dst ⟨tm,D,up,H⟩ vs s.op/\KK ⟨tm,D,up,H⟩:=by
 have⟨iv,dst,guard,args,op,u⟩:=s;have⟨vs,p,z,q,h⟩:=yZ.elim hr h;cases iv with
 |true =>
  refine Nd z ?_;have h:TA dst E L p H K g vs op:=h;cases op with
  |read f =>
   cases dst with
   |none=>exact h.elim
   |some d =>
    have h:NB g (f vs H) (WV L E d) (λ g=>K g L p H):=h;have⟨⟨v,e1,e2⟩,h⟩:=h;refine⟨?_,(by grind)⟩;refine bP.intro (m:=aI) e1 (bP.intro (m:=aI) (a:=v) ?_ rfl);unfold WV at e2;cases hl:lk L d with
    |some w=>rw[hl]at e2;injection e2 with e2;subst e2;exact hr.l d w hl
    |none=>rw[hl]at e2;exact hr.e d v hl e2
  |_=>exact h.elim
 |false =>
  have put:∀v H',K g (lT dst v L) p H'->KK ⟨eI dst v tm,D,up,H'⟩:=λ v H' hk=>C _ p _ H' (by grind) (q.put dst v) (r.put dst v) hk;refine Nd z ?_;have h:wB M dh dst u Q E D L p H K g vs op:=h;cases op with
  |pure f=>simp only[wB]at h;have⟨v,e,h⟩:=B3.elim h;exact bP.intro (m:=aI) e (put _ _ h)
  |read f=>simp only[wB]at h;have⟨v,e,h⟩:=B3.elim h;exact bP.intro (m:=aI) e (put _ _ h)
  |alloc f=>simp only[wB]at h;simp only[pW];have⟨o,mk,e,h⟩:=i9.elim h;exact iQ.intro (m:=aI) e (put _ _ h)
  |gY f=>simp only[wB]at h;simp only[pW];have⟨v,H',e,h⟩:=i9.elim h;exact iQ.intro (m:=aI) e (put _ _ h)
  |im f=>exact FQ.Cd hp q h λ v H' hk=>put v H' hk
  |iq =>
   simp only[wB,V3]at h
   grind [pW,Oi,FQ.Cd]
  |invoke n =>
   simp only[wB,N3]at h;simp only[pW,Nb];split at h
   .have ⟨f,e,h⟩:=B3.elim h;exact bP.intro (m:=aI) e ((by grind [FQ.Cd]))
   grind
  |recover=>exact Nk h
  |defer=>exact Nk h
  |panic =>
   cases dh with
   |false=>exact Nk h
   |true =>
    have h:gC vs H (PX u (mi L) Q E D):=h;show gC vs H (AL u tm D up Z);unfold gC at h⊢
    grind [PX.JL]
def Oy(g:Option (Nat×Bool))(l:List aO):Prop:=∀s∈l,s.guard=g
def qD.free{Z:cO}(hp:∀c tm H f,(∀t v,lk f t=B1 v->tm.get t=B1 v/\lk E t=B1 v)->Q (.panic c) f D H->Z (.panic c) ⟨tm,D,up,H⟩){K:KR}{g:Bool}{R0:Env}{rest:List aO}(i:∀L R tm H,mq E L R tm->mq E L R0 tm->K g L R H->oO M ctx rest ⟨tm,D,up,H⟩ Z) :
 ∀{l:List aO}{L R:Env}{tm:T AV}{H:ar},Oy B5 l->mq E L R tm->mq E L R0 tm->qD M dh Q E D K l g L R H->oO M ctx (l++rest) ⟨tm,D,up,H⟩ Z
 |[],L,R,tm,H,_,hr,hr0,h=>i _ _ _ _ hr hr0 h
 |s::l,L,R,tm,H,hg,hr,hr0,h=>by
  rw[J1,XB];have hs:s.guard=none:=hg s (vx ..);have:=I5.body hp (ctx:=ctx) (up:=up) (KK:=λ d=>oO M ctx (l++rest) d Z) hr hr0 (show I5 M dh s Q E D (qD M dh Q E D K l) g L R H from h)
   λ r u q H' _ m o p=>qD.free hp i (λ x j=>hg x (OA _ j)) m o p
  have⟨iv,dst,guard,args,op,w⟩:=s;subst hs;cases iv<;>exact this
theorem Zs:∀(n:Nat)(f:List AV->ar->Prop)(l:List AV)(H:ar),l.length=n->qB n (rB n f) l H=f l H
 |0,f,[],H,_=>rfl
 |n+1,f,v::l,H,h=>Zs n (λ l=>f (v::l)) l H (by simpa using h)
 |0,f,_::_,H,h=>by cases h
 |n+1,f,[],H,h=>by cases h
def Dc{α:Type}(l:List α):cQ l=l.length:=by
 induction l with
 |nil=>rfl
 |cons x l ih=>grind [cQ]
theorem u_:∀(ks:List Nat)(L:Env)(vs:List AV),vs.length=ks.length->rE ks.length (lH ks L vs)=vs
 |[],L,[],_=>rfl
 |k::ks,L,v::vs,h=>by
  show v::rE ks.length (lH ks L vs)=_;rw[u_ ks L vs (by simpa using h)]
 |[],L,_::_,h=>by cases h
 |_::_,L,[],h=>by cases h
def xn0:∀n,(sD n).length=n
 |0=>rfl
 |n+1=>by show(sD n).length+1=_;rw[xn0 n]
def qD.under{Z:cO}(hp:∀c tm H u,(∀t v,lk u t=B1 v->tm.get t=B1 v/\lk E t=B1 v)->Q (.panic c) u D H->Z (.panic c) ⟨tm,D,up,H⟩){K:KR}{g:Bool}{R0:Env}{rest:List aO}{t:Nat}{b:Bool}{v:AV}(hw:cT b (B1 v)=B1 B4){kf:List Nat}{L0:Env}(y:∀vs R tm H,vs.length=kf.length->mq E (lH kf L0 vs) R tm->mq E (lH kf L0 vs) R0 tm->K g (lH kf L0 vs) R H->oO M ctx rest ⟨tm,D,up,H⟩ Z) :
 ∀{l:List aO}{acc:List Nat}{us:List AV}{L R:Env}{tm:T AV}{H:ar},bq l acc=kf->us.length=acc.length->L=lH acc L0 us->Oy (B1 (t,b)) l->wA t l=B4->tm.get t=B1 v->mq E L R tm->mq E L R0 tm->qD M dh Q E D K l g L R H->oO M ctx (l++rest) ⟨tm,D,up,H⟩ Z
 |[],acc,us,L,R,tm,H,e1,e2,e3,_,_,_,hr,hr0,h=>by
  have e1:acc=kf:=e1;subst e1;subst e3;exact y _ _ _ _ e2 hr hr0 h
 |s::l,acc,us,L,R,tm,H,e1,e2,e3,hg,ho,ht,hr,hr0,h=>by
  rw[J1,XB];have hs:s.guard=B1 (t,b):=hg s (vx ..);have ho:cond (PT s.dst t) B2 (cond s.iv (cond s.dst.isSome (wA t l) B2) (wA t l))=true:=ho;have o:PT s.dst t=false:=by grind
  rw[o,zn]at ho;have q:wA t l=true:=by
   grind
  have:=I5.body hp (ctx:=ctx) (up:=up) (KK:=λ r=>oO M ctx (l++rest) r Z) hr hr0 (show I5 M dh s Q E D (qD M dh Q E D K l) g L R H from h)
   λ F U S H' C J N O=>by
    have e1:bq l (cond s.iv acc (QT (motive:=λ _=>List Nat) acc (λ d=>d::acc) s.dst))=kf:=e1;obtain⟨f,i,j⟩:∃f,f.length=(cond s.iv acc (QT (motive:=λ _=>List Nat) acc (λ d=>d::acc) s.dst)).length/\F=lH (cond s.iv acc (QT (motive:=λ _=>List Nat) acc (λ d=>d::acc) s.dst)) L0 f:=by
     rcases C with⟨z,rfl,_⟩|⟨w,z,rfl,_⟩
     .grind
     .rw [z];cases s.dst with
      |none=>exact⟨us,e2,e3⟩
      |some d=>exact⟨w::us,by simpa using e2,by rw[e3];rfl⟩
    exact qD.under hp hw y e1 i j (λ x G=>hg x (OA _ G)) q (by
     rcases C with⟨_,_,rfl⟩|⟨w,_,_,rfl⟩
     .exact ht
     .cases p:s.dst with
      |none=>exact ht
      |some d =>
       rw[p]at o;show(tm.set d w).get t=_;rw[T.aJ,qy (Nat.ne_of_beq_eq_false o)];exact ht) J N O
  have⟨iv,dst,guard,args,op,V⟩:=s;subst hs;have e:cT b (tm.get t)=B1 true:=by grind
  cases iv with
  |false=>exact bP.intro (m:=aI) e this
  |true=>exact bP.intro (m:=aI) e this
def qD.over{Z:cO}{R0:Env}{rest:List aO}{t:Nat}{b:Bool}{v:AV}(hw:cT b (B1 v)=B1 B2){kf:List Nat}{L0:Env}{H:ar}(j:∀tm,mq E (lH kf L0 (sD kf.length)) R0 tm->oO M ctx rest ⟨tm,D,up,H⟩ Z) :
 ∀{l:List aO}{acc:List Nat}{tm:T AV},bq l acc=kf->Oy (B1 (t,b)) l->wA t l=B4->tm.get t=B1 v->mq E (lH acc L0 (sD acc.length)) R0 tm->oO M ctx (l++rest) ⟨tm,D,up,H⟩ Z
 |[],acc,tm,e1,_,_,_,hr0=>by
  have e1:acc=kf:=e1
  grind
 |s::l,acc,tm,e1,hg,ho,ht,hr0=>by
  rw[J1,XB];have hs:s.guard=B1 (t,b):=hg s (vx ..);have ho:cond (PT s.dst t) B2 (cond s.iv (cond s.dst.isSome (wA t l) B2) (wA t l))=true:=ho;have i:PT s.dst t=false:=by grind
  rw[i,zn]at ho;have e:cT b (tm.get t)=B1 false:=by grind
  have g:Oy (B1 (t,b)) l:=λ x o=>hg x (OA _ o);have e1:bq l (cond s.iv acc (QT (motive:=λ _=>List Nat) acc (λ d=>d::acc) s.dst))=kf:=e1;cases h:s.iv with
  |true =>
   rw[h]at ho e1;cases f:s.dst.isSome with
   |false=>grind
   |true =>
    rw[f]at ho;have:=qD.over hw j e1 g ho ht hr0;have⟨iv,dst,guard,args,op,p⟩:=s;subst hs;subst h;exact bP.intro (m:=aI) e ⟨f,this⟩
  |false =>
   rw[h]at ho e1;have:=qD.over hw j (tm:=eI s.dst .undef tm) e1 g ho (by
    cases c:s.dst with
     |none=>exact ht
     |some d =>
      rw[c]at i;show(tm.set d _).get t=_;rw[T.aJ,qy (Nat.ne_of_beq_eq_false i)];exact ht) (by
    have:=hr0.put s.dst .undef;cases c:s.dst with
     |none=>rw[c]at this;exact this
     |some d=>rw[c]at this;exact this)
   have⟨iv,dst,guard,args,op,p⟩:=s;subst hs;subst h;exact bP.intro (m:=aI) e this
theorem ae0{a b:Option (Nat×Bool)}(h:sJ a b=B4):a=b:=by
 cases a with
 |none=>cases b with
  |none=>rfl
  |some _=>cases h
 |some p=>cases b with
  |none=>cases h
  |some q =>
   have⟨t,x⟩:=p;have⟨u,y⟩:=q;have h:cond (J2 t u) (cond x y (!y)) B2=true:=h
   grind [Ln]
def D9:∀(l:List aO),(Jr l).flatMap (·.2)=l /\ ∀x∈Jr l,Oy x.1 x.2
 |[]=>⟨rfl,λ x c=>by cases c⟩
 |s::l=>by
  have⟨d,h⟩:=D9 l;have e:Jr (s::l)=List.casesOn (motive:=λ _=>List Gj) (Jr l) [(s.guard,[s])] λ g r=>cond (sJ g.1 s.guard) ((g.1,s::g.2)::r) ((s.guard,[s])::g::r):=rfl;rw[e];cases hg:Jr l with
  |nil =>
   rw[hg]at d;exact⟨by simpa using d,λ x c=>by simp at c;subst c;intro y f;grind⟩
  |cons g r =>
   rw[hg]at d h;show(cond (sJ g.1 s.guard) ((g.1,s::g.2)::r) ((s.guard,[s])::g::r)).flatMap _=_ /\ ∀x∈cond (sJ g.1 s.guard) ((g.1,s::g.2)::r) ((s.guard,[s])::g::r),_;cases hs:sJ g.1 s.guard with
   |true =>
    refine⟨by simpa using d,λ x c=>?_⟩;rcases kj.1 c with rfl|c
    .intro y f;rcases kj.1 f with rfl|f
     .grind [ae0]
     .exact h g (vx ..) y f
    grind
   |false =>
    refine⟨by simpa using d,λ x c=>?_⟩;rcases kj.1 c with rfl|c
    .intro y f;grind
    grind
def yM.OY{Z:cO}(hp:∀c tm H j,(∀t v,lk j t=B1 v->tm.get t=B1 v/\lk E t=B1 v)->Q (.panic c) j D H->Z (.panic c) ⟨tm,D,up,H⟩){K:KR}{g:Bool}(m:∀L R tm H,mq E L R tm->K g L R H->Z .normal ⟨tm,D,up,H⟩):∀{gs:List Gj}{L R:Env}{tm:T AV}{H:ar},(∀x∈gs,Oy x.1 x.2)->mq E L R tm->yM M dh Q E D K gs g L R H ->
 oO M ctx (gs.flatMap (·.2)) ⟨tm,D,up,H⟩ Z
 |[],L,R,tm,H,_,hr,h=>m _ _ _ _ hr h
 |x::gs,L,R,tm,H,hg,hr,h=>by
  rw[jz];have r:∀L R tm H,mq E L R tm->yM M dh Q E D K gs g L R H->oO M ctx (gs.flatMap (·.2)) ⟨tm,D,up,H⟩ Z:=λ L R tm H hr h=>yM.OY hp m (by grind) hr h;have i:=hg x (vx ..);have⟨q,l⟩:=x;cases q with
  |none=>exact qD.free hp (R0:=R) (by grind) i hr hr (show qD M dh Q E D (yM M dh Q E D K gs) l g L R H from h)
  |some q =>
   have⟨t,b⟩:=q;cases ho:wA t l with
   |false =>
    have h:cond (wA t l) _ False:=h
    grind
   |true =>
    have h:cond (wA t l) _ False:=h;rw[ho,xu]at h;have⟨v,f,o,d,h⟩:=TV.elim hr h;have kl:cQ (bq l [])=(bq l []).length:=Dc _;have h:B3 g (cT b (B1 v)) λ g w=>wK g w (λ g=>qD M dh Q E D (λ g p _ H=>qB (cQ (bq l [])) (rB (cQ (bq l [])) λ vs H=>yM M dh Q E D K gs g (lH (bq l []) L vs) f H) (rE (cQ (bq l [])) p) H) l g L f H)
     (λ g=>qB (cQ (bq l [])) (rB (cQ (bq l [])) λ vs H=>yM M dh Q E D K gs g (lH (bq l []) L vs) f H) (sD (cQ (bq l []))) H):=h
    have⟨w,hw,h⟩:=B3.elim h;cases w with
    |true =>
     refine qD.under hp (R0:=f) hw (kf:=bq l []) (L0:=L) (λ vs R tm H q u s y=>?_) (acc:=[]) (us:=[]) rfl rfl rfl i ho o d d h
     grind [u_,Zs]
    |false =>
     have h:qB (cQ (bq l [])) (rB (cQ (bq l [])) λ vs H=>yM M dh Q E D K gs g (lH (bq l []) L vs) f H) (sD (cQ (bq l []))) H:=h;rw[kl,Zs _ _ _ _ (xn0 _)]at h;exact qD.over hw (kf:=bq l []) (L0:=L) (by grind) (acc:=[]) rfl i ho o d
def rO.OY{Z:cO}(hp:∀c tm H d,(∀t v,lk d t=B1 v->tm.get t=B1 v/\lk E t=B1 v)->Q (.panic c) d D H->Z (.panic c) ⟨tm,D,up,H⟩){l:List aO}{g:Bool}{H:ar}{K:KR}{tm:T AV}{ks:List Nat}(he:gf ks E tm)(h:rO M dh Q E D l g H K)(i:∀L R tm H,mq E L R tm->K g L R H->Z .normal ⟨tm,D,up,H⟩):oO M ctx l ⟨tm,D,up,H⟩ Z:=by
 have⟨j,f⟩:=D9 l;have:=yM.OY hp (ctx:=ctx) i f (mq.first he) h
 grind
end
end
end Go.Am
namespace Go.Am
noncomputable section
variable{M:ak}{ctx:Ctx}{K:Kp}
def X4(ks:List Nat)(E:Env):∀(L:Env)(t:Nat)(v:AV),bH t ks=B4->lk (dJ ks E L) t=B1 v->lk L t=B1 v\/lk L t=B5/\lk E t=B1 v
 |[],t,v,_,h=>.inr ⟨rfl,h⟩
 |(k,w)::r,t,v,ht,h=>by
  have h:lk (cond (bH k ks) ((k,w)::dJ ks E r) (dJ ks E r)) t=B1 v:=h;rw[wP];cases hm:bH k ks with
  |true =>
   rw[hm,xu,wP]at h;split at h
   .grind
   .rename_i e;rw[qy e];exact X4 ks E r t v ht h
  |false =>
   rw[hm,zn]at h
   by_cases e:k=t
   .grind
   .rw [qy e];exact X4 ks E r t v ht h
def Xg(ks:List Nat)(E:Env)(c:∀t v,lk E t=B1 v->bH t ks=B4):∀(L:Env)(t:Nat)(v:AV),lk (dJ ks E L) t=B1 v->bH t ks=B4
 |[],t,v,h=>c t v h
 |(k,w)::r,t,v,h=>by
  have h:lk (cond (bH k ks) ((k,w)::dJ ks E r) (dJ ks E r)) t=B1 v:=h;cases hm:bH k ks with
  |true =>
   rw[hm,xu,wP]at h;split at h
   .grind
   .exact Xg ks E c r t v h
  |false=>rw[hm,zn]at h;exact Xg ks E c r t v h
def mq.ah{E L R:Env}{tm:T AV}(h:mq E L R tm){ks:List Nat}(d:∀t v,lk E t=B1 v->bH t ks=B4):gf ks (dJ ks E L) tm:=λ t v c=>by
 have hm:=Xg ks E d L t v c;refine⟨?_,hm⟩;rcases X4 ks E L t v hm c with q|⟨f,g⟩
 .exact h.l t v q
 .exact h.e t v f g
def gf.keys{ks:List Nat}{E:Env}{tm:T AV}(h:gf ks E tm):∀t v,lk E t=B1 v->bH t ks=true:=λ t v c=>(h t v c).2
def gf.dh{ks:List Nat}{E d:Env}{tm c:T AV}(h:gf ks E tm)(f:∀t v,lk d t=B1 v->c.get t=B1 v/\lk E t=B1 v):gf ks d c:=λ t v g=>⟨(f t v g).1,(h t v (f t v g).2).2⟩
def TV.cv{E L R:Env}{x:bL}{g:Bool}{P:Bool->AV->Prop}{tm:T AV}(hr:mq E L R tm)(h:CV E L R x g P):∃v,rX tm x=B1 v/\P g v:=by
 cases x with
 |tmp t=>have⟨v,_,c,_,d⟩:=TV.elim hr (show TV E L R t g (λ g _ v=>P g v)from h);exact⟨v,c,d⟩
 |const v=>exact⟨v,rfl,h⟩
 |eH v=>exact⟨_,rfl,h⟩
 |func v=>exact⟨_,rfl,h⟩
def OV.elim{ks:List Nat}{E:Env}{x:bL}{g:Bool}{P:Bool->AV->Prop}{tm:T AV}(hr:gf ks E tm)(h:OV E x g P):∃v,rX tm x=B1 v/\P g v:=by
 cases x with
 |tmp t=>have⟨v,c,d⟩:=LK.elim (show LK g (lk E t) P from h);exact⟨v,(hr t v c).1,d⟩
 |const v=>exact⟨v,rfl,h⟩
 |eH v=>exact⟨_,rfl,h⟩
 |func v=>exact⟨_,rfl,h⟩
def xb2{tm:T AV}{x:bL}{v:AV}{P:AV->Prop}(h:rX tm x=B1 v)(hp:P v):FK tm x P:=by
 cases x with
 |tmp t=>exact bP.intro (m:=aI) h hp
 |const c=>cases h;exact hp
 |eH c=>cases h;exact hp
 |func c=>cases h;exact hp
def nE.wp{a b:ai}{g:Bool}{v:AV}{A B:Bool->Prop}{tm:T AV}{c:bL}{st:St}{Q:cO}(d:rX st.tm c=B1 v)(h:nE g v A B)(ha:A g->WP M ctx a st Q)(hb:B g->WP M ctx b st Q):WP M ctx (.cond c a b) st Q:=by
 obtain⟨q,rfl,h⟩:=h.elim;refine xb2 d ?_;cases q with
 |true=>exact ha h
 |false=>exact hb h
def fh:ai->Nat
 | .seq a b=>fh a+fh b+1
 | .cond _ a b=>fh a+fh b+1
 | .block _ b=>fh b+1
 | .loop _ b=>fh b+1
 | .scope b=>fh b+1
 |_=>0
def W3.wp:∀(n:Nat)(c:ai),fh c<=n -> ∀{g:Bool}{Q:aD}{E:Env}{D:List aK}{H:ar}{tm:T AV}{up:Option aG},W3 M ctx K c g Q E D H->gf K.ah E tm->WP M ctx c ⟨tm,D,up,H⟩ (QQ K.ah Q up):=by
 intro n
 induction n with
 |zero =>
  intro c hc g Q E D H tm up h he;cases c with
  |skip=>exact⟨rfl,E,he,h⟩
  |label _=>exact⟨rfl,E,he,h⟩
  |exit _=>exact⟨rfl,E,he,h⟩
  |goto _=>exact⟨rfl,E,he,h⟩
  |ret=>exact⟨rfl,E,he,h⟩
  |stuck=>exact Nk h
  |region l=>exact rO.OY (λ c w H' j p i=>⟨rfl,j,he.dh p,i⟩) he (show rO M K.dh Q E D l g H _ from h) λ L R tm H hr hk=>⟨rfl,_,hr.ah he.keys,hk⟩
  |rangeFunc f k =>
   have⟨v,s,h⟩:=OV.elim he (show OV E f g _ from h);exact xb2 s (by
    have:=h tm up he;unfold Jv at this⊢;split
    .rename_i hr;rw[hr]at this;exact Pq this λ e st⟨p,i,o⟩=>⟨p,E,by rw[i];exact he,o⟩
    .rename_i l hr;rw[hr]at this;exact FJ (m:=aI) this λ d q=>Pq q λ e st⟨p,i,o⟩=>⟨p,E,by rw[i];exact he,o⟩)
  |seq _ _=>grind [fh]
  |cond _ _ _=>grind [fh]
  |block _ _=>grind [fh]
  |loop _ _=>grind [fh]
  |scope _=>grind [fh]
 |succ n ih =>
  intro c hc g Q E D H tm up h he;have t:∀{a b:ai}{tm:T AV}{H:ar},fh b<=n->WP M ctx a ⟨tm,D,up,H⟩ (QQ K.ah (fp (W3 M ctx K b) Q) up)->WP M ctx a ⟨tm,D,up,H⟩ (Eg (WP M ctx b) (QQ K.ah Q up)):=λ{a b tm H}hb h=>p5 h λ e st⟨p,j,i,o⟩=>by
   have⟨w,D',U,H'⟩:=st;subst p;cases e with
   |normal=>exact ih b hb o i
   |exit _=>exact⟨rfl,j,i,o⟩
   |goto _=>exact⟨rfl,j,i,o⟩
   |ret=>exact⟨rfl,j,i,o⟩
   |panic _=>exact⟨rfl,j,i,o⟩
  have z:∀{c:bL}{x y:ai}{E:Env}{tm:T AV}{v:AV}{g:Bool}{Q:aD}{H:ar},fh x<=n->fh y<=n->rX tm c=B1 v->gf K.ah E tm->nE g v (λ g=>W3 M ctx K x g Q E D H) (λ g=>W3 M ctx K y g Q E D H)->WP M ctx (.cond c x y) ⟨tm,D,up,H⟩ (QQ K.ah Q up) :=
   λ{c x y E tm v g Q H}hx hy s he h=>nE.wp (tm:=tm) (st:=⟨tm,D,up,H⟩) s h (by grind) (by grind)
  cases c with
  |seq a b =>
   have O:fh a+fh b<=n:=by grind [fh]
   have gen:W3 M ctx K a g (fp (W3 M ctx K b) Q) E D H->WP M ctx (.seq a b) ⟨tm,D,up,H⟩ (QQ K.ah Q up):=λ h=>t (a:=a) (b:=b) (by omega) (ih a (by omega) h he);have pE:∀(l:List aO)(N:KR),a=.region l->rO M K.dh Q E D l g H N->(∀L R tm H,mq E L R tm->N g L R H->WP M ctx b ⟨tm,D,up,H⟩ (QQ K.ah Q up))->WP M ctx (.seq a b) ⟨tm,D,up,H⟩ (QQ K.ah Q up):=λ l N e Y hk=>by
    subst e;exact rO.OY (Z:=Eg (WP M ctx b) (QQ K.ah Q up)) (λ c w H' j p i=>⟨rfl,j,he.dh p,i⟩) he Y hk
   cases a with
   |region l =>
    have plain:(rO M K.dh Q E D l g H λ g L _ H=>W3 M ctx K b g Q (dJ K.ah E L) D H)->WP M ctx (.seq (.region l) b) ⟨tm,D,up,H⟩ (QQ K.ah Q up):=λ h=>pE l _ rfl h λ L R tm H hr hk=>ih b (by omega) hk (hr.ah he.keys);cases b with
    |cond c x y =>
     have S:fh x+fh y+1<=n:=by grind [fh]
     refine pE l _ rfl h λ L R tm H hr hk=>?_;have⟨v,s,hk⟩:=TV.cv hr hk;exact z (by omega) (by omega) s (hr.ah he.keys) hk
    |seq b1 r =>
     cases b1 with
     |cond c x y =>
      have S:fh x+fh y+1+fh r+1<=n:=by grind [fh]
      refine pE l _ rfl h λ L R tm H hr hk=>?_;have⟨v,s,hk⟩:=TV.cv hr hk;exact t (by omega) (z (by omega) (by omega) s (hr.ah he.keys) hk)
     |_=>exact plain h
    |_=>exact plain h
   |_=>exact gen h
  |cond c x y =>
   have O:fh x+fh y<=n:=by grind [fh]
   have⟨v,s,h⟩:=OV.elim he (show OV E c g _ from h)
   grind
  |block id b =>
   have hb:fh b<=n:=by grind [fh]
   exact p5 (c:=b) (ih b hb (show W3 M ctx K b g (eY id Q) E D H from h) he) λ e st⟨p,j,i,o⟩=>by cases e<;>exact⟨p,j,i,o⟩
  |scope b =>
   have hb:fh b<=n:=by grind [fh]
   refine p5 (c:=b) (ih b hb (show W3 M ctx K b g (kH b Q) E D H from h) he) λ e st⟨p,j,i,o⟩=>?_;cases e with
   |goto l=>exact⟨o.1,p,j,i,o.2⟩
   |normal=>exact⟨p,j,i,o⟩
   |exit _=>exact⟨p,j,i,o⟩
   |ret=>exact⟨p,j,i,o⟩
   |panic _=>exact⟨p,j,i,o⟩
  |loop ah b =>
   have hb:fh b<=n:=by grind [fh]
   cases ah with
   |some _=>exact Nk h
   |none =>
    have⟨I,⟨n0,V,h0,hs⟩,u⟩:=(show cK (W3 M ctx K b) Q E D H from h)
    refine⟨λ n st=>st.up=up /\ ∃j,gf K.ah j st.tm/\I n j st.aY st.H,⟨n0,rfl,V,hs.sub he,h0⟩,λ n st⟨p,j,i,o⟩=>?_⟩;have⟨w,D',U,H'⟩:=st;subst p;refine p5 (c:=b) (ih b hb (u n j D' H' o) i) λ e st⟨C,J,F,G⟩=>?_;cases e with
    |normal=>have⟨m,W,q1,q2,q3⟩:=G;exact⟨m,q3,C,W,q2.sub F,q1⟩
    |exit _=>exact⟨C,J,F,G⟩
    |goto _=>exact⟨C,J,F,G⟩
    |ret=>exact⟨C,J,F,G⟩
    |panic _=>exact⟨C,J,F,G⟩
  |skip=>exact⟨rfl,E,he,h⟩
  |label _=>exact⟨rfl,E,he,h⟩
  |exit _=>exact⟨rfl,E,he,h⟩
  |goto _=>exact⟨rfl,E,he,h⟩
  |ret=>exact⟨rfl,E,he,h⟩
  |stuck=>exact Nk h
  |region l=>exact ih _ (xz _) h he
  |rangeFunc f k=>exact ih _ (xz _) h he
def jI(E:Env)(H:ar):List ep->(List AV->Prop)->Prop
 |[],P=>P []
 | .tmp t::rs,P=>LK B4 (lk E t) λ _ v=>jI E H rs λ vs=>P (v::vs)
 | .kU a::rs,P=>LK B4 (lk E a) λ _ v=>B3 B4 (Op.ae [v] H) λ _ v=>jI E H rs λ vs=>P (v::vs)
 | .cS n a::rs,P=>LK B4 (lk E a) λ _ v=>B3 B4 (Op.aq n [v] H) λ _ v=>jI E H rs λ vs=>P (v::vs)
def nU(M:ak)(rs:List ep)(E:Env)(Q:bI->ar->Prop):List aK->Option aG->ar->Prop
 |[],B5,H=>jI E H rs λ l=>Q (.ret (jG l)) H
 |[],B1 c,H=>Q (.panic c) H
 | .iz b::ds,m,H=>H.get b=B1 (.deferred (B1 []))/\nU M rs E Q ds m (H.set b (.deferred B5))
 | .fn (.func f) args::ds,m,H=>∃v up' H',jK M f args (B1 (m.getD [])) H (.ret v) (B1 up') H'/\bP aI (nY m up') λ m'=>nU M rs E Q ds m' H'
 | .fn (.yield _) _::_,_,_=>False
def jI.elim{ks:List Nat}{E:Env}{tm:T AV}(he:gf ks E tm){H:ar}:∀{rs:List ep}{P:List AV->Prop},jI E H rs P -> ∃l,eh H tm rs=B1 l/\P l
 |[],P,h=>⟨[],rfl,h⟩
 | .tmp t::rs,P,h=>by
  have⟨v,c,h⟩:=LK.elim (show LK B4 (lk E t) _ from h);have⟨l,d,h⟩:=jI.elim he h;exact⟨v::l,by rw[GR,(he t v c).1,d];rfl,h⟩
 | .kU t::rs,P,h=>by
  have⟨v,c,h⟩:=LK.elim (show LK B4 (lk E t) _ from h);have⟨w,d,h⟩:=B3.elim h;have⟨l,f,h⟩:=jI.elim he h;exact⟨w::l,by rw[xnn,(he t v c).1,qr,d,qr,f];rfl,h⟩
 | .cS n t::rs,P,h=>by
  have⟨v,c,h⟩:=LK.elim (show LK B4 (lk E t) _ from h);have⟨w,d,h⟩:=B3.elim h;have⟨l,f,h⟩:=jI.elim he h;exact⟨w::l,by rw[xno,(he t v c).1,qr,d,qr,f];rfl,h⟩
theorem nU.TK{ks:List Nat}{E:Env}{tm:T AV}(he:gf ks E tm){rs:List ep}{Q:bI->ar->Prop}:∀{D:List aK}{m:Option aG}{H:ar},nU M rs E Q D m H->Av M rs tm Q D m H
 |[],B5,H,h=>by have⟨l,d,g⟩:=jI.elim he h;exact bP.intro (m:=aI) d g
 |[],B1 c,H,h=>h
 | .iz b::ds,m,H,⟨d,g⟩=>⟨d,nU.TK he g⟩
 | .fn (.func f) args::ds,m,H,⟨v,up',H',d,g⟩=>⟨v,up',H',d,FJ g λ i h=>nU.TK he h⟩
 | .fn (.yield _) _::_,_,_,h=>h
def eG(M:ak)(rs:List ep)(Q:bI->ar->Prop):aD:=λ e E D H=>match e with
 | .normal=>nU M rs E Q D B5 H
 | .ret=>nU M rs E Q D B5 H
 | .panic c=>nU M rs E Q D (B1 c) H
 |_=>False
def FZ(M:ak)(f:Nat)(vs:List AV)(H:ar)(Q:bI->ar->Prop):Prop:=∃e H',CALL M f vs H e H'/\Q e H'
def uZ(Q:AV->ar->Prop)(e:bI)(H:ar):Prop:=match e with
 | .ret v=>Q v H
 | .panic _=>False
def zd(M:ak)(f:Nat)(vs:List AV)(H:ar)(Q:AV->ar->Prop):Prop:=FZ M f vs H (uZ Q)
def zd.elim{f:Nat}{vs:List AV}{H:ar}{Q:AV->ar->Prop}(h:zd M f vs H Q):∃v H',CALL M f vs H (.ret v) H'/\Q v H':=by
 have⟨e,H',d,c⟩:=h;cases e with
 |ret v=>exact⟨v,H',d,c⟩
 |panic _=>exact c.elim
theorem zd.intro{f:Nat}{vs:List AV}{H:ar}{Q:AV->ar->Prop}{v:AV}{H':ar}(h:CALL M f vs H (.ret v) H')(c:Q v H'):zd M f vs H Q:=⟨_,H',h,c⟩
def zd.mono{f:Nat}{vs:List AV}{H:ar}{Q Q':AV->ar->Prop}(h:zd M f vs H Q)(g:∀v H',Q v H'->Q' v H'):zd M f vs H Q':=by
 have⟨v,H',c,d⟩:=h.elim;exact⟨_,H',c,g _ _ d⟩
def C3.q{m:Bool}{f:Nat}{vs:List AV}{H:ar}{R:AV->ar->Prop}{P:Bool->AV->ar->Prop}(h:zd M f vs H R)(hk:∀v H',R v H'->P m v H'):C3 M m (.func f) vs H P:=by
 have⟨v,H',c,d⟩:=h.elim;exact⟨v,H',c,hk v H' d⟩
def C3.ret{m:Bool}{f:Nat}{vs:List AV}{H:ar}{P:Bool->AV->ar->Prop}{v:AV}{H':ar}(h:CALL M f vs H (.ret v) H')(hk:P m v H'):C3 M m (.func f) vs H P:=⟨v,H',h,hk⟩
def C3.tH{m:Bool}{l:Nat}{vs:List AV}{H:ar}{P:Bool->AV->ar->Prop}{v:AV}{H':ar}(h:sY M l vs H (.ret v) H')(hk:P m v H'):C3 M m (.yield l) vs H P:=⟨v,H',h,hk⟩
def P3.q{m:Bool}{X:aG->ar->Prop}{f:Nat}{vs:List AV}{H:ar}{R:bI->ar->Prop}{P:Bool->AV->ar->Prop}(h:FZ M f vs H R)(hk:∀v H',R (.ret v) H'->P m v H')(i:∀c H',R (.panic c) H'->X c H'):P3 M m X (.func f) vs H P:=by
 have⟨e,H',d,g⟩:=h;refine⟨e,H',d,?_⟩
 grind
def kK:Nat->List AV->Env
 |_,[]=>[]
 |i,v::vs=>(i,v)::kK (i+1) vs
def jP:Nat->Nat->List Nat->Bool
 |_,0,_=>B4
 |i,n+1,ks=>bH i ks && jP (i+1) n ks
def _z:∀(vs:List AV)(i t:Nat)(tm:T AV),(jL i vs tm).get t=if i<=t then(match vs[t-i]? with|some v=>B1 v|none=>tm.get t)else tm.get t
 |[],i,t,tm=>by simp[jL]
 |v::vs,i,t,tm=>by
  rw[jL,_z vs (i+1) t,T.aJ]
  grind
def xmt:∀(vs:List AV)(i t:Nat)(v:AV),lk (kK i vs) t=B1 v->i<=t/\vs[t-i]? = B1 v
 |[],i,t,v,h=>by cases h
 |w::vs,i,t,v,h=>by
  rw[kK,wP]at h;split at h
  .grind
  .have ⟨c,d⟩:=xmt vs (i+1) t v h
   grind
def xc6:∀(n i:Nat)(ks:List Nat),jP i n ks=B4 -> ∀t,i<=t->t<i+n->bH t ks=B4
 |0,i,ks,_,t,h1,h2=>by omega
 |n+1,i,ks,h,t,h1,h2=>by
  simp only[jP,ze]at h
  by_cases e:i=t
  .grind
  .exact xc6 n (i+1) ks h.2 t (by omega) (by omega)
def VV{ks:List Nat}{vs:List AV}(h:jP 0 vs.length ks=B4):gf ks (kK 0 vs) (jL 0 vs .nil):=λ t v d=>by
 have⟨_,c⟩:=xmt vs 0 t v d;rw[Nat.sub_zero]at c;refine⟨by simp_all[_z],xc6 _ 0 ks h t (xz _) ?_⟩
 grind
structure Fn3 where
 n:Nat
 F:bZ
 K:Kp
def pre:ai->List ai
 | .seq a b=>.seq a b::kB (pre a) (pre b)
 | .cond c a b=>.cond c a b::kB (pre a) (pre b)
 | .block i b=>.block i b::pre b
 | .loop k b=>.loop k b::pre b
 | .scope b=>.scope b::pre b
 |c=>[c]
def part(c:ai)(k:Nat):ai:=QT (motive:=λ _=>ai) .stuck (λ c=>c) (nth (pre c) k)
def dC:ai->Nat
 | .seq a b=>dC a+dC b+1
 | .cond _ a b=>dC a+dC b+1
 | .block _ b=>dC b+1
 | .loop _ b=>dC b+1
 | .scope b=>dC b+1
 |_=>1
def HN:∀(c:ai),(pre c).length=dC c
 | .seq a b=>by simp[pre,dC,pD,HN a,HN b]
 | .cond _ a b=>by simp[pre,dC,pD,HN a,HN b]
 | .block _ b=>by simp[pre,dC,HN b]
 | .loop _ b=>by simp[pre,dC,HN b]
 | .scope b=>by simp[pre,dC,HN b]
 | .skip=>rfl
 | .label _=>rfl
 | .exit _=>rfl
 | .goto _=>rfl
 | .ret=>rfl
 | .stuck=>rfl
 | .region _=>rfl
 | .rangeFunc _ _=>rfl
def Xi(c:ai):∃l,pre c=c::l:=by cases c<;>exact⟨_,rfl⟩
def XQ{α:Type}:∀(l:List α)(i:Nat),nth l i=l[i]?
 |[],i=>rfl
 |x::l,0=>rfl
 |x::l,i+1=>by rw[jc,<-XQ l i];rfl
def Ku:∀(r:ai)(k:Nat)(c:ai),(pre r)[k]? = B1 c -> ∃l,(pre r).drop k=pre c++l:=by
 intro r
 induction r with
 |seq a b iha ihb =>
  intro k c h;cases k with
  |zero=>simp[pre]at h;simp_all
  |succ k =>
   simp only[pre,pD,jc]at h
   grind [pre,pD,Hk,jt]
 |cond x a b iha ihb =>
  intro k c h;cases k with
  |zero=>simp[pre]at h;simp_all
  |succ k =>
   simp only[pre,pD,jc]at h
   grind [pre,pD,Hk,jt]
 |block i b ih =>
  intro k c h;cases k with
  |zero=>simp[pre]at h;simp_all
  |succ k=>grind [pre]
 |loop i b ih =>
  intro k c h;cases k with
  |zero=>simp[pre]at h;simp_all
  |succ k=>grind [pre]
 |scope b ih =>
  intro k c h;cases k with
  |zero=>simp[pre]at h;simp_all
  |succ k=>grind [pre]
 |_ =>
  intro k c h;cases k with
  |zero=>simp[pre]at h;simp_all
  |succ k=>grind [pre]
def xds{r:ai}{k:Nat}{c:ai}(h:(pre r)[k]? = B1 c):part r k=c:=by
 simp_all[part,XQ]
def ο{r:ai}{k:Nat}{c:ai}(h:part r k=c)(i:c≠ .stuck):∀(j:Nat)(d:ai),(pre c)[j]? = B1 d->part r (k+j)=d:=λ j d f=>by
 have g:(pre r)[k]? = B1 c:=by
  unfold part at h;rw[XQ]at h;cases m:(pre r)[k]? with
  |none=>simp_all
  |some x=>simp_all
 have⟨l,hl⟩:=Ku r k c g;refine xds ?_;rw[<-HW,hl,yw (qo.1 f).1,f]
def DL(c:ai):(pre c)[0]? = B1 c:=by have⟨l,h⟩:=Xi c;grind
def GH{r:ai}{k:Nat}{c a b:ai}(h:part r k=c)(d:c≠ .stuck)(e:∃x l,pre c=x::(pre a++l)):part r (k+1)=a:=by
 have⟨x,l,e⟩:=e;have⟨f,e'⟩:=Xi a;simp_all[ο]
def OG{r:ai}{k:Nat}{c a b:ai}(h:part r k=c)(d:c≠ .stuck)(e:∃x,pre c=x::(pre a++pre b)):part r (k+1+dC a)=b:=by
 have⟨x,e⟩:=e;have⟨f,e'⟩:=Xi b;rw[wv];exact ο h d (1+dC a) b (by rw[e,Nat.add_comm,jc,jd (by rw[HN];exact qm _),HN,Hj,e'];rfl)
def U(M:ak)(ctx:Ctx)(K:Kp)(X:Nat->WX):ai->Nat->WX
 | .skip,_,g,Q,E,D,H=>rN g Q .normal E D H
 | .label _,_,g,Q,E,D,H=>rN g Q .normal E D H
 | .exit id,_,g,Q,E,D,H=>rN g Q (.exit id) E D H
 | .goto l,_,g,Q,E,D,H=>rN g Q (.goto l) E D H
 | .ret,_,g,Q,E,D,H=>rN g Q .ret E D H
 | .stuck,_,_,_,_,_,_=>False
 | .region l,_,g,Q,E,D,H=>rO M K.dh Q E D l g H λ g L _ H=>rN g Q .normal (dJ K.ah E L) D H
 | .seq a b,k,g,Q,E,D,H=>match a,b with
  | .region l,.cond c x y=>rO M K.dh Q E D l g H λ g L R H=>CV E L R c g λ g v=>nE g v (λ g=>(Ox (motive:=λ _=>WX) (U M ctx K X x (k+3)) (X (k+3)) (bH (k+3) K.named)) g Q (dJ K.ah E L) D H) (λ g=>(Ox (motive:=λ _=>WX) (U M ctx K X y (k+3+dC x)) (X (k+3+dC x)) (bH (k+3+dC x) K.named)) g Q (dJ K.ah E L) D H)
  | .region l,.seq (.cond c x y) r=>rO M K.dh Q E D l g H λ g L R H=>CV E L R c g λ g v=>nE g v (λ g=>(Ox (motive:=λ _=>WX) (U M ctx K X x (k+4)) (X (k+4)) (bH (k+4) K.named)) g (fp (Ox (motive:=λ _=>WX) (U M ctx K X r (k+4+dC x+dC y)) (X (k+4+dC x+dC y)) (bH (k+4+dC x+dC y) K.named)) Q) (dJ K.ah E L) D H)
   (λ g=>(Ox (motive:=λ _=>WX) (U M ctx K X y (k+4+dC x)) (X (k+4+dC x)) (bH (k+4+dC x) K.named)) g (fp (Ox (motive:=λ _=>WX) (U M ctx K X r (k+4+dC x+dC y)) (X (k+4+dC x+dC y)) (bH (k+4+dC x+dC y) K.named)) Q) (dJ K.ah E L) D H)
  | .region l,b=>rO M K.dh Q E D l g H λ g L _ H=>(Ox (motive:=λ _=>WX) (U M ctx K X b (k+2)) (X (k+2)) (bH (k+2) K.named)) g Q (dJ K.ah E L) D H
  |a,b=>(Ox (motive:=λ _=>WX) (U M ctx K X a (k+1)) (X (k+1)) (bH (k+1) K.named)) g (fp (Ox (motive:=λ _=>WX) (U M ctx K X b (k+1+dC a)) (X (k+1+dC a)) (bH (k+1+dC a) K.named)) Q) E D H
 | .cond c x y,k,g,Q,E,D,H=>OV E c g λ g v=>nE g v (λ g=>(Ox (motive:=λ _=>WX) (U M ctx K X x (k+1)) (X (k+1)) (bH (k+1) K.named)) g Q E D H) (λ g=>(Ox (motive:=λ _=>WX) (U M ctx K X y (k+1+dC x)) (X (k+1+dC x)) (bH (k+1+dC x) K.named)) g Q E D H)
 | .block id b,k,g,Q,E,D,H=>(Ox (motive:=λ _=>WX) (U M ctx K X b (k+1)) (X (k+1)) (bH (k+1) K.named)) g (eY id Q) E D H
 | .scope b,k,g,Q,E,D,H=>(Ox (motive:=λ _=>WX) (U M ctx K X b (k+1)) (X (k+1)) (bH (k+1) K.named)) g (kH b Q) E D H
 | .loop (B1 _) _,_,_,_,_,_,_=>False
 | .loop B5 b,k,g,Q,E,D,H=>cK (Ox (motive:=λ _=>WX) (U M ctx K X b (k+1)) (X (k+1)) (bH (k+1) K.named)) Q E D H
 | .rangeFunc f n,_,g,Q,E,D,H=>OV E f g λ g v=>iB M K.ah ctx n E D H Q v
def Vj(r:ai):∀(n:Nat)(c:ai),dC c<=n -> ∀k,part r k=c->U M ctx K (λ j=>W3 M ctx K (part r j)) c k=W3 M ctx K c:=by
 intro n
 induction n with
 |zero=>intro c p;cases c<;>simp[dC]at p
 |succ n ih =>
  intro c p k hk;have sub:∀(d:ai)(j:Nat),dC d<=n->part r j=d->Ox (motive:=λ _=>WX) (U M ctx K (λ j=>W3 M ctx K (part r j)) d j) (W3 M ctx K (part r j)) (bH j K.named)=W3 M ctx K d:=λ d j t u=>by
   cases bH j K.named with
   |true=>grind
   |false=>grind
  have pl:=@GH r;have w:=@OG r;cases c with
  |seq a b =>
   have e:pre (.seq a b)=.seq a b::(pre a++pre b):=by simp[pre,pD]
   have ha:=GH (b:=b) hk (by simp) ⟨_,_,e⟩;have hb:=OG hk (by simp) ⟨_,e⟩;have hs:dC a+dC b<=n:=by grind [dC]
   have gen:(Ox (motive:=λ _=>WX) (U M ctx K (λ j=>W3 M ctx K (part r j)) a (k+1)) (W3 M ctx K (part r (k+1))) (bH (k+1) K.named))=W3 M ctx K a/\(Ox (motive:=λ _=>WX) (U M ctx K (λ j=>W3 M ctx K (part r j)) b (k+1+dC a)) (W3 M ctx K (part r (k+1+dC a))) (bH (k+1+dC a) K.named))=W3 M ctx K b :=
    ⟨sub a _ (by omega) ha,sub b _ (by omega) hb⟩
   cases a with
   |region l =>
    have plain:(Ox (motive:=λ _=>WX) (U M ctx K (λ j=>W3 M ctx K (part r j)) b (k+2)) (W3 M ctx K (part r (k+2))) (bH (k+2) K.named))=W3 M ctx K b:=sub b _ (by omega) hb;cases b with
    |cond c x y =>
     have e2:pre (.cond c x y)=.cond c x y::(pre x++pre y):=by simp[pre,pD]
     have h:=GH (b:=y) hb (by simp) ⟨_,_,e2⟩;have o:=OG hb (by simp) ⟨_,e2⟩;have m:dC x+dC y+1<=n:=by grind [dC]
     have s1:=sub x (k+3) (by omega) h;have s2:=sub y (k+3+dC x) (by omega) o;funext g Q E D H;simp only[U,W3,s1,s2]
    |seq b1 q =>
     cases b1 with
     |cond c x y =>
      have e1:pre (.seq (.cond c x y) q)=.seq (.cond c x y) q::(pre (.cond c x y)++pre q):=by simp[pre,pD]
      have e2:pre (.cond c x y)=.cond c x y::(pre x++pre y):=by simp[pre,pD]
      have f:=GH (b:=q) hb (by simp) ⟨_,_,e1⟩;have s:=OG hb (by simp) ⟨_,e1⟩;have h:=GH (b:=y) f (by simp) ⟨_,_,e2⟩;have o:=OG f (by simp) ⟨_,e2⟩;have m:dC x+dC y+1+dC q+1<=n:=by grind [dC]
      have s1:=sub x (k+4) (by omega) h;have s2:=sub y (k+4+dC x) (by omega) o;have z:=sub q (k+4+dC x+dC y) (by omega) (by rw[<-s];simp only[dC];congr 1;omega);simp_all[U,W3]
     |_=>simp_all[U,W3]
    |_=>simp_all[U,W3]
   |_=>funext g Q E D H;simp only[U,W3]at gen⊢;simp only[gen.1,gen.2]
  |cond c x y =>
   have e2:pre (.cond c x y)=.cond c x y::(pre x++pre y):=by simp[pre,pD]
   have h:=GH (b:=y) hk (by simp) ⟨_,_,e2⟩;have o:=OG hk (by simp) ⟨_,e2⟩;have m:dC x+dC y<=n:=by grind [dC]
   have s1:=sub x (k+1) (by omega) h;have s2:=sub y (k+1+dC x) (by omega) o;simp_all[U,W3]
  |block i b =>
   have s1:=sub b (k+1) (by grind [dC]) (GH (b:=b) hk (by simp) (by simp_all[pre]));simp_all[U,W3]
  |scope b =>
   have s1:=sub b (k+1) (by grind [dC]) (GH (b:=b) hk (by simp) (by simp_all[pre]));simp_all[U,W3]
  |loop i b =>
   have s1:=sub b (k+1) (by grind [dC]) (GH (b:=b) hk (by simp) (by simp_all[pre]));funext g Q E D H;cases i with
   |none=>grind [U,W3]
   |some _=>rfl
  |_=>funext g Q E D H;rfl
def PH:∃F:ak->Ctx->Kp×ai->WX,F=λ M ctx p=>W3 M ctx p.1 p.2:=⟨_,rfl⟩
def W:ak->Ctx->Kp×ai->WX:=Classical.choose PH
theorem mg(M:ak)(ctx:Ctx)(p:Kp×ai):W M ctx p=W3 M ctx p.1 p.2:=congrFun (congrFun (congrFun (Classical.choose_spec PH) M) ctx) p
def funcAt(P:Kb)(n:Nat):bZ:=QT (motive:=λ _=>bZ) ⟨[],.stuck,[]⟩ (λ f=>f) ((aX P).func n)
def ib(F:bZ)(i:Nat):dL:=QT (motive:=λ _=>dL) ⟨[],.stuck,.stuck⟩ (λ l=>l) (nth F.loops i)
def Ew{M:ak}{ctx:Ctx}{K:Kp}{r:ai}{k:Nat}{g:Bool}{Q:aD}{E:Env}{D:List aK}{H:ar}{R:Prop}(h:U M ctx K (λ j=>W M ctx (K,part r j)) (part r k) k g Q E D H=R):W M ctx (K,part r k) g Q E D H=R:=by
 rw[<-h];have e:(λ j=>W M ctx (K,part r j))=λ j=>W3 M ctx K (part r j):=by grind [mg]
 rw[e,Vj (ctx:=ctx) (K:=K) r _ (part r k) (qm _) k rfl,mg]
abbrev uu:AV:=.undef
def Ud(c:ai):part c 0=c:=xds (DL c)
def xi{α β:Type}{a b:α}{x y:β}(h:(a,x)=(b,y)):a=b/\x=y:=by grind
def R9{M:ak}{f:Nat}{fn:bZ}(j:M.func f=B1 fn){ks:Kp}{vs:List AV}(hk:jP 0 vs.length ks.ah=B4){H:ar}{Q:bI->ar->Prop}
 (h:W M ⟨B5,f⟩ (ks,part fn.body 0) B4 (eG M fn.results Q) (kK 0 vs) [] H):FZ M f vs H Q:=by
 rw[mg,Ud]at h;refine q8k j (p5 (W3.wp (fh fn.body) fn.body (qm _) (up:=B5) h (VV hk)) λ e st⟨g,i,o,d⟩=>?_);have⟨tm,D,up,H'⟩:=st;have g:up=none:=g;subst g;have mono:∀{m:Option aG},nU M fn.results i Q D m H'->Av M fn.results tm (λ e H=>(B5:Option aG)=B5/\Q e H) D m H':=λ{m}h=>by
  have l:nU M fn.results i (λ e H=>(B5:Option aG)=B5/\Q e H) D m H':=by
   grind
  grind [nU.TK]
 cases e with
 |normal=>exact mono d
 |ret=>exact mono d
 |panic c=>exact mono d
 |exit _=>exact d.elim
 |goto _=>exact d.elim
section
variable(E:Env)(H:ar)(K:Bool->AV->Prop)(K2:Bool->AV->ar->Prop)(A B:Bool->Prop)
def Lz(E:Env)(n:Nat)(K:Bool->AV->Prop):Prop:=LK B4 (lk E n) K
def Ly(g:Bool)(E:Env)(n:Nat)(K:Bool->AV->Prop):Prop:=LK g (lk E n) K
def Fl(g:Bool)(i:Nat)(a:AV)(H:ar)(K:Bool->AV->Prop):Prop:=B3 g (Op.fieldAddr i [a]) λ g x=>B3 g (Op.ae [x] H) K
def Nf(g:Bool)(i:Nat)(a:AV)(H:ar)(K:Bool->AV->Prop):Prop:=B3 g (Op.nilCheck [a]) λ g x=>Fl g i x H K
def Fs(g:Bool)(i:Nat)(a b:AV)(H:ar)(K:Bool->AV->ar->Prop):Prop:=B3 g (Op.fieldAddr i [a]) λ g x=>i9 g (Op.store 1 [x,b] H) K
def Ns(g:Bool)(i:Nat)(a b:AV)(H:ar)(K:Bool->AV->ar->Prop):Prop:=B3 g (Op.nilCheck [a]) λ g x=>Fs g i x b H K
def Xl(g:Bool)(a b:AV)(H:ar)(K:Bool->AV->Prop):Prop:=B3 g (Op.aQ 1 [a,b]) λ g x=>B3 g (Op.ae [x] H) K
def Xs(g:Bool)(a b c:AV)(H:ar)(K:Bool->AV->ar->Prop):Prop:=B3 g (Op.aQ 1 [a,b]) λ g x=>i9 g (Op.store 1 [x,c] H) K
def Bn(g:Bool)(o:BinOp)(a b:AV)(K:Bool->AV->Prop):Prop:=B3 g (Op.bin o [a,b]) K
def Cb(g:Bool)(o:BinOp)(a b:AV)(A B:Bool->Prop):Prop:=B3 g (Op.bin o [a,b]) λ g v=>nE g v A B
def Gt(g:Bool)(M:ak)(c:Ctx)(p:Kp×ai)(Q:aD)(E:Env)(D:List aK)(H:ar):Prop:=rN g (fp (W M c p) Q) .normal E D H
def Zz(n:Nat):Lz E n K=LK B4 (lk E n) K:=propext kq
def aa4(n:Nat):Ly B4 E n K=LK B4 (lk E n) K:=propext kq
def aa2(i:Nat)(a:AV):Fl B4 i a H K=B3 B4 (Op.fieldAddr i [a]) λ g x=>B3 g (Op.ae [x] H) K:=propext kq
def Y8(i:Nat)(a:AV):Nf B4 i a H K=B3 B4 (Op.nilCheck [a]) λ g x=>Fl g i x H K:=propext kq
def ZC(i:Nat)(a b:AV):Fs B4 i a b H K2=B3 B4 (Op.fieldAddr i [a]) λ g x=>i9 g (Op.store 1 [x,b] H) K2:=propext kq
def ZT(i:Nat)(a b:AV):Ns B4 i a b H K2=B3 B4 (Op.nilCheck [a]) λ g x=>Fs g i x b H K2:=propext kq
def Y0(a b:AV):Xl B4 a b H K=B3 B4 (Op.aQ 1 [a,b]) λ g x=>B3 g (Op.ae [x] H) K:=propext kq
def YN(a b c:AV):Xs B4 a b c H K2=B3 B4 (Op.aQ 1 [a,b]) λ g x=>i9 g (Op.store 1 [x,c] H) K2:=propext kq
def Yc(o:BinOp)(a b:AV):Bn B4 o a b K=B3 B4 (Op.bin o [a,b]) K:=propext kq
def X5(o:BinOp)(a b:AV):Cb B4 o a b A B=B3 B4 (Op.bin o [a,b]) λ g v=>nE g v A B:=propext kq
def Wm(M:ak)(c:Ctx)(p:Kp×ai)(Q:aD)(D:List aK):Gt B4 M c p Q E D H=rN B4 (fp (W M c p) Q) .normal E D H:=propext kq
end
end
end Go.Am
namespace Go.Am
end Go.Am
namespace Go.Am
section
variable{M:ak}{ctx:Ctx}{dh:Bool}{Q Q':aD}{E:Env}{D:List aK}
theorem Sz{α:Type}{m:Bool}{o:Option α}{K K':Bool -> α->Prop}(h:B3 m o K)(hk:∀a,K m a->K' m a):B3 m o K':=by
 cases o with
 |none=>exact h
 |some a=>exact hk a h
theorem _Z{α β:Type}{m:Bool}{o:Option (α×β)}{K K':Bool -> α -> β->Prop}(h:i9 m o K)(hk:∀a b,K m a b->K' m a b):i9 m o K':=by
 cases o with
 |none=>exact h
 |some a=>exact hk a.1 a.2 h
theorem t8{α:Type}{m:Bool}{o:Option α}{K K':Bool -> α->Prop}(h:LK m o K)(hk:∀a,K m a->K' m a):LK m o K':=by
 cases o with
 |none=>exact h
 |some a=>exact hk a h
theorem xgv{m:Bool}{v:AV}{A B c d:Bool->Prop}(h:nE m v A B)(ha:A m->c m)(hb:B m->d m):nE m v c d:=by
 obtain⟨q,rfl,h⟩:=h.elim;cases q with
 |true=>exact ha h
 |false=>exact hb h
theorem Zy{L R:Env}{t:Nat}{g:Bool}{K K':Bool->Env->AV->Prop}(h:TV E L R t g K)(hk:∀R v,K g R v->K' g R v):TV E L R t g K':=by
 unfold TV at h⊢;cases hl:lk L t with
 |some v=>simp_all
 |none =>
  rw[hl]at h;cases c:lk R t with
  |some v=>simp_all
  |none=>rw[c]at h;grind [t8]
def xky{x:bL}{g:Bool}{K K':Bool->AV->Prop}(h:OV E x g K)(hk:∀v,K g v->K' g v):OV E x g K':=by
 cases x with
 |tmp t=>grind [OV,t8]
 |const v=>exact hk _ h
 |eH b=>exact hk _ h
 |func f=>exact hk _ h
theorem Ib{L R:Env}{x:bL}{g:Bool}{K K':Bool->AV->Prop}(h:CV E L R x g K)(hk:∀v,K g v->K' g v):CV E L R x g K':=by
 cases x with
 |tmp t=>grind [CV,Zy]
 |const v=>exact hk _ h
 |eH b=>exact hk _ h
 |func f=>exact hk _ h
def Qn{L:Env}{g:Bool}:∀{l:List bL}{R:Env}{K K':Bool->Env->List AV->Prop},yZ E L l g R K->(∀R vs,K g R vs->K' g R vs)->yZ E L l g R K'
 |[],R,K,K',h,hk=>hk _ _ h
 | .tmp t::xs,R,K,K',h,hk=>Zy (K:=λ g R v=>yZ E L xs g R λ g R vs=>K g R (v::vs)) (K':=λ g R v=>yZ E L xs g R λ g R vs=>K' g R (v::vs)) h λ R v q=>Qn (K:=λ g R vs=>K g R (v::vs)) (K':=λ g R vs=>K' g R (v::vs)) q λ R vs=>hk _ _
 | .const v::xs,R,K,K',h,hk=>Qn (l:=xs) (K:=λ g R vs=>K g R (v::vs)) (K':=λ g R vs=>K' g R (v::vs)) h λ R vs=>hk _ _
 | .eH v::xs,R,K,K',h,hk=>Qn (l:=xs) (K:=λ g R vs=>K g R (.ptr v 0::vs)) (K':=λ g R vs=>K' g R (.ptr v 0::vs)) h λ R vs=>hk _ _
 | .func v::xs,R,K,K',h,hk=>Qn (l:=xs) (K:=λ g R vs=>K g R (.fn (.func v) [] []::vs)) (K':=λ g R vs=>K' g R (.fn (.func v) [] []::vs)) h λ R vs=>hk _ _
theorem hY(f:∀e E D H,Q e E D H->Q' e E D H){d:Option (List Nat)}{ks:List Nat}{c:aG}{H:ar}(h:PX d ks Q E D c H):PX d ks Q' E D c H:=by
 cases d with
 |none=>exact h
 |some _=>exact f _ _ _ _ h
theorem Vk(j:∀e E D H,Q e E D H->Q' e E D H){i:Option (List Nat)}{L:Env}{g:Bool}{f:mG}{vs:List AV}{H:ar}{K K':Bool->AV->ar->Prop}(h:FQ M dh i L Q E D g f vs H K)(hk:∀v H,K g v H->K' g v H):FQ M dh i L Q' E D g f vs H K':=by
 cases dh with
 |false=>obtain⟨v,H',c,d⟩:=h;exact⟨v,H',c,hk _ _ d⟩
 |true =>
  obtain⟨e,H',c,d⟩:=h;refine⟨e,H',c,?_⟩
  grind [hY]
def EM(i:∀e E D H,Q e E D H->Q' e E D H){s:aO}{K K':KR}{g:Bool}{L R:Env}{H:ar}(h:I5 M dh s Q E D K g L R H)(hk:∀L R H,K g L R H->K' g L R H):I5 M dh s Q' E D K' g L R H:=by
 refine Qn (show yZ E L s.args g R _ from h) λ R vs h=>?_;obtain⟨iv,dst,guard,args,op,c⟩:=s;cases iv with
 |true =>
  have h:TA dst E L R H K g vs op:=h;show TA dst E L R H K' g vs op;cases op with
  |read f =>
   cases dst with
   |none=>exact h
   |some d=>exact⟨h.1,hk _ _ _ h.2⟩
  |_=>exact h
 |false =>
  have h:wB M dh dst c Q E D L R H K g vs op:=h;show wB M dh dst c Q' E D L R H K' g vs op;cases op with
  |pure f=>grind [wB,Sz]
  |read f=>grind [wB,Sz]
  |alloc f=>grind [wB,_Z]
  |gY f=>grind [wB,_Z]
  |im f=>exact Vk i h λ v H=>hk _ _ _
  |iq =>
   simp only[wB,V3]at h⊢
   grind [Vk]
  |invoke n =>
   simp only[wB,N3]at h⊢;split at h
   .grind [Sz,Vk]
   omega
  |recover=>exact h
  |defer=>exact h
  |panic =>
   cases dh with
   |false=>exact h
   |true =>
    have h:gC vs H (PX c (mi L) Q E D):=h;show gC vs H (PX c (mi L) Q' E D);unfold gC at h⊢
    grind [hY]
def Y7(c:∀e E D H,Q e E D H->Q' e E D H){K K':KR}{g:Bool}(hk:∀L R H,K g L R H->K' g L R H):∀{l:List aO}{L R:Env}{H:ar},qD M dh Q E D K l g L R H->qD M dh Q' E D K' l g L R H
 |[],L,R,H,h=>hk _ _ _ h
 |s::l,L,R,H,h=>EM c (by simp_all[qD]) λ L R H=>Y7 c hk
theorem Zu:∀(n:Nat){f f':List AV->ar->Prop},(∀vs H,f vs H->f' vs H) -> ∀(l:List AV)(H:ar),qB n (rB n f) l H->qB n (rB n f') l H
 |0,f,f',hf,l,H,h=>hf [] H h
 |n+1,f,f',hf,[],H,h=>h
 |n+1,f,f',hf,v::l,H,h=>Zu n (f:=λ l=>f (v::l)) (f':=λ l=>f' (v::l)) (by grind) l H h
def Dj(f:∀e E D H,Q e E D H->Q' e E D H){x:Gj}{K K':KR}{g:Bool}(hk:∀L R H,K g L R H->K' g L R H){L R:Env}{H:ar}(h:SK M dh Q E D x K g L R H):SK M dh Q' E D x K' g L R H:=by
 obtain⟨q,l⟩:=x;cases q with
 |none=>exact Y7 f hk (show qD M dh Q E D K l g L R H from h)
 |some q =>
  cases ho:wA q.1 l with
  |false =>
   have h:cond (wA q.1 l) _ False:=h
   grind
  |true =>
   have h:cond (wA q.1 l) _ False:=h;rw[ho,xu]at h;show cond (wA q.1 l) _ False;rw[ho,xu];refine Zy h λ c v h=>?_;have h:B3 g (cT q.2 (B1 v)) λ g w=>wK g w (λ g=>qD M dh Q E D (λ g d _ H=>qB (cQ (bq l [])) (rB (cQ (bq l [])) λ vs H=>K g (lH (bq l []) L vs) c H) (rE (cQ (bq l [])) d) H) l g L c H)
    (λ g=>qB (cQ (bq l [])) (rB (cQ (bq l [])) λ vs H=>K g (lH (bq l []) L vs) c H) (sD (cQ (bq l []))) H):=h
   refine Sz (K':=λ g w=>wK g w (λ g=>qD M dh Q' E D (λ g d _ H=>qB (cQ (bq l [])) (rB (cQ (bq l [])) λ vs H=>K' g (lH (bq l []) L vs) c H) (rE (cQ (bq l [])) d) H) l g L c H)
    (λ g=>qB (cQ (bq l [])) (rB (cQ (bq l [])) λ vs H=>K' g (lH (bq l []) L vs) c H) (sD (cQ (bq l []))) H)) h λ w h=>?_
   cases w with
   |true=>exact Y7 f (by grind [Zu]) (show qD M dh Q E D _ l g L c H from h)
   |false=>exact Zu _ (by grind) _ _ h
theorem Uu(c:∀e E D H,Q e E D H->Q' e E D H){l:List aO}{K K':KR}{g:Bool}(hk:∀L R H,K g L R H->K' g L R H){H:ar}(h:rO M dh Q E D l g H K):rO M dh Q' E D l g H K':=by
 unfold rO at h⊢;generalize Jr l=gs at h⊢;generalize([]:Env)=L at h⊢;have key:∀(gs:List Gj)(L R:Env)(H:ar),yM M dh Q E D K gs g L R H->yM M dh Q' E D K' gs g L R H:=by
  intro gs
  induction gs with
  |nil=>exact λ L R H h=>hk _ _ _ h
  |cons x gs ih=>exact λ L R H h=>Dj c ih (by simp_all[yM])
 grind
def Ic{K:Kp}:∀(n:Nat)(c:ai),fh c<=n -> ∀{g:Bool}{Q Q':aD}{E:Env}{D:List aK}{H:ar},(∀e E D H,Q e E D H->Q' e E D H)->W3 M ctx K c g Q E D H->W3 M ctx K c g Q' E D H:=by
 intro n
 induction n with
 |zero =>
  intro c s g Q Q' E D H d h;cases c with
  |region l=>exact Uu d (λ L R H h=>d _ _ _ _ h) h
  |rangeFunc f k =>
   have h:OV E f g λ g v=>iB M K.ah ctx k E D H Q v:=h;show OV E f g λ g v=>iB M K.ah ctx k E D H Q' v;have key:∀v,iB M K.ah ctx k E D H Q v->iB M K.ah ctx k E D H Q' v:=λ v h tm up he=>by
    have:=h tm up he;unfold Jv at this⊢;split
    .grind [Pq]
    grind [FJ,Pq]
   exact xky h key
  |skip=>exact d _ _ _ _ h
  |label _=>exact d _ _ _ _ h
  |exit _=>exact d _ _ _ _ h
  |goto _=>exact d _ _ _ _ h
  |ret=>exact d _ _ _ _ h
  |stuck=>exact h
  |seq _ _=>grind [fh]
  |cond _ _ _=>grind [fh]
  |block _ _=>grind [fh]
  |loop _ _=>grind [fh]
  |scope _=>grind [fh]
 |succ n ih =>
  intro c s g Q Q' E D H d h;have u:∀{b:ai},fh b<=n -> ∀e E D H,fp (W3 M ctx K b) Q e E D H->fp (W3 M ctx K b) Q' e E D H:=λ hb e E D H h=>by
   cases e with
   |normal=>exact ih _ hb d h
   |_=>exact d _ _ _ _ h
  cases c with
  |seq a b =>
   have m:fh a+fh b<=n:=by grind [fh]
   have gen:W3 M ctx K a g (fp (W3 M ctx K b) Q) E D H->W3 M ctx K a g (fp (W3 M ctx K b) Q') E D H:=λ h=>(by grind)
   cases a with
   |region l =>
    have plain:(rO M K.dh Q E D l g H λ g L _ H=>W3 M ctx K b g Q (dJ K.ah E L) D H)->rO M K.dh Q' E D l g H λ g L _ H=>W3 M ctx K b g Q' (dJ K.ah E L) D H:=λ h=>(by grind [Uu])
    have cv:∀{L R:Env}{c:bL}{A B i j:Bool->Prop},CV E L R c g (λ g v=>nE g v A B)->(A g->i g)->(B g->j g)->CV E L R c g (λ g v=>nE g v i j):=λ{L R c A B i j}h ha hb=>by
     grind [Ib,xgv]
    cases b with
    |cond c x y =>
     have o:fh x+fh y+1<=n:=by grind [fh]
     exact Uu d (λ L R H h=>cv h (by grind) (by grind)) h
    |seq b1 r =>
     cases b1 with
     |cond c x y =>
      have o:fh x+fh y+1+fh r+1<=n:=by grind [fh]
      exact Uu d (λ L R H h=>cv h (by grind) (by grind)) h
     |_=>exact plain h
    |_=>exact plain h
   |_=>exact gen h
  |cond c x y =>
   have m:fh x+fh y<=n:=by grind [fh]
   have h:OV E c g λ g v=>nE g v (λ g=>W3 M ctx K x g Q E D H) (λ g=>W3 M ctx K y g Q E D H):=h;exact xky (K':=λ g v=>nE g v (λ g=>W3 M ctx K x g Q' E D H) (λ g=>W3 M ctx K y g Q' E D H)) h λ v h=>xgv h (by grind) (by grind)
  |block id b =>
   have hb:fh b<=n:=by grind [fh]
   exact ih b hb (λ e E D H h=>by cases e<;>exact d _ _ _ _ h) h
  |scope b =>
   have hb:fh b<=n:=by grind [fh]
   exact ih b hb (λ e E D H h=>by cases e<;>first|exact d _ _ _ _ h|exact⟨h.1,d _ _ _ _ h.2⟩) h
  |loop ah b =>
   have hb:fh b<=n:=by grind [fh]
   cases ah with
   |some _=>exact h
   |none =>
    obtain⟨I,p,q⟩:=h;exact⟨I,p,λ n E D H t=>ih b hb (λ e E D H h=>by cases e<;>first|exact h|exact d _ _ _ _ h) (q n E D H t)⟩
  |_=>exact ih _ (xz _) d h
end
def W.mono{M:ak}{ctx:Ctx}{p:Kp×ai}{g:Bool}{Q Q':aD}{E:Env}{D:List aK}{H:ar}(h:W M ctx p g Q E D H)(c:∀e E D H,Q e E D H->Q' e E D H):W M ctx p g Q' E D H:=by
 rw[mg]at h⊢;exact Ic _ p.2 (qm _) c h
end Go.Am
namespace Go.Am
universe u
noncomputable section
variable(X:WX)(Q:aD)(E:Env)(D:List aK)(H:ar)(I:LG)(n:Nat)
def xes:fp X Q .normal E D H=X B4 Q E D H:=propext kq
def EH:fp X Q .ret E D H=Q .ret E D H:=propext kq
def xk0(l:Nat):fp X Q (.exit l) E D H=Q (.exit l) E D H:=propext kq
def xk1(l:Nat):fp X Q (.goto l) E D H=Q (.goto l) E D H:=propext kq
def xip(c:aG):fp X Q (.panic c) E D H=Q (.panic c) E D H:=propext kq
def xem(i:Nat):eY i Q .normal E D H=Q .normal E D H:=propext kq
def DB(i:Nat):eY i Q .ret E D H=Q .ret E D H:=propext kq
def xkn(i l:Nat):eY i Q (.goto l) E D H=Q (.goto l) E D H:=propext kq
def xib(i:Nat)(c:aG):eY i Q (.panic c) E D H=Q (.panic c) E D H:=propext kq
def xkm(i l:Nat):eY i Q (.exit l) E D H=if i=l then Q .normal E D H else Q (.exit l) E D H:=by
 show Q (cond (J2 i l) .normal (.exit l)) E D H=_
 by_cases h:i=l
 .simp_all
 simp_all[Gc]
section
variable(M:ak)(rs:List ep)(Q:bI->ar->Prop)(P:List AV->Prop)(R:AV->ar->Prop)
def ag6:eG M rs Q .ret E [] H=jI E H rs λ l=>Q (.ret (jG l)) H:=propext kq
def xer:eG M rs Q .normal E [] H=jI E H rs λ l=>Q (.ret (jG l)) H:=propext kq
def xih(c:aG):eG M rs Q (.panic c) E [] H=Q (.panic c) H:=propext kq
def xig(b:Nat):eG M rs Q .ret E (.iz b::D) H=(H.get b=B1 (.deferred (B1 []))/\eG M rs Q .ret E D (H.set b (.deferred B5))):=propext kq
def D6:jI E H [] P=P []:=propext kq
def Ed(t:Nat):jI E H (.tmp t::rs) P=LK B4 (lk E t) λ _ v=>jI E H rs λ vs=>P (v::vs):=propext kq
def xin(t:Nat):jI E H (.kU t::rs) P=LK B4 (lk E t) λ _ v=>B3 B4 (Op.ae [v] H) λ _ v=>jI E H rs λ vs=>P (v::vs):=propext kq
def xio(n t:Nat):jI E H (.cS n t::rs) P=LK B4 (lk E t) λ _ v=>B3 B4 (Op.aq n [v] H) λ _ v=>jI E H rs λ vs=>P (v::vs):=propext kq
def GZ(v:AV):uZ R (.ret v) H=R v H:=propext kq
end
def Jf:((0:Nat):Int)=0:=rfl
theorem zr(l:List AV):AV.cells (.agg l)=l:=rfl
def xlo(k:P0)(n:Int):AV.cells (.int k n)=[.int k n]:=rfl
def xiz(b:Bool):AV.cells (.bool b)=[.bool b]:=rfl
def xlr(s:List UInt8):AV.cells (.str s)=[.str s]:=rfl
def xlq(b o:Nat):AV.cells (.ptr b o)=[.ptr b o]:=rfl
def NO(I:Nat->Env->ar->Prop)(D:List aK)(n:Nat)(Q:aD):aD:=λ e E D' H=>match e with
 | .normal=>D'=D /\ ∃m E',I m E' H/\uD E' E/\m<n
 |e=>Q e E D' H
theorem cK.intro{M:ak}{ctx:Ctx}{p:Kp×ai}{Q:aD}{E:Env}{D:List aK}{H:ar}(I:Nat->Env->ar->Prop)(j:∃n d,I n d H/\uD d E)(h:∀n E H,I n E H->W M ctx p B4 (NO I D n Q) E D H):cK (W M ctx p) Q E D H:=by
 obtain⟨n,d,l,o⟩:=j;refine⟨λ n E D' H=>D'=D/\I n E H,⟨n,d,⟨rfl,l⟩,o.ss⟩,λ n E D' H⟨e,r⟩=>?_⟩;subst e;refine W.mono (h n E H r) λ e E g H f=>?_;cases e with
 |normal=>obtain⟨q,m,i,a,b,c⟩:=f;exact⟨m,i,⟨q,a⟩,b.ss,c⟩
 |_=>exact f
def Qv(P:Env->List aK->ar->Prop)(Q:aD):aD:=λ e E D H=>match e with
 | .normal=>P E D H
 |e=>Q e E D H
def xij(P:Env->List aK->ar->Prop)(Q:aD)(E:Env)(D:List aK)(H:ar):Qv P Q .normal E D H=P E D H:=propext kq
def GG(P:Env->List aK->ar->Prop)(Q:aD)(E:Env)(D:List aK)(H:ar):Qv P Q .ret E D H=Q .ret E D H:=propext kq
def Ex(P:Env->List aK->ar->Prop)(Q:aD)(E:Env)(D:List aK)(H:ar)(l:Nat):Qv P Q (.exit l) E D H=Q (.exit l) E D H:=propext kq
def LN(X:WX)(Q:aD):Nat->Env->List aK->ar->Prop
 |0,_,_,_=>False
 |n+1,E,D,H=>X B4 (Qv (LN X Q n) Q) E D H
def I3(X:WX)(Q:aD)(n:Nat)(E:Env)(D:List aK)(H:ar):LN X Q (n+1) E D H=X B4 (Qv (LN X Q n) Q) E D H:=propext kq
def xik(I:Nat->Env->ar->Prop)(D:List aK)(n:Nat)(Q:aD)(E:Env)(H:ar):NO I D n Q .normal E D H = ∃m c,I m c H/\uD c E/\m<n:=propext ⟨λ h=>h.2,λ h=>⟨rfl,h⟩⟩
def Hn(I:Nat->Env->ar->Prop)(D D':List aK)(n:Nat)(Q:aD)(E:Env)(H:ar):NO I D n Q .ret E D' H=Q .ret E D' H:=propext kq
def af6(I:Nat->Env->ar->Prop)(D D':List aK)(n:Nat)(Q:aD)(E:Env)(H:ar)(l:Nat):NO I D n Q (.exit l) E D' H=Q (.exit l) E D' H:=propext kq
def ah3(I:Nat->Env->ar->Prop)(D D':List aK)(n:Nat)(Q:aD)(E:Env)(H:ar)(l:Nat):NO I D n Q (.goto l) E D' H=Q (.goto l) E D' H:=propext kq
def xkw(I:Nat->Env->ar->Prop)(D D':List aK)(n:Nat)(Q:aD)(E:Env)(H:ar)(c:aG):NO I D n Q (.panic c) E D' H=Q (.panic c) E D' H:=propext kq
def sw{α:Sort u}(b:Bool)(x y:α):α:=cond b x y
@[congr]def ab9{α:Sort u}{b c:Bool}{x y:α}(h:b=c):sw b x y=sw c x y:=by rw[h]
def PV{α:Sort u}(x y:α):sw B4 x y=x:=rfl
def Pf{α:Sort u}(x y:α):sw B2 x y=y:=rfl
def JT{α:Sort u}(p:Prop)[Decidable p](x y:α):(if p then x else y)=sw (decide p) x y:=by grind [sw]
def RM(k t:Nat)(v:AV)(E:Env):lk ((k,v)::E) t=sw (decide (k=t)) (B1 v) (lk E t):=(wP ..).trans (JT ..)
def Hg(Q:aD)(E:Env)(D:List aK)(H:ar)(i l:Nat):eY i Q (.exit l) E D H=sw (decide (i=l)) (Q .normal E D H) (Q (.exit l) E D H):=(xkm ..).trans (JT ..)
def U5(α:Type)(h:Decidable True)(x y:α):@ite α True h x y=x:=xg trivial
def WZ(α:Type)(h:Decidable False)(x y:α):@ite α False h x y=y:=qy id
def Sb(h:Decidable True)(x y:Prop):@ite Prop True h x y=x:=xg trivial
def Rl(h:Decidable False)(x y:Prop):@ite Prop False h x y=y:=qy id
def PU:=IK @G4<|IK @HP<|IK @Ej<|IK Dr<|IK xkt<|IK Fb<|IK xku<|IK ae7<|IK PN<|IK @Jy<|IK af2 <|
 IK HZ<|IK ag7<|IK DI<|IK RM<|IK Cc<|IK af5<|IK It <|
 IK xes<|IK EH<|IK xk0<|IK xk1<|IK xip<|IK xem<|IK DB<|IK xkn<|IK xib<|IK Hg <|
 IK xij<|IK GG<|IK Ex<|IK I3<|IK xik<|IK Hn<|IK af6<|IK ah3<|IK xkw<|IK ag6<|IK xer<|IK xih<|IK D6<|IK Ed<|IK xin<|IK xio <|
 IK GZ<|IK Zz<|IK aa4<|IK aa2<|IK Y8<|IK ZC<|IK ZT<|IK Y0<|IK YN<|IK Yc<|IK X5<|IK Wm<|IK ZI<|IK Y9 Vf
def Ro:=IK U5<|IK WZ<|IK Sb<|IK Rl<|IK @PV.{1}<|IK @Pf.{1}<|IK @PV.{0}<|IK @Pf.{0}<|IK KZ<|IK Kv<|IK @Q7<|IK @Qr<|IK @QB<|IK @OK<|IK @Pw<|IK @R7<|IK @Pe<|IK @Qp<|IK @QN<|IK @KD<|IK Rk <|
 IK Kn<|IK KG<|IK Ff<|IK Ek<|IK xm8<|IK xf4<|IK Dm<|IK LO<|IK G7<|IK Iz<|IK Rc <|
 IK zr<|IK xlo<|IK xiz<|IK xlr<|IK xlq<|IK @decide_true<|IK @J5<|IK Bool.not_true<|IK Bool.not_false<|IK not_true_eq_false<|IK not_false_eq_true<|IK @ne_eq.{1}<|IK Ge<|IK uc<|IK false_and<|IK and_false <|
 IK @xu.{1}<|IK @zn.{1}<|IK @qr.{0,0}<|IK vq<|IK yf<|IK @zo.{0}<|IK @jc.{0}<|IK @jp.{0} @J1.{0}
def Qo:type_of% Jf/\type_of% PU/\type_of% Ro:=⟨Jf,PU,Ro⟩
section
variable{α:Type}{enc:α->List AV}{e size:Nat}{H0 H H':ar}{v:AV}{xs:List α}
def tO.to3{α β:Type}{m g:Bool}{o:Option (α×β)}{K:Bool -> α -> β->Prop}(h:tO m o λ _ a b=>K g a b):i9 g o K:=by
 cases o with
 |none=>exact Nk h
 |some a=>exact h
def Sv{H:ar}{e size bytes:Nat}{v:AV}{n:Nat}{cells:List AV}(h:Own H e size v n cells){x:AV}{k:Nat}{new:List AV}(i:Sl H size x k new)(d:aN new=B4)(hs:0<size)
 (g:(n+k)*bytes<=140737488355328) (f:n+k<=140737488355328) {K:Bool->AV->ar->Prop} {m:Bool}
 (hk:∀c H',Own H' e size c (n+k) (cells++new)->Fr (aM v) H H'->(∀b,aM c b->aM v b\/H.au<=b)->K m c H'):i9 m (Op.append e size bytes [v,x] H) K :=
 tO.to3 (m:=m) (by grind [_H])
def nV{H:ar}{e size bytes:Nat}{v:AV}{n:Nat}{cells:List AV}(h:Own H e size v n cells){zero:List AV}{x:AV}(q:zero.length=size)(p:x.cells.length=size)(c:aN x.cells=B4)(hs:0<size)
 (l:(n+1)*bytes<=140737488355328) (d:n+1<=140737488355328) {K:bF->(Nat->AV)->Bool->AV->ar->Prop} {m:Bool}
 (hk:∀f H',Own H' e size f (n+1) (cells++x.cells)->Fr (aM v) H H'->(∀b,aM f b->aM v b\/H.au<=b)->K (.row x.cells e (0,0) B4) (Op.sliceTo 1 1) m f H') :
 i9 m (Op.buildSlice e 1 zero [(0,size)] [x]) λ g o mk=>i9 g (Op.append e size bytes [v,mk H.au] (H.alloc o)) (K o mk):=by
 have:=HI (m:=m) h q p c hs l d (K:=λ o mk _ v H=>K o mk m v H) hk;obtain⟨o,mk,i,j⟩:∃o mk,Op.buildSlice e 1 zero [(0,size)] [x]=B1 (o,mk)/\tO B4 (Op.append e size bytes [v,mk H.au] (H.alloc o)) (λ _ v H=>K o mk m v H):=by
  unfold tO at this;split at this
  .rename_i a ha;exact⟨a.1,a.2,ha,this⟩
  grind
 refine i9.intro i ?_;unfold tO at j
 grind [i9.intro]
end
end
def qt(b o:Nat):Op.nilCheck [.ptr b o]=B1 (.ptr b o):=rfl
def xj(i:Nat)(l:List AV):Op.extract i [.tuple l]=l[i]?:=xm6 i l
end Go.Am
namespace Go.Am
def Jq:List bL->Option Nat
 |[.tmp t]=>B1 t
 |_=>B5
def Mu(s:aO):Option Nat:=match s.op,s.iv,s.guard,s.dst with
 | .defer,B2,B5,B5=>Jq s.args
 |_,_,_,_=>B5
def Ig:List aO->Option (List aO×Nat×List aO)
 |[]=>B5
 |s::r=>match Mu s with
  |some t=>B1 ([],t,r)
  |none=>(Ig r).map λ q=>(s::q.1,q.2.1,q.2.2)
def sC:ai->Option (ai×Nat×ai)
 | .region l=>(Ig l).map λ q=>(.region q.1,q.2.1,.region q.2.2)
 | .seq a b=>match sC a with
  |some q=>B1 (q.1,q.2.1,.seq q.2.2 b)
  |none=>(sC b).map λ q=>(.seq a q.1,q.2.1,q.2.2)
 |_=>B5
noncomputable def Af(c:ai):ai:=QT (motive:=λ _=>ai) .stuck (λ q=>q.1) (sC c)
noncomputable def xH(c:ai):ai:=QT (motive:=λ _=>ai) .stuck (λ q=>q.2.2) (sC c)
section
variable{M:ak}{ctx:Ctx}
def DX(W:St->cO->Prop)(t:Nat)(st:St)(Q:cO):Prop:=∃g first cap,st.tm.get t=B1 (.fn (.func g) first cap)/\W ⟨st.tm,.fn (.func g) (first++cap)::st.aY,st.up,st.H⟩ Q
def Dd{s:aO}{st:St}{Q Q':cO}{K:St->Prop}(h:∀c st,Q (.panic c) st=Q' (.panic c) st):rP M ctx s st Q K=rP M ctx s st Q' K:=by
 have e:∀d tm aY up,AL d tm aY up Q=AL d tm aY up Q':=λ d tm aY up=>by
  funext c H;cases d with
  |none=>rfl
  |some ds=>exact h _ _
 simp_all[pW,rP]
def xlu(hr:ctx.round=B5):∀{l l1 l2:List aO}{t:Nat},Ig l=B1 (l1,t,l2) -> ∀{st:St}{Q:cO},oO M ctx l1 st (Eg (DX (oO M ctx l2) t) Q)->oO M ctx l st Q
 |s::r,l1,l2,t,h,st,Q,w=>by
  unfold Ig at h;cases c:Mu s with
  |some t' =>
   rw[c]at h;injection h with h;injection h with i h;injection h with j p
   subst i;subst j;subst p;have⟨iv,dst,guard,args,op,x⟩:=s;unfold Mu at c;split at c
   .rename_i e1 e2 f o;subst e1;subst e2;subst f;subst o;unfold Jq at c;split at c
    .rename_i e;simp only at e;subst e;cases c;have⟨g,first,cap,i,j⟩:=w;exact bP.intro (m:=aI) i ⟨hr,j⟩
    grind
   grind
  |none =>
   rw[c]at h;have⟨q,u,e⟩:=xt.1 h;injection e with e1 e;injection e with e2 f
   subst e1;subst e2;subst f;have w:rP M ctx s st (Eg (DX (oO M ctx q.2.2) q.2.1) Q) λ d=>oO M ctx q.1 d (Eg (DX (oO M ctx q.2.2) q.2.1) Q):=w;rw[Dd (Q:=Eg (DX (oO M ctx q.2.2) q.2.1) Q) (Q':=Q) (λ _ _=>rfl)]at w;exact _J w (by grind) λ d h=>xlu hr u h
def Xm(hr:ctx.round=B5):∀{c x y:ai}{t:Nat},sC c=B1 (x,t,y) -> ∀{st:St}{Q:cO},WP M ctx x st (Eg (DX (WP M ctx y) t) Q)->WP M ctx c st Q
 | .region l,x,y,t,h,st,Q,w=>by
  unfold sC at h;have⟨q,f,e⟩:=xt.1 h;injection e with e1 e;injection e with e2 d
  subst e1;subst e2;subst d;exact xlu hr f w
 | .seq a b,x,y,t,h,st,Q,w=>by
  unfold sC at h;cases ha:sC a with
  |some q =>
   rw[ha]at h;injection h with h;injection h with i h;injection h with j m
   subst i;subst j;subst m;refine Xm hr (c:=a) ha (p5 w λ e g h=>?_);cases e with
   |normal=>exact h
   |_=>exact h
  |none =>
   rw[ha]at h;have⟨q,f,e⟩:=xt.1 h;injection e with e1 e;injection e with e2 d
   subst e1;subst e2;subst d;show WP M ctx a st (Eg (WP M ctx b) Q);refine p5 (show WP M ctx a st (Eg (WP M ctx q.1) (Eg (DX (WP M ctx q.2.2) q.2.1) Q))from w) λ e g h=>?_;cases e with
   |normal=>exact Xm hr (c:=b) f h
   |_=>exact h
end
def Bz(M:ak)(ctx:Ctx)(p:Kp×ai)(t:Nat)(Q:aD):aD:=λ e E D H=>match e with
 | .normal=>LK B4 (lk E t) λ _ v=>∃g first cap,v=.fn (.func g) first cap/\W M ctx p B4 Q E (.fn (.func g) (first++cap)::D) H
 |e=>Q e E D H
def xep{M:ak}{ctx:Ctx}{p:Kp×ai}{t:Nat}{Q:aD}{E:Env}{D:List aK}{H:ar}:Bz M ctx p t Q .normal E D H=LK B4 (lk E t) λ _ v=>∃g first cap,v=.fn (.func g) first cap/\W M ctx p B4 Q E (.fn (.func g) (first++cap)::D) H:=rfl
def xgt{M:ak}{ctx:Ctx}{p:Kp×ai}{t:Nat}{Q:aD}{E:Env}{D:List aK}{H:ar}:Bz M ctx p t Q .ret E D H=Q .ret E D H:=rfl
def Nh{M:ak}{rs:List ep}{ks:List Nat}{Q:bI->ar->Prop}{up:Option aG}{e:aW}{st:St}(h:QQ ks (eG M rs Q) up e st):fu M rs (λ e u H=>u=up/\Q e H) e st:=by
 have⟨f,g,i,d⟩:=h;have⟨tm,D,u,H'⟩:=st;have f:u=up:=f;subst f;have mono:∀{m:Option aG},nU M rs g Q D m H'->Av M rs tm (λ e H=>u=u/\Q e H) D m H':=λ{m}h=>by
  grind [nU.TK]
 cases e with
 |normal=>exact mono d
 |ret=>exact mono d
 |panic c=>exact mono d
 |exit _=>exact d.elim
 |goto _=>exact d.elim
def I7{M:ak}{f:Nat}{fn:bZ}(u:M.func f=B1 fn){p ky:Kp}(hk:p.ah=ky.ah){t:Nat}(s:sC fn.body=B1 (Af fn.body,t,xH fn.body)){vs:List AV}(r:jP 0 vs.length p.ah=B4){H:ar}{Q:bI->ar->Prop}
 (h:W M ⟨B5,f⟩ (p,part (Af fn.body) 0) B4 (Bz M ⟨B5,f⟩ (ky,part (xH fn.body) 0) t (eG M fn.results Q)) (kK 0 vs) [] H):FZ M f vs H Q:=by
 rw[mg,Ud]at h;refine q8k u (Xm rfl s (p5 (W3.wp (fh (Af fn.body)) _ (qm _) (up:=B5) h (VV r)) λ e st h=>?_));cases e with
 |normal =>
  have⟨d,i,j,l⟩:=h;have⟨tm,D,up,H'⟩:=st;have d:up=none:=d;subst d;obtain⟨v,w,g,first,cap,rfl,q⟩:=LK.elim (m:=B4) (o:=lk i t) (K:=λ _ v=>∃g first cap,v=.fn (.func g) first cap/\W M ⟨B5,f⟩ (ky,part (xH fn.body) 0) B4 (eG M fn.results Q) i (.fn (.func g) (first++cap)::D) H') l;rw[mg,Ud]at q;exact⟨g,first,cap,(j t _ w).1,p5 (W3.wp (fh (xH fn.body)) _ (qm _) (up:=B5) q (hk▸j)) λ e st h=>Nh h⟩
 |ret=>have⟨d,i,j,l⟩:=h;exact Nh (e:=aW.ret) (rs:=fn.results) (ks:=p.ah) (Q:=Q) (up:=B5) ⟨d,i,j,l⟩
 |panic c=>have⟨d,i,j,l⟩:=h;exact Nh (e:=aW.panic c) (rs:=fn.results) (ks:=p.ah) (Q:=Q) (up:=B5) ⟨d,i,j,l⟩
 |exit k=>obtain⟨d,i,j,l⟩:=h;exact Nh (M:=M) (e:=aW.exit k) (rs:=fn.results) (ks:=p.ah) (Q:=Q) (up:=B5) ⟨d,i,j,l⟩
 |goto k=>obtain⟨d,i,j,l⟩:=h;exact Nh (M:=M) (e:=aW.goto k) (rs:=fn.results) (ks:=p.ah) (Q:=Q) (up:=B5) ⟨d,i,j,l⟩
def GX{M:ak}{f:Nat}{fn:bZ}(c:M.func f=B1 fn){ks:Kp}{vs:List AV}(hk:jP 0 vs.length ks.ah=B4){up:Option aG}{H:ar}{Q:bI->ar->Prop}
 (h:W M ⟨B5,f⟩ (ks,part fn.body 0) B4 (eG M fn.results Q) (kK 0 vs) [] H):∃e H',jK M f vs up H e up H'/\Q e H':=by
 rw[mg,Ud]at h;obtain⟨e,d,H',g,rfl,i⟩:=P_ c (p5 (W3.wp (fh fn.body) fn.body (qm _) (up:=up) h (VV hk)) λ e st h=>Nh h)
 grind
abbrev WE(M:ak)(c:Ctx)(p:Kp×ai)(R:aD->Env->List aK->ar->Prop):Prop:=∀Q E D H,W M c p B4 Q E D H=R Q E D H
end Go.Am
