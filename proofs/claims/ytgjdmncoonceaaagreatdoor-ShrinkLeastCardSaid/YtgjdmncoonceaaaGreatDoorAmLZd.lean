import Derived.Test.YtgjdmncoonceaaaGreatDoorAmLZb
import Derived.Test.YtgjdmncoonceaaaGreatDoorAmLZa
set_option linter.unusedVariables false
set_option linter.unusedSimpArgs false
set_option linter.defProp false
open And renaming intro→II
open Bool renaming rec→Ov,false→B2,true→B4
open False renaming elim→Nn
open Go renaming IntKind→PJ,Program→Jv
open List renaming rec→B0
open Nat renaming beq→JW,ble→Oh,blt→Pk
open Option renaming rec→R6,none→B5,some→B1
namespace Go.Am
def aI:Bool:=B4
def bQ{α:Type}(m:Bool)(o:Option α)(K:α->Prop):Prop:=match o with
 |some a=>K a
 |none=>False
def iX{α β:Type}(m:Bool)(o:Option (α×β))(K:α -> β->Prop):Prop:=match o with
 |some a=>K a.1 a.2
 |none=>False
def LR(m:Bool)(q:Bool)(A B:Prop):Prop:=match q with
 |true=>A
 |false=>B
@[congr]def aa7{α:Type}{m c:Bool}{o o':Option α}{K:α->Prop}(hm:m=c)(h:o=o'):bQ m o K=bQ c o' K:=by rw[h,hm]
@[congr]def aa3{α β:Type}{m c:Bool}{o o':Option (α×β)}{K:α -> β->Prop}(hm:m=c)(h:o=o'):iX m o K=iX c o' K:=by rw[h,hm]
@[congr]def ab8{m c q d:Bool}{A B:Prop}(hm:m=c)(h:q=d):LR m q A B=LR c d A B:=by rw[h,hm]
def bQ.elim{α:Type}{m:Bool}{o:Option α}{K:α->Prop}(h:bQ m o K):∃a,o=B1 a/\K a:=by
 cases o with
 |none=>exact Nn h
 |some a=>exact⟨a,rfl,h⟩
def iX.elim{α β:Type}{m:Bool}{o:Option (α×β)}{K:α -> β->Prop}(h:iX m o K):∃a b,o=B1 (a,b)/\K a b:=by
 cases o with
 |none=>exact Nn h
 |some a=>exact⟨a.1,a.2,rfl,h⟩
theorem bQ.intro{α:Type}{m:Bool}{o:Option α}{K:α->Prop}{a:α}(h:o=B1 a)(hk:K a):bQ m o K:=by subst h;exact hk
theorem iX.intro{α β:Type}{m:Bool}{o:Option (α×β)}{K:α -> β->Prop}{a:α}{b:β}(h:o=B1 (a,b))(hk:K a b):iX m o K:=by subst h;exact hk
def LR.cases{m:Bool}{q:Bool}{A B:Prop}(c:q=B4->A)(d:q=B2->B):LR m q A B:=by
 cases q with
 |true=>exact c rfl
 |false=>exact d rfl
def asBool:AV->Option Bool
 | .bool q=>B1 q
 |_=>B5
noncomputable section
structure ak where
 prog:jU
 told:cj
 mute:Nat->Bool
 ok:∀f vs up H,mute f=B2->told f vs up H=B5
def ak.call(M:ak)(n:Nat):cj:=kN M.prog M.told n
def ak.func(M:ak)(f:Nat):Option bZ:=cond (M.mute f) B5 (M.prog.func f)
def ak.kD(M:ak):Nat->String->Option Nat:=M.prog.kD
def ak.yU{M:ak}{f:Nat}{fn:bZ}(h:M.func f=B1 fn):M.mute f=B2/\M.prog.func f=B1 fn:=by
 unfold ak.func at h;cases hm:M.mute f with
 |true=>rw[hm]at h;cases h
 |false=>rw[hm]at h;exact⟨rfl,h⟩
def ak.Ah{M:ak}{f:Nat}(h:M.mute f=B2)(n:Nat)(vs:List AV)(up:Option aG)(H:ar):M.call (n+1) f vs up H=Ig M.prog (M.call n) n f vs up H:=by
 show(match M.told f vs up H with|some r=>B1 r|none=>Ig M.prog (kN M.prog M.told n) n f vs up H)=_;rw[M.ok f vs up H h];rfl
variable(AP:ak)
def yZ(n k:Nat)(ctx:Ctx):RT:=⟨AP.prog,AP.call n,rounds AP.prog (AP.call n) n k,n,ctx⟩
def jT(f:Nat)(vs:List AV)(up:Option aG)(H:ar)(e:bI)(up':Option aG)(H':ar):Prop:=∃n0,∀n,n0<=n->AP.call n f vs up H=B1 (e,up',H')
def CALL(f:Nat)(vs:List AV)(H:ar)(e:bI)(H':ar):Prop:=jT AP f vs B5 H e B5 H'
def sR(l:Nat)(vs:List AV)(H:ar)(e:bI)(H':ar):Prop:=∃n0,∀n k,n0<=n->n0<=k->rounds AP.prog (AP.call n) n k vs l H=B1 (e,H')
def uR:mF->List AV->ar->bI->ar->Prop
 | .func g=>CALL AP g
 | .yield l=>sR AP l
def oJ(m:Bool)(f:mF)(vs:List AV)(H:ar)(K:AV->ar->Prop)(E:aG->ar->Prop):Prop :=
 ∃e H',uR AP f vs H e H'/\match e with
  | .ret v=>K v H'
  | .panic c=>E c H'
@[congr]def aa1{AP:ak}{m d:Bool}{f:mF}{vs c:List AV}{H:ar}{K:AV->ar->Prop}{E:aG->ar->Prop}(hm:m=d)(h:vs=c):oJ AP m f vs H K E=oJ AP d f c H K E:=by rw[h,hm]
def NV(m:Bool)(vs:List AV)(K:mF->List AV->Prop):Prop:=match vs with
 | .fn (.func g) first cap::args=>K (.func g) (first++(args++cap))
 | .fn (.yield l) first []::args=>K (.yield l) (first++args)
 |_=>False
@[congr]def aa9{m d:Bool}{vs c:List AV}{K:mF->List AV->Prop}(hm:m=d)(h:vs=c):NV m vs K=NV d c K:=by rw[h,hm]
def Ok(m:Bool)(name:String)(vs:List AV)(K:mF->List AV->Prop):Prop:=match vs with
 | .iface t v::args=>bQ aI (AP.kD t name) λ g=>K (.func g) (v::args)
 |_=>False
@[congr]def ab3{AP:ak}{m d:Bool}{name:String}{vs c:List AV}{K:mF->List AV->Prop}(hm:m=d)(h:vs=c):Ok AP m name vs K=Ok AP d name c K:=by rw[h,hm]
def qK(tm:T AV):List bL->(List AV->Prop)->Prop
 |[],K=>K []
 | .tmp t::xs,K=>bQ aI (tm.get t) λ v=>qK tm xs λ vs=>K (v::vs)
 | .const v::xs,K=>qK tm xs λ vs=>K (v::vs)
 | .eL g::xs,K=>qK tm xs λ vs=>K (.ptr g 0::vs)
 | .func f::xs,K=>qK tm xs λ vs=>K (.fn (.func f) [] []::vs)
def qK.elim{tm:T AV}:∀{l:List bL}{K:List AV->Prop},qK tm l K -> ∃vs,mI tm l=B1 vs/\K vs
 |[],K,h=>⟨[],rfl,h⟩
 | .tmp t::xs,K,h=>by
  obtain⟨v,f,h⟩:=bQ.elim (m:=aI) h;obtain⟨vs,c,d⟩:=qK.elim h;exact⟨v::vs,by simp[mI,rY,f,c],d⟩
 | .const v::xs,K,h=>by
  obtain⟨vs,c,d⟩:=qK.elim (l:=xs) h;exact⟨v::vs,by simp[mI,rY,c],d⟩
 | .eL v::xs,K,h=>by
  obtain⟨vs,c,d⟩:=qK.elim (l:=xs) h;exact⟨_,by simp[mI,rY,c],d⟩
 | .func v::xs,K,h=>by
  obtain⟨vs,c,d⟩:=qK.elim (l:=xs) h;exact⟨_,by simp[mI,rY,c],d⟩
def FF(tm:T AV)(x:bL)(K:AV->Prop):Prop:=match x with
 | .tmp t=>bQ aI (tm.get t) K
 | .const v=>K v
 | .eL g=>K (.ptr g 0)
 | .func f=>K (.fn (.func f) [] [])
def FF.elim{tm:T AV}{x:bL}{K:AV->Prop}(h:FF tm x K):∃v,rY tm x=B1 v/\K v:=by
 cases x with
 |tmp t=>exact bQ.elim (m:=aI) h
 |const v=>exact⟨v,rfl,h⟩
 |eL v=>exact⟨_,rfl,h⟩
 |func v=>exact⟨_,rfl,h⟩
abbrev cN:=aW->St->Prop
def AY(ps:Option (List Nat))(tm:T AV)(aZ:List aK)(up:Option aG)(Q:cN)(c:aG)(H:ar):Prop:=match ps with
 |some ds=>Q (.panic c) ⟨forget ds tm,aZ,up,H⟩
 |none=>False
def zP(m:Bool)(ctx:Ctx)(up:Option aG)(K:AV->Option aG->Prop):Prop:=ctx.round=B5/\match up with
 |some ((v,B2)::older)=>K v (B1 ((v,B4)::older))
 |_=>K .nili up
@[congr]def aa2{m d:Bool}{ctx:Ctx}{up c:Option aG}{K:AV->Option aG->Prop}(hm:m=d)(h:up=c):zP m ctx up K=zP d ctx c K:=by rw[h,hm]
def GK(m:Bool)(ctx:Ctx)(vs:List AV)(aZ:List aK)(K:List aK->Prop):Prop:=ctx.round=B5/\match vs with
 | .fn (.func f) first cap::args=>K (.fn (.func f) (first++(args++cap))::aZ)
 |_=>False
@[congr]def aa5{m d:Bool}{ctx:Ctx}{vs c:List AV}{aZ:List aK}{K:List aK->Prop}(hm:m=d)(h:vs=c):GK m ctx vs aZ K=GK d ctx c aZ K:=by rw[h,hm]
def gE(vs:List AV)(H:ar)(E:aG->ar->Prop):Prop:=match vs with
 |[.iface t v]=>E [(.iface t v,B2)] H
 |_=>False
@[congr]def aa0{vs c:List AV}{H:ar}{E:aG->ar->Prop}(h:vs=c):gE vs H E=gE c H E:=by rw[h]
def qC(ctx:Ctx)(dst:Option Nat)(ps:Option (List Nat))(st:St)(Q:cN)(K:St->Prop)(vs:List AV):fN->Prop
 | .pure f=>bQ aI (f vs) λ v=>K ⟨eK dst v st.tm,st.aZ,st.up,st.H⟩
 | .read f=>bQ aI (f vs st.H) λ v=>K ⟨eK dst v st.tm,st.aZ,st.up,st.H⟩
 | .alloc f=>iX aI (f vs) λ o mk=>K ⟨eK dst (mk st.H.au) st.tm,st.aZ,st.up,st.H.alloc o⟩
 | .gU f=>iX aI (f vs st.H) λ v H=>K ⟨eK dst v st.tm,st.aZ,st.up,H⟩
 | .iq g=>oJ AP aI (.func g) vs st.H (λ v H=>K ⟨eK dst v st.tm,st.aZ,st.up,H⟩) (AY ps st.tm st.aZ st.up Q)
 | .ic=>NV aI vs λ f vs=>oJ AP aI f vs st.H (λ v H=>K ⟨eK dst v st.tm,st.aZ,st.up,H⟩) (AY ps st.tm st.aZ st.up Q)
 | .invoke name=>Ok AP aI name vs λ f vs=>oJ AP aI f vs st.H (λ v H=>K ⟨eK dst v st.tm,st.aZ,st.up,H⟩) (AY ps st.tm st.aZ st.up Q)
 | .recover=>match vs with
  |[]=>zP aI ctx st.up λ v up=>K ⟨eK dst v st.tm,st.aZ,up,st.H⟩
  |_=>False
 | .defer=>GK aI ctx vs st.aZ λ aZ=>K ⟨eK dst .undef st.tm,aZ,st.up,st.H⟩
 | .panic=>gE vs st.H (AY ps st.tm st.aZ st.up Q)
def Qf(dst:Option Nat)(st:St)(vs:List AV):fN->Prop
 | .read f=>match dst with
  |some d=>bQ aI (f vs st.H) λ v=>bQ aI (st.tm.get d) λ v'=>v=v'
  |none=>False
 |_=>False
def rj(ctx:Ctx)(s:aP)(st:St)(Q:cN)(K:St->Prop):Prop :=
 match s.iv with
 |false=>match s.guard with
  |none=>qK st.tm s.args λ vs=>qC AP ctx s.dst s.cK st Q K vs s.op
  |some g=>bQ aI (cT g.2 (st.tm.get g.1)) λ w=>LR aI w (qK st.tm s.args λ vs=>qC AP ctx s.dst s.cK st Q K vs s.op) (K ⟨eK s.dst .undef st.tm,st.aZ,st.up,st.H⟩)
 |true=>match s.guard with
  |none=>qK st.tm s.args λ vs=>Qf s.dst st vs s.op/\K st
  |some g=>bQ aI (cT g.2 (st.tm.get g.1)) λ w=>LR aI w (qK st.tm s.args λ vs=>Qf s.dst st vs s.op/\K st) (s.dst.isSome=B4/\K st)
def oP(ctx:Ctx):List aP->St->cN->Prop
 |[],st,Q=>Q .normal st
 |s::rest,st,Q=>rj AP ctx s st Q λ st'=>oP ctx rest st' Q
def BL(W:St->cN->Prop)(Q:cN):cN:=λ e st=>match e with
 | .normal=>W st Q
 |e=>Q e st
def BLK(id:Nat)(Q:cN):cN:=λ e st=>match e with
 | .exit id'=>Q (cond (JW id id') .normal (.exit id')) st
 |e=>Q e st
def SCP(b:ai)(Q:cN):cN:=λ e st=>match e with
 | .goto l=>FU b l=B2/\Q (.goto l) st
 |e=>Q e st
def lE(ah:Option (List Nat))(st:St):St:=match ah with
 |none=>st
 |some ks=>{st with tm:=YM st.tm ks .nil}
def Nh(W:St->cN->Prop)(ah:Option (List Nat))(st:St)(Q:cN):Prop :=
 ∃I:Nat->St->Prop,(∃n,I n st) /\ ∀n st,I n st->W (lE ah st) λ e st'=>match e with
  | .normal=>∃m,m<n/\I m st'
  |e=>Q e st'
def U8(st:St)(aZ:List aK)(l:Nat)(Q:cN)(e:bI)(H:ar):Prop:=match e with
 | .panic c=>Q (.panic c) {st with aZ:=aZ,H:=H}
 | .ret _=>∃s p f k tm d,H.get l=B1 (.loop s p f k tm d)/\s≠ .busy/\Q (qP p) {st with aZ:=aZ,H:=H.set l (.loop .exhausted p f k tm d)}
def mU(ctx:Ctx)(st:St)(k:Nat)(H0:ar)(aZ:List aK)(d:Nat)(Q:cN):AV->Prop
 | .fn (.func g) first cap=>∃e H',CALL AP g (first++(.fn (.yield H0.au) [] []::cap)) (H0.alloc (.loop .ready B5 ctx.fn k st.tm d)) e H'/\U8 st aZ H0.au Q e H'
 |_=>False
def JI(ctx:Ctx)(k:Nat)(st:St)(Q:cN)(v:AV):Prop:=match ctx.round with
 |none=>mU AP ctx st k (st.H.alloc (.deferred (B1 []))) (.iy st.H.au::st.aZ) st.H.au Q v
 |some l=>bQ aI (CE st.H l) λ d=>mU AP ctx st k st.H st.aZ d Q v
def WP(ctx:Ctx):ai->St->cN->Prop
 | .skip,st,Q=>Q .normal st
 | .label _,st,Q=>Q .normal st
 | .region steps,st,Q=>oP AP ctx steps st Q
 | .seq a b,st,Q=>WP ctx a st (BL (WP ctx b) Q)
 | .cond c a b,st,Q=>FF st.tm c λ v=>bQ aI (asBool v) λ q=>LR aI q (WP ctx a st Q) (WP ctx b st Q)
 | .block id b,st,Q=>WP ctx b st (BLK id Q)
 | .loop ah b,st,Q=>Nh (WP ctx b) ah st Q
 | .exit id,st,Q=>Q (.exit id) st
 | .goto l,st,Q=>Q (.goto l) st
 | .ret,st,Q=>Q .ret st
 | .stuck,_,_=>False
 | .scope b,st,Q=>WP ctx b st (SCP b Q)
 | .rangeFunc f k,st,Q=>FF st.tm f λ v=>JI AP ctx k st Q v
section
variable(ctx:Ctx)(st:St)(Q:cN)
def VP(s:aP)(l:List aP):oP AP ctx (s::l) st Q=rj AP ctx s st Q λ c=>oP AP ctx l c Q:=propext kr
end
def EX(ctx:Ctx)(c:ai)(st:St)(r:aW×St):Prop:=∃n0,∀n k,n0<=n->n0<=k->(bK c).run (yZ AP n k ctx) st=B1 r
def EXS(ctx:Ctx)(l:List aP)(st:St)(r:aW×St):Prop:=∃n0,∀n k,n0<=n->n0<=k->(ia l).run (yZ AP n k ctx) st=B1 r
def uR.run{AP:ak}{f:mF}{vs:List AV}{H:ar}{e:bI}{H':ar}(h:uR AP f vs H e H') :
 ∃n0,∀n k,n0<=n->n0<=k->dc (AP.call n) (rounds AP.prog (AP.call n) n k) f vs H=B1 (e,H'):=by
 cases f with
 |func g=>obtain⟨n0,h⟩:=h;exact⟨n0,λ n k hn _=>by simp[dc,h n hn]⟩
 |yield l=>obtain⟨n0,h⟩:=h;exact⟨n0,λ n k hn hk=>by simp[dc,h n k hn hk]⟩
def q8d:(∀v,cF v v=B4)/\(∀l,fy l l=B4):=by
 have e1:∀n,JW n n=true:=λ n=>by simp
 have e2:∀k,sO k k=true:=λ k=>by cases k<;>rfl
 have c:∀i,u6 i i=true:=λ i=>by rw[BV];simp
 have d:∀s,A5 s s=true:=λ s=>by rw[MP];simp
 refine⟨λ v=>?_,λ l=>?_⟩
 .refine AV.rec (motive_1:=λ v=>cF v v=B4) (motive_2:=λ l=>fy l l=B4) ?_ ?_ ?_ ?_ ?_ ?_ ?_ ?_ ?_ ?_ ?_ ?_ ?_ ?_ ?_ ?_ ?_ ?_ ?_ v
  all_goals (intros;first|rfl|(simp only[cF,fy,z7,beq_self_eq_true, *];done)|(rename_i f _ _ _ _;cases f<;>simp only[cF,z7, *]))
 .refine AV.rec_1 (motive_1:=λ v=>cF v v=B4) (motive_2:=λ l=>fy l l=B4) ?_ ?_ ?_ ?_ ?_ ?_ ?_ ?_ ?_ ?_ ?_ ?_ ?_ ?_ ?_ ?_ ?_ ?_ ?_ l
  all_goals (intros;first|rfl|(simp only[cF,fy,z7,beq_self_eq_true, *];done)|(rename_i f _ _ _ _;cases f<;>simp only[cF,z7, *]))
def xkd(v:AV):cF v v=true:=q8d.1 v
def Qf.run{d:Option Nat}{st:St}{vs:List AV}{op:fN}(h:Qf d st vs op):∃t,d=B1 t/\rC (T.pw (T.path t)).run st vs op=true:=by
 cases op with
 |read f =>
  cases d with
  |none=>exact Nn h
  |some t =>
   refine⟨t,rfl,?_⟩;obtain⟨v,g,h⟩:=bQ.elim (m:=aI) h;obtain⟨j,i,h⟩:=bQ.elim (m:=aI) h;subst h;have c:(T.pw (T.path t)).run st.tm=B1 v:=by rw[T.jR];exact i
   simp[rC,g,c,xkd]
 |_=>exact Nn h
def qC.run{AP:ak}{ctx:Ctx}{dst:Option Nat}{t:Option (List Nat)}{st:St}{Q:cN}{K:St->Prop}{vs:List AV}{op:fN}(h:qC AP ctx dst t st Q K vs op)
 {kk:Nat->Nat->St->gR} (p:∀st,K st -> ∃e d,Q e d /\ ∃n0,∀n k,n0<=n->n0<=k->kk n k st=B1 (e,d)) :
 ∃e d,Q e d /\ ∃n0,∀n k,n0<=n->n0<=k->(rE (my dst).run t op).run (yZ AP n k ctx) st (kk n k) vs=B1 (e,d):=by
 have hp:∀v tm,(my dst).run v tm=eK dst v tm:=U7 dst;have call:∀{f vs},oJ AP aI f vs st.H (λ v H=>K ⟨eK dst v st.tm,st.aZ,st.up,H⟩) (AY t st.tm st.aZ st.up Q) ->
  ∃e d,Q e d /\ ∃n0,∀n k,n0<=n->n0<=k->((dc (AP.call n) (rounds AP.prog (AP.call n) n k) f vs st.H).bind λ r=>fV (my dst).run t st (kk n k) r)=B1 (e,d):=by
  rintro f vs ⟨e,H',l,h⟩;obtain⟨n0,l⟩:=l.run;cases e with
  |ret v =>
   obtain⟨e,d,j,n1,i⟩:=p _ h;refine⟨e,d,j,max n0 n1,λ n k hn hk=>?_⟩;rw[l n k (by omega) (by omega)]
   simpa[fV,hp]using i n k (by omega) (by omega)
  |panic c =>
   cases t with
   |none=>exact Nn h
   |some ds =>
    refine⟨_,_,h,n0,λ n k hn hk=>?_⟩;rw[l n k (by omega) (by omega)];simp[fV]
 cases op with
 |pure f =>
  obtain⟨v,l,h⟩:=bQ.elim (m:=aI) h;obtain⟨e,d,j,n1,i⟩:=p _ h;exact⟨e,d,j,n1,λ n k hn hk=>by simp[rE,BH,l,hp,i n k hn hk]⟩
 |read f =>
  obtain⟨v,l,h⟩:=bQ.elim (m:=aI) h;obtain⟨e,d,j,n1,i⟩:=p _ h;exact⟨e,d,j,n1,λ n k hn hk=>by simp[rE,Eo,l,hp,i n k hn hk]⟩
 |alloc f =>
  simp only[qC]at h;obtain⟨o,mk,l,h⟩:=iX.elim (m:=aI) h;obtain⟨e,d,j,n1,i⟩:=p _ h;exact⟨e,d,j,n1,λ n k hn hk=>by simp[rE,wP,l,hp,i n k hn hk]⟩
 |gU f =>
  simp only[qC]at h;obtain⟨o,mk,l,h⟩:=iX.elim (m:=aI) h;obtain⟨e,d,j,n1,i⟩:=p _ h;exact⟨e,d,j,n1,λ n k hn hk=>by simp[rE,M4,l,hp,i n k hn hk]⟩
 |iq f=>exact call h
 |ic =>
  simp only[qC,NV]at h;split at h
  .exact call h
  .exact call h
  .exact Nn h
 |invoke name =>
  simp only[qC,Ok]at h;split at h
  .obtain ⟨g,hg,h⟩:=bQ.elim (m:=aI) h;obtain⟨e,d,j,n1,i⟩:=call h;exact⟨e,d,j,n1,λ n k hn hk=>by simpa[rE,tX,yZ,(show AP.prog.kD _ name=B1 g from hg)]using i n k hn hk⟩
  .exact Nn h
 |recover =>
  simp only[qC]at h;split at h
  .obtain ⟨hr,h⟩:=h;split at h
   .rename_i v s q;obtain⟨e,d,j,n1,i⟩:=p _ h;exact⟨e,d,j,n1,λ n k hn hk=>by simpa[rE,TD,yZ,hr,Qp,q,hp]using i n k hn hk⟩
   .rename_i q;obtain⟨e,d,j,n1,i⟩:=p _ h;refine⟨e,d,j,n1,λ n k hn hk=>?_⟩;have:Qp (my dst).run st=⟨eK dst .nili st.tm,st.aZ,st.up,st.H⟩:=by
     unfold Qp;split
     .rename_i v s hu;exact(q _ _ hu).elim
     .rw [hp]
    simpa[rE,TD,yZ,hr,this]using i n k hn hk
  .exact Nn h
 |defer =>
  obtain⟨hr,h⟩:=h;split at h
  .obtain ⟨e,d,j,n1,i⟩:=p _ h;exact⟨e,d,j,n1,λ n k hn hk=>by simpa[rE,xE,yZ,hr,hp]using i n k hn hk⟩
  .exact Nn h
 |panic =>
  simp only[qC,gE]at h;split at h
  .cases t with
   |none=>exact Nn h
   |some ds=>exact⟨_,_,h,0,λ n k hn hk=>by simp[rE,xJ,fV]⟩
  .exact Nn h
def rj.run{AP:ak}{ctx:Ctx}{s:aP}{st:St}{Q:cN}{K:St->Prop}(h:rj AP ctx s st Q K)
 {kk:Nat->Nat->St->gR} (o:∀st,K st -> ∃e c,Q e c /\ ∃n0,∀n k,n0<=n->n0<=k->kk n k st=B1 (e,c)) :
 ∃e c,Q e c /\ ∃n0,∀n k,n0<=n->n0<=k->(gY s).run (yZ AP n k ctx) (kk n k) st=B1 (e,c):=by
 obtain⟨iv,dst,guard,args,op,u⟩:=s;have hp:∀v tm,(my dst).run v tm=eK dst v tm:=U7 dst;have p:∀g,(T.pw (T.path g)).run st.tm=st.tm.get g:=λ g=>by rw[T.jR];rfl
 cases iv with
 |false =>
  cases guard with
  |none =>
   obtain⟨vs,l,h⟩:=qK.elim h;obtain⟨e,c,j,n0,f⟩:=h.run o;exact⟨e,c,j,n0,λ n k hn hk=>by simpa[gY,Iq,l]using f n k hn hk⟩
  |some g =>
   obtain⟨w,hw,h⟩:=bQ.elim (m:=aI) h;cases w with
   |true =>
    obtain⟨vs,l,h⟩:=qK.elim h;obtain⟨e,c,j,n0,f⟩:=h.run o;exact⟨e,c,j,n0,λ n k hn hk=>by simpa[gY,p,hw,Iq,l]using f n k hn hk⟩
   |false =>
    obtain⟨e,c,j,n0,f⟩:=o _ h;exact⟨e,c,j,n0,λ n k hn hk=>by simpa[gY,p,hw,hp]using f n k hn hk⟩
 |true =>
  cases guard with
  |none =>
   obtain⟨vs,l,hk,q⟩:=qK.elim h;obtain⟨t,rfl,hk⟩:=hk.run;obtain⟨e,c,j,n0,f⟩:=o _ q;exact⟨e,c,j,n0,λ n k hn i=>by simpa[gY,Iq,l,hk]using f n k hn i⟩
  |some g =>
   obtain⟨w,hw,h⟩:=bQ.elim (m:=aI) h;cases w with
   |true =>
    obtain⟨vs,l,hk,q⟩:=qK.elim h;obtain⟨t,rfl,hk⟩:=hk.run;obtain⟨e,c,j,n0,f⟩:=o _ q;exact⟨e,c,j,n0,λ n k hn i=>by simpa[gY,p,hw,Iq,l,hk]using f n k hn i⟩
   |false =>
    obtain⟨r,h⟩:=h;obtain⟨e,c,j,n0,f⟩:=o _ h;cases dst with
    |none=>cases r
    |some d=>exact⟨e,c,j,n0,λ n k hn i=>by simpa[gY,p,hw]using f n k hn i⟩
def oP.run{AP:ak}{ctx:Ctx}:∀{l:List aP}{st:St}{Q:cN},oP AP ctx l st Q -> ∃e c,Q e c/\EXS AP ctx l st (e,c)
 |[],st,Q,h=>⟨_,_,h,0,λ _ _ _ _=>rfl⟩
 |s::rest,st,Q,h=>by
  obtain⟨e,c,d,n0,h⟩:=rj.run (kk:=λ n k=>(ia rest).run (yZ AP n k ctx)) h λ c hs=>oP.run hs;exact⟨e,c,d,n0,h⟩
def Ec{AP:ak}{ctx:Ctx}{ah:Option (List Nat)}{b:ai}{Q:cN}{I:Nat->St->Prop}
 (hb:∀n st,I n st -> ∃e f,(match e with| .normal=>∃m,m<n/\I m f|e=>Q e f)/\EX AP ctx b (lE ah st) (e,f)) :
 ∀m n,n<=m -> ∀st,I n st -> ∃e f,Q e f /\ ∃n0 c,∀n k,n0<=n->n0<=k -> ∀d,c<=d->gV ah ((bK b).run (yZ AP n k ctx)) d st=B1 (e,f):=by
 intro m
 induction m with
 |zero =>
  intro n hn st q;obtain⟨e,f,h,n0,g⟩:=hb n st q;cases e with
  |normal=>obtain⟨j,w,_⟩:=h;omega
  |exit id=>exact⟨_,_,h,n0,1,λ n k hn hk d i=>by obtain⟨c,rfl⟩:∃c,d=c+1:=⟨d-1,by omega⟩;have:=g n k hn hk;cases ah<;>simp[gV,lE]at this⊢<;>simp[this]⟩
  |goto l=>exact⟨_,_,h,n0,1,λ n k hn hk d i=>by obtain⟨c,rfl⟩:∃c,d=c+1:=⟨d-1,by omega⟩;have:=g n k hn hk;cases ah<;>simp[gV,lE]at this⊢<;>simp[this]⟩
  |ret=>exact⟨_,_,h,n0,1,λ n k hn hk d i=>by obtain⟨c,rfl⟩:∃c,d=c+1:=⟨d-1,by omega⟩;have:=g n k hn hk;cases ah<;>simp[gV,lE]at this⊢<;>simp[this]⟩
  |panic p=>exact⟨_,_,h,n0,1,λ n k hn hk d i=>by obtain⟨c,rfl⟩:∃c,d=c+1:=⟨d-1,by omega⟩;have:=g n k hn hk;cases ah<;>simp[gV,lE]at this⊢<;>simp[this]⟩
 |succ m ih =>
  intro n hn st q;obtain⟨e,f,h,n0,g⟩:=hb n st q;cases e with
  |normal =>
   obtain⟨j,w,r⟩:=h;obtain⟨e,s,x,n1,c,t⟩:=ih j (by omega) f r;refine⟨e,s,x,max n0 n1,c+1,λ n k hn hk d i=>?_⟩;obtain⟨o,rfl⟩:∃c,d=c+1:=⟨d-1,by omega⟩
   have:=g n k (by omega) (by omega);have u:=t n k (by omega) (by omega) o (by omega);cases ah<;>simp[gV,lE]at this⊢<;>simp[this,u]
  |exit id=>exact⟨_,_,h,n0,1,λ n k hn hk d i=>by obtain⟨c,rfl⟩:∃c,d=c+1:=⟨d-1,by omega⟩;have:=g n k hn hk;cases ah<;>simp[gV,lE]at this⊢<;>simp[this]⟩
  |goto l=>exact⟨_,_,h,n0,1,λ n k hn hk d i=>by obtain⟨c,rfl⟩:∃c,d=c+1:=⟨d-1,by omega⟩;have:=g n k hn hk;cases ah<;>simp[gV,lE]at this⊢<;>simp[this]⟩
  |ret=>exact⟨_,_,h,n0,1,λ n k hn hk d i=>by obtain⟨c,rfl⟩:∃c,d=c+1:=⟨d-1,by omega⟩;have:=g n k hn hk;cases ah<;>simp[gV,lE]at this⊢<;>simp[this]⟩
  |panic p=>exact⟨_,_,h,n0,1,λ n k hn hk d i=>by obtain⟨c,rfl⟩:∃c,d=c+1:=⟨d-1,by omega⟩;have:=g n k hn hk;cases ah<;>simp[gV,lE]at this⊢<;>simp[this]⟩
def mU.run{AP:ak}{ctx:Ctx}{st:St}{j:Nat}{H0:ar}{aZ:List aK}{d:Nat}{Q:cN}{v:AV}(h:mU AP ctx st j H0 aZ d Q v) :
 ∃e g,Q e g /\ ∃n0,∀n k,n0<=n->n0<=k->jK (AP.call n) (rounds AP.prog (AP.call n) n k) ctx st j H0 aZ d v=B1 (e,g):=by
 unfold mU at h;split at h
 .obtain ⟨e,H',⟨n0,i⟩,h⟩:=h;cases e with
  |panic c=>exact⟨_,_,h,n0,λ n k hn hk=>by simp[jK,dc,i n hn,Nv]⟩
  |ret v =>
   obtain⟨s,p,f,k,tm,d,hg,hs,h⟩:=h;refine⟨_,_,h,n0,λ n k hn hk=>?_⟩;simp only[jK,dc,i n hn,Nv,qr,hg]
 .exact Nn h
def WP.run{AP:ak}{ctx:Ctx}:∀{c:ai}{st:St}{Q:cN},WP AP ctx c st Q -> ∃e j,Q e j/\EX AP ctx c st (e,j)
 | .skip,st,Q,h=>⟨_,_,h,0,λ _ _ _ _=>rfl⟩
 | .label _,st,Q,h=>⟨_,_,h,0,λ _ _ _ _=>rfl⟩
 | .exit _,st,Q,h=>⟨_,_,h,0,λ _ _ _ _=>rfl⟩
 | .goto _,st,Q,h=>⟨_,_,h,0,λ _ _ _ _=>rfl⟩
 | .ret,st,Q,h=>⟨_,_,h,0,λ _ _ _ _=>rfl⟩
 | .stuck,st,Q,h=>Nn h
 | .region steps,st,Q,h=>oP.run h
 | .seq a b,st,Q,h=>by
  obtain⟨e,dh,i,n0,g⟩:=WP.run (c:=a) h;cases e with
  |normal =>
   obtain⟨e,t,o,n1,x⟩:=WP.run (c:=b) i;exact⟨e,t,o,max n0 n1,λ n k hn hk=>by simp[bK,g n k (by omega) (by omega),vK,x n k (by omega) (by omega)]⟩
  |exit id=>exact⟨_,_,i,n0,λ n k hn hk=>by simp[bK,g n k hn hk,vK]⟩
  |goto id=>exact⟨_,_,i,n0,λ n k hn hk=>by simp[bK,g n k hn hk,vK]⟩
  |ret=>exact⟨_,_,i,n0,λ n k hn hk=>by simp[bK,g n k hn hk,vK]⟩
  |panic p=>exact⟨_,_,i,n0,λ n k hn hk=>by simp[bK,g n k hn hk,vK]⟩
 | .cond c a b,st,Q,h=>by
  obtain⟨v,r,h⟩:=FF.elim h;obtain⟨q,o,h⟩:=bQ.elim (m:=aI) h;have hv':v=.bool q:=by
   unfold asBool at o;split at o
   .injection o with o;rw[o]
   .cases o
  subst hv';cases q with
  |true =>
   obtain⟨e,dh,i,n0,g⟩:=WP.run (c:=a) h;exact⟨e,dh,i,n0,λ n k hn hk=>by simp[bK,J3,r,uG,g n k hn hk]⟩
  |false =>
   obtain⟨e,dh,i,n0,g⟩:=WP.run (c:=b) h;exact⟨e,dh,i,n0,λ n k hn hk=>by simp[bK,J3,r,uG,g n k hn hk]⟩
 | .block id b,st,Q,h=>by
  obtain⟨e,dh,i,n0,g⟩:=WP.run (c:=b) h;cases e with
  |exit id'=>exact⟨_,_,i,n0,λ n k hn hk=>by simp[bK,g n k hn hk,kP]⟩
  |normal=>exact⟨_,_,i,n0,λ n k hn hk=>by simp[bK,g n k hn hk,kP]⟩
  |goto id=>exact⟨_,_,i,n0,λ n k hn hk=>by simp[bK,g n k hn hk,kP]⟩
  |ret=>exact⟨_,_,i,n0,λ n k hn hk=>by simp[bK,g n k hn hk,kP]⟩
  |panic p=>exact⟨_,_,i,n0,λ n k hn hk=>by simp[bK,g n k hn hk,kP]⟩
 | .scope b,st,Q,h=>by
  obtain⟨e,dh,i,n0,g⟩:=WP.run (c:=b) h;cases e with
  |exit id'=>exact⟨_,_,i,n0,λ n k hn hk=>by simp[bK,g n k hn hk,mq]⟩
  |normal=>exact⟨_,_,i,n0,λ n k hn hk=>by simp[bK,g n k hn hk,mq]⟩
  |goto id=>exact⟨_,_,i.2,n0,λ n k hn hk=>by simp[bK,g n k hn hk,mq,i.1]⟩
  |ret=>exact⟨_,_,i,n0,λ n k hn hk=>by simp[bK,g n k hn hk,mq]⟩
  |panic p=>exact⟨_,_,i,n0,λ n k hn hk=>by simp[bK,g n k hn hk,mq]⟩
 | .loop ah b,st,Q,⟨I,⟨n,s⟩,h⟩=>by
  obtain⟨e,j,o,n0,c,g⟩:=Ec (AP:=AP) (ctx:=ctx) (ah:=ah) (b:=b) (Q:=Q) (I:=I) (λ n st s=>by
   obtain⟨e,j,i,u⟩:=WP.run (c:=b) (h n st s);exact⟨e,j,i,u⟩) n n (qm n) st s
  exact⟨e,j,o,max n0 c,λ n k hn hk=>g n k (by omega) (by omega) n (by omega)⟩
 | .rangeFunc f k0,st,Q,h=>by
  obtain⟨v,r,h⟩:=FF.elim h;unfold JI at h;cases hr:ctx.round with
  |none =>
   rw[hr]at h;obtain⟨e,j,o,n0,g⟩:=mU.run h;exact⟨e,j,o,n0,λ n k hn hk=>by simpa[bK,J3,r,qZ,yZ,hr]using g n k hn hk⟩
  |some l =>
   rw[hr]at h;obtain⟨d,w,h⟩:=bQ.elim (m:=aI) h;obtain⟨e,j,o,n0,g⟩:=mU.run h;exact⟨e,j,o,n0,λ n k hn hk=>by simpa[bK,J3,r,qZ,yZ,hr,w]using g n k hn hk⟩
def Ap(AP:ak)(rs:List d9)(tm:T AV)(Q:bI->ar->Prop):List aK->Option aG->ar->Prop
 |[],B5,H=>bQ aI (ep H tm rs) λ l=>Q (.ret (jB l)) H
 |[],B1 c,H=>Q (.panic c) H
 | .iy b::ds,m,H=>H.get b=B1 (.deferred (B1 []))/\Ap AP rs tm Q ds m (H.set b (.deferred B5))
 | .fn (.func f) args::ds,m,H=>∃v up' H',jT AP f args (B1 (m.getD [])) H (.ret v) (B1 up') H'/\bQ aI (oE m up') λ m'=>Ap AP rs tm Q ds m' H'
 | .fn (.yield _) _::_,_,_=>False
def Ap.run{AP:ak}{rs:List d9}{tm:T AV}{Q:bI->ar->Prop}:∀{ds:List aK}{m:Option aG}{H:ar},Ap AP rs tm Q ds m H ->
 ∃e H',Q e H' /\ ∃n0,∀n,n0<=n->ct (AP.call n) rs tm ds m H=B1 (e,H')
 |[],B5,H,h=>by
  obtain⟨l,hl,h⟩:=bQ.elim (m:=aI) h;exact⟨_,_,h,0,λ n _=>by simp[ct,hl]⟩
 |[],B1 c,H,h=>⟨_,_,h,0,λ n _=>by simp[ct]⟩
 | .iy b::ds,m,H,⟨hb,h⟩=>by
  obtain⟨e,H',d,n0,g⟩:=Ap.run h;exact⟨e,H',d,n0,λ n hn=>by simp[ct,hb,g n hn]⟩
 | .fn (.func f) args::ds,m,H,⟨v,up',H',⟨n0,hc⟩,h⟩=>by
  obtain⟨j,hm,h⟩:=bQ.elim (m:=aI) h;obtain⟨e,i,d,n1,g⟩:=Ap.run h;exact⟨e,i,d,max n0 n1,λ n hn=>by simp[ct,hc n (by omega),hm,g n (by omega)]⟩
 | .fn (.yield _) _::_,_,_,h=>Nn h
def Yu(AP:ak)(rs:List d9)(Q:bI->Option aG->ar->Prop):cN:=λ e st=>match e with
 | .normal=>Ap AP rs st.tm (λ e H=>Q e st.up H) st.aZ B5 st.H
 | .ret=>Ap AP rs st.tm (λ e H=>Q e st.up H) st.aZ B5 st.H
 | .panic c=>Ap AP rs st.tm (λ e H=>Q e st.up H) st.aZ (B1 c) st.H
 |_=>False
def x_{AP:ak}{f:Nat}{fn:bZ}(i:AP.func f=B1 fn){vs:List AV}{up:Option aG}{H:ar}{Q:bI->Option aG->ar->Prop}
 (h:WP AP ⟨B5,f⟩ fn.body ⟨jO 0 vs .nil,[],up,H⟩ (Yu AP fn.results Q)):∃e d H',jT AP f vs up H e d H'/\Q e d H':=by
 obtain⟨l,i⟩:=ak.yU i;obtain⟨e,st,g,n0,p⟩:=h.run;have key:∀m,Ap AP fn.results st.tm (λ e H=>Q e st.up H) st.aZ m st.H->(∀call,qO call fn (e,st)=(ct call fn.results st.tm st.aZ m st.H).bind λ q=>B1 (q.1,st.up,q.2)) ->
  ∃e d H',jT AP f vs up H e d H'/\Q e d H':=by
  intro m g he;obtain⟨e',H',o,n1,r⟩:=g.run;refine⟨e',st.up,H',⟨max n0 n1+1,λ n hn=>?_⟩,o⟩;obtain⟨n,rfl⟩:∃j,n=j+1:=⟨n-1,by omega⟩
  have:=p n n (by omega) (by omega);simp only[yZ]at this;rw[ak.Ah l];simp only[Ig,i,qr,exec,this,he,r n (by omega)]
 cases e with
 |normal=>exact key B5 g λ _=>rfl
 |ret=>exact key B5 g λ _=>rfl
 |panic c=>exact key (B1 c) g λ _=>rfl
 |exit _=>exact Nn g
 |goto _=>exact Nn g
def q8o{AP:ak}{f:Nat}{fn:bZ}(g:AP.func f=B1 fn){vs:List AV}{H:ar}{Q:bI->ar->Prop}
 (h:WP AP ⟨B5,f⟩ fn.body ⟨jO 0 vs .nil,[],B5,H⟩ (Yu AP fn.results λ e up H=>up=B5/\Q e H)):∃e H',CALL AP f vs H e H'/\Q e H':=by
 obtain⟨e,i,H',c,rfl,d⟩:=x_ g h;exact⟨e,H',c,d⟩
def RE(l:Nat)(Q:bI->ar->Prop):cN:=λ e st=>st.aZ=[]/\match e with
 | .panic c=>Q (.panic c) st.H
 |e=>bQ aI (cX st.H l (cond (Ak e) .ready .done) (kX e)) λ H=>Q (.ret (.bool (Ak e))) H
def RB(W:St->cN->Prop)(l:Nat)(Q:bI->ar->Prop):cN:=λ e st=>match e with
 | .normal=>bQ aI (beginRound st.H l) λ H=>W {st with H:=H} (RE l Q)
 |_=>False
def Λ{AP:ak}{l:Nat}{H:ar}{s:nj}{p:Option im}{f k:Nat}{tm:T AV}{d:Nat}{fn:bZ}{lp:dT}{vs:List AV}{u:T AV}{Q:bI->ar->Prop}
 (hl:H.get l=B1 (.loop s p f k tm d)) (y:AP.func f=B1 fn) (hk:nth fn.loops k=B1 lp) (hb:Kx tm lp.params vs=B1 u)
 (h:WP AP ⟨B1 l,f⟩ lp.assign ⟨u,[],B5,H⟩ (RB (WP AP ⟨B1 l,f⟩ lp.body) l Q)):∃e H',sR AP l vs H e H'/\Q e H':=by
 obtain⟨F,y⟩:=ak.yU y;obtain⟨e,st,o,n0,J⟩:=h.run;cases e with
 |normal =>
  obtain⟨N,x,o⟩:=bQ.elim (m:=aI) o;obtain⟨e,z,⟨C,g⟩,n1,L⟩:=WP.run o;have key:∀e' H',Q e' H'->GA l (e,z)=B1 (e',H') -> ∃e H',sR AP l vs H e H'/\Q e H':=by
   intro e' H' G he;refine⟨e',H',⟨max n0 n1+1,λ n j hn O=>?_⟩,G⟩;obtain⟨j,rfl⟩:∃i,j=i+1:=⟨j-1,by omega⟩
   have r:=J n j (by omega) (by omega);have t:=L n j (by omega) (by omega);simp only[yZ]at r t;simp only[rounds,roundOf,hl,y,qr,hk,hb,exec,r,x,t,C,roundOf.noDefs,xu,he]
  cases e with
  |panic c=>exact key _ _ g rfl
  |normal=>obtain⟨w,q,g⟩:=bQ.elim (m:=aI) g;exact key _ _ g (by simp[GA,q])
  |exit id=>obtain⟨w,q,g⟩:=bQ.elim (m:=aI) g;exact key _ _ g (by simp[GA,q])
  |goto id=>obtain⟨w,q,g⟩:=bQ.elim (m:=aI) g;exact key _ _ g (by simp[GA,q])
  |ret=>obtain⟨w,q,g⟩:=bQ.elim (m:=aI) g;exact key _ _ g (by simp[GA,q])
 |exit _=>exact Nn o
 |goto _=>exact Nn o
 |ret=>exact Nn o
 |panic _=>exact Nn o
def CALL.Ef{AP:ak}{f:Nat}{vs:List AV}{H:ar}{e:bI}{H':ar}(h:CALL AP f vs H e H'):∃n,AP.call n f vs B5 H=B1 (e,B5,H'):=by
 obtain⟨n,h⟩:=h;exact⟨n,h n (qm n)⟩
end
end Go.Am
namespace Go.Am
abbrev Env:=List (Nat×AV)
def lT(dst:Option Nat)(v:AV)(E:Env):Env:=match dst with
 |some d=>(d,v)::E
 |none=>E
def ue{α β:Type}(m:Bool)(o:Option (α×β))(K:Bool -> α -> β->Prop):Prop:=match o with
 |some a=>K aI a.1 a.2
 |none=>False
def LK{α:Type}(m:Bool)(o:Option α)(K:Bool -> α->Prop):Prop:=match o with
 |some a=>K m a
 |none=>False
def Hl{α:Type}(a:α)(K:Bool -> α->Prop):LK B4 (B1 a) K=K B4 a:=propext kr
@[congr]def ac3{α:Type}{m c:Bool}{o o':Option α}{K:Bool -> α->Prop}(hm:m=c)(h:o=o'):LK m o K=LK c o' K:=by grind
@[congr]def ab0{α β:Type}{m c:Bool}{o o':Option (α×β)}{K:Bool -> α -> β->Prop}(hm:m=c)(h:o=o'):ue m o K=ue c o' K:=by grind
theorem ue.intro{α β:Type}{m:Bool}{o:Option (α×β)}{K:Bool -> α -> β->Prop}{a:α}{b:β}(h:o=B1 (a,b))(hk:K aI a b):ue m o K:=by subst h;exact hk
noncomputable section
variable(AP:ak)
end
end Go.Am
namespace Go.Am
def xod(n:Int):aj .i64 n=(n+9223372036854775808) % 18446744073709551616-9223372036854775808:=by
 simp[aj,IntKind.wrap,IntKind.bits,IntKind.signed];split<;>omega
def xeq(n:Int):aj .u64 n=n % 18446744073709551616:=by simp[aj,IntKind.wrap,IntKind.bits,IntKind.signed]
theorem jj{n:Int}(h:-9223372036854775808<=n)(c:n<9223372036854775808):aj .i64 n=n:=by rw[xod];omega
def sW{n:Int}(h:0<=n)(c:n<18446744073709551616):aj .u64 n=n:=by rw[xeq];omega
section
variable(k:PJ)(a b:Int)
def LO(v:AV):Op.move [v]=B1 v:=rfl
def MM(q:Bool)(a b:AV):Op.pick [.bool q,a,b]=B1 (cond q a b):=rfl
def PT:Op.bin .add [.int k a,.int k b]=B1 (.int k (aj k (a+b))):=by cases k<;>rfl
def Q9:Op.bin .sub [.int k a,.int k b]=B1 (.int k (aj k (a-b))):=by cases k<;>rfl
def RI:Op.bin .mul [.int k a,.int k b]=B1 (.int k (aj k (a*b))):=by cases k<;>rfl
def P2(hb:b≠0):Op.bin .quo [.int k a,.int k b]=B1 (.int k (aj k (a.tdiv b))):=by
 have:u6 b 0=false:=by rw[BV];simpa using hb
 cases k<;>simp[Op.bin,nP,eB,sO,kB,gH,this]
def vB(hb:b≠0):Op.bin .rem [.int k a,.int k b]=B1 (.int k (a.tmod b)):=by
 have:u6 b 0=false:=by rw[BV];simpa using hb
 cases k<;>simp[Op.bin,nP,eB,sO,kB,gH,this]
def OT:Op.bin .eql [.int k a,.int k b]=B1 (.bool (decide (a=b))):=by
 have:u6 a b=decide (a=b):=by rw[BV];rfl
 cases k<;>simp[Op.bin,nP,eB,sO,kB,gH,this]
def Qe:Op.bin .neq [.int k a,.int k b]=B1 (.bool (decide (a≠b))):=by
 have:u6 a b=decide (a=b):=by rw[BV];rfl
 cases k<;>simp[Op.bin,nP,eB,sO,kB,gH,this]
def QV:Op.bin .lss [.int k a,.int k b]=B1 (.bool (decide (a<b))):=by
 cases k<;>simp[Op.bin,nP,eB,sO,kB,gH,MD]
def Rx:Op.bin .leq [.int k a,.int k b]=B1 (.bool (decide (a<=b))):=by
 cases k<;>simp[Op.bin,nP,eB,sO,kB,gH,OK]
def OY:Op.bin .gtr [.int k a,.int k b]=B1 (.bool (decide (b<a))):=by
 cases k<;>simp[Op.bin,nP,eB,sO,kB,gH,MD]
def QO:Op.bin .geq [.int k a,.int k b]=B1 (.bool (decide (b<=a))):=by
 cases k<;>simp[Op.bin,nP,eB,sO,kB,gH,OK]
def MA(k':PJ):Op.wrap k [.int k' a]=B1 (.int k (aj k a)):=rfl
def OZ(q:Bool):Op.un .not [.bool q]=B1 (.bool (!q)):=rfl
def s_(a b:List UInt8):A5 a b=decide (a=b):=by
 by_cases h:a=b
 .subst h;simp[MP]
 .simp [MP,h]
def KD(a b:List UInt8):Op.bin .eql [.str a,.str b]=B1 (.bool (decide (a=b))):=by
 simp only[Op.bin,nP,rX,s_]
def KT(a b:List UInt8):Op.bin .neq [.str a,.str b]=B1 (.bool (decide (a≠b))):=by
 simp[Op.bin,nP,rX,s_]
def Dx(s:List UInt8):Op.fE [.str s]=B1 (.int .i64 s.length):=by simp[Op.fE,eX,IY]
def xm8(i:Nat)(l:List AV):Op.extract i [.tuple l]=l[i]?:=by simp[Op.extract,jP]
def Fb(f n:Nat)(l:List AV):Op.bt f n l=B1 (.fn (.func f) (l.take n) (l.drop n)):=rfl
def xna(t:Nat)(v:AV):Op.dH t [v]=B1 (.iface t v):=rfl
def xf9(off b o:Nat):Op.fieldAddr off [.ptr b o]=B1 (.ptr b (o+off)):=rfl
def FC(off:Nat)(l:List AV):Op.field off B5 [.agg l]=l[off]?:=by simp[Op.field,partAt,jP]
def MY(q:Bool):cT B4 (B1 (.bool q))=B1 q:=by cases q<;>rfl
def GF(q:Bool):cT B2 (B1 (.bool q))=B1 (!q):=by cases q<;>rfl
def GR(b:Bool):cT b (B1 .undef)=B1 false:=rfl
end
structure Fr(W:Nat->Prop)(H H':ar):Prop where
 au:H.au<=H'.au
 ah:∀b,b<H.au -> ¬W b->H'.get b=H.get b
def Em:Nat->Prop:=λ _=>False
def On(b:Nat):Nat->Prop:=λ x=>x=b
theorem Fr.refl{W:Nat->Prop}(H:ar):Fr W H H:=⟨qm _,λ _ _ _=>rfl⟩
theorem Fr.trans{W W':Nat->Prop}{H H1 d:ar}(a:Fr W H H1)(b:Fr W' H1 d)(h:∀x,W' x->W x\/H.au<=x):Fr W H d :=
 ⟨x9 a.au b.au,λ x f hw=>by
  rw[b.ah x (qn f a.au) (λ c=>(h x c).elim hw (λ q=>by omega)),a.ah x f hw]⟩
def Fr.em{W:Nat->Prop}{H H1 c:ar}(a:Fr W H H1)(b:Fr Em H1 c):Fr W H c:=a.trans b λ _ h=>h.elim
def Fr.mono{W W':Nat->Prop}{H H':ar}(a:Fr W H H')(h:∀x,x<H.au->W x->W' x):Fr W' H H':=⟨a.au,λ x c hw=>a.ah x c λ q=>hw (h x c q)⟩
def xz(H:ar)(o:bE):(H.alloc o).au=H.au+1:=rfl
def tO(H:ar)(b:Nat)(o:bE):(H.set b o).au=H.au:=rfl
def HH(H:ar)(b:Nat):(H.kill b).au=H.au:=rfl
theorem Fr.alloc{W:Nat->Prop}{H H1:ar}(a:Fr W H H1)(o:bE):Fr W H (H1.alloc o) :=
 ⟨Nat.le_succ_of_le a.au,λ x c hw=>by rw[ar.bN,qy (by have:=a.au;omega),a.ah x c hw]⟩
theorem Fr.set{W:Nat->Prop}{H H1:ar}(a:Fr W H H1){b:Nat}(h:W b\/H.au<=b)(o:bE):Fr W H (H1.set b o) :=
 ⟨a.au,λ x c hw=>by rw[ar.aJ,qy (by rintro rfl;exact h.elim hw (λ q=>by omega)),a.ah x c hw]⟩
def Fr.kill{W:Nat->Prop}{H H1:ar}(a:Fr W H H1){b:Nat}(h:W b\/H.au<=b):Fr W H (H1.kill b) :=
 ⟨a.au,λ x c hw=>by rw[ar.rH,qy (by rintro rfl;exact h.elim hw (λ q=>by omega)),a.ah x c hw]⟩
def xe{H:ar}{b:Nat}{c:List AV}{e:Nat}{fz:Nat×Nat}{ow:Bool}(h:H.get b=B1 (.row c e fz ow)):H.bW b=B1 c:=by simp[ar.bW,h]
def O5{H:ar}{b m s:Nat}{c:List AV}{e:Nat}{fz:Nat×Nat}(h:H.get b=B1 (.grown m s c e fz)):H.bW b=B1 c:=by simp[ar.bW,h]
def q8p{H H':ar}{b:Nat}(h:H'.get b=H.get b):H'.bW b=H.bW b:=by simp[ar.bW,h]
def Fr.cells{W:Nat->Prop}{H H':ar}(a:Fr W H H'){b:Nat}(hb:b<H.au)(hw:¬W b):H'.bW b=H.bW b:=q8p (a.ah b hb hw)
def zd{H:ar}{b:Nat}{c:List AV}(h:H.bW b=B1 c)(o:Nat):Op.ae [.ptr b o] H=c[o]?:=by simp[Op.ae,ar.ae,h,jP]
def se{H:ar}{b:Nat}{c:List AV}(h:H.bW b=B1 c){o n:Nat}(hn:o+n<=c.length):Op.aq n [.ptr b o] H=B1 (.agg ((c.drop o).take n)):=by
 simp only[Op.aq,ar.aq,h,qr,tR];rw[xg (by omega)];rfl
def Sl(H:ar)(size:Nat)(v:AV)(n:Nat)(cells:List AV):Prop :=
 cells.length=n*size/\match v with
 | .nils=>n=0
 | .slice b o m c=>m=n/\n<=c/\(n=0\/b<H.au /\ ∃all,H.bW b=B1 all/\fR all o (n*size)=B1 cells)
 | .gslice b i m s alt k=>k=n/\s=size/\i+n<=m/\(n=0\/b<H.au /\ ∃all,H.bW b=B1 all/\fR all (i*size) (n*size)=B1 cells)
 | .eslice b=>n=0/\b<H.au
 |_=>False
def aF:AV->Nat
 | .slice b _ _ _=>b
 | .gslice b _ _ _ _ _=>b
 | .eslice b=>b
 |_=>0
def cZ(size:Nat):AV->Nat->Nat
 | .slice _ o _ _,j=>o+j*size
 | .gslice _ i _ s _ _,j=>i*s+j*s
 |_,_=>0
def Sl.eJ{H:ar}{size:Nat}{v:AV}{n:Nat}{cells:List AV}(h:Sl H size v n cells):eJ v=B1 n:=by
 obtain⟨_,h⟩:=h;split at h
 .subst h;rfl
 .obtain ⟨rfl,_⟩:=h;rfl
 .obtain ⟨rfl,_⟩:=h;rfl
 .obtain ⟨rfl,_⟩:=h;rfl
 .exact h.elim
def Sl.len{H:ar}{size:Nat}{v:AV}{n:Nat}{cells:List AV}(h:Sl H size v n cells):Op.cD [v]=B1 (.int .i64 n):=by
 obtain⟨_,h⟩:=h;split at h
 .subst h;rfl
 .obtain ⟨rfl,_⟩:=h;rfl
 .obtain ⟨rfl,_⟩:=h;rfl
 .obtain ⟨rfl,_⟩:=h;rfl
 .exact h.elim
def LH{z:Int}{i n:Nat}(c:z=i)(h:i<n):within z n=B1 i:=by
 subst c;show cond (Pk i n) (B1 i) B5=B1 i;have:Pk i n=true:=by simpa[zU]using h
 rw[this];rfl
def FM{i j:Nat}(h:i≠j):JW i j=false:=by
 cases q:JW i j with
 |false=>rfl
 |true=>exact(h (Lu q)).elim
def AN{i n:Nat}(h:i<n):Pk i n=true:=by simpa[zU]using h
def ye{i n:Nat}(h:i<=n):Oh i n=true:=by simpa using h
def Sl.idx{H:ar}{size:Nat}{v:AV}{n:Nat}{cells:List AV}(h:Sl H size v n cells){i:Nat}(d:i<n){z:Int}(g:z=i)(k:PJ) :
 Op.aQ size [v,.int k z]=B1 (.ptr (aF v) (cZ size v i)):=by
 obtain⟨hl,h⟩:=h;split at h
 .omega
 .rename_i b o m c;obtain⟨rfl,p,h⟩:=h;have f:=AN d;simp[Op.aQ,Am.eJ,LH g d,elemAt,f,aF,cZ]
 .rename_i b j m s alt k;obtain⟨rfl,rfl,hm,h⟩:=h;have f:=AN d;have l:=AN (show j+i<m by omega);simp[Op.aQ,Am.eJ,LH g d,elemAt,f,l,aF,cZ]
 .omega
 .exact h.elim
def Oz{α:Type}{l r:List α}{o n:Nat}(h:fR l o n=B1 r):n<=l.length-o/\r=(l.drop o).take n:=by
 rw[tR]at h;split at h
 .rename_i hn;injection h with h;exact⟨hn,h.symm⟩
 .cases h
def Sl.at{H:ar}{size:Nat}{v:AV}{n:Nat}{cells:List AV}(g:0<size)(h:Sl H size v n cells){i:Nat}(p:i<n) :
 aF v<H.au /\ ∃all,H.bW (aF v)=B1 all/\cZ size v i+size<=all.length /\ ∀j,j<size->all[cZ size v i+j]? = cells[i*size+j]?:=by
 obtain⟨hl,h⟩:=h;have t:0<n*size:=Nat.mul_pos (by omega) g;have u:i*size+size<=n*size:=by rw[<-vy];exact yd _ p
 split at h
 .omega
 .rename_i b o m c;obtain⟨rfl,w,h⟩:=h;rcases h with h|⟨hb,all,d,f⟩
  .omega
  obtain⟨l,rfl⟩:=Oz f;refine⟨hb,all,d,?_,λ j r=>?_⟩
  .simp only[cZ];simp at hl;omega
  .simp only[cZ];rw[JQ,xg (by omega),wx];congr 1;omega
 .rename_i b q m s alt k;obtain⟨rfl,rfl,hm,h⟩:=h;rcases h with h|⟨hb,all,d,f⟩
  .omega
  obtain⟨l,rfl⟩:=Oz f;refine⟨hb,all,d,?_,λ j r=>?_⟩
  .simp only[cZ];simp at hl;omega
  .simp only[cZ];rw[JQ,xg (by omega),wx];congr 1;omega
 .omega
 .exact h.elim
def Sl.fr{H H':ar}{W:Nat->Prop}{size:Nat}{v:AV}{n:Nat}{cells:List AV}(h:Sl H size v n cells)(f:Fr W H H')(hw:n=0 \/ ¬W (aF v)):Sl H' size v n cells:=by
 obtain⟨hl,h⟩:=h;refine⟨hl,?_⟩;split at h
 .exact h
 .obtain ⟨d,g,c⟩:=h;refine⟨d,g,?_⟩;rcases c with c|⟨hb,all,c,i⟩
  .exact .inl c
  .rcases hw with hw|hw
   .exact .inl hw
   .exact .inr ⟨qn hb f.au,all,by rw[f.cells hb hw];exact c,i⟩
 .obtain ⟨d,g,j,c⟩:=h;refine⟨d,g,j,?_⟩;rcases c with c|⟨hb,all,c,i⟩
  .exact .inl c
  .rcases hw with hw|hw
   .exact .inl hw
   .exact .inr ⟨qn hb f.au,all,by rw[f.cells hb hw];exact c,i⟩
 .exact ⟨h.1,qn h.2 f.au⟩
 .exact h.elim
def Sl.em{H H':ar}{size:Nat}{v:AV}{n:Nat}{cells:List AV}(h:Sl H size v n cells)(f:Fr Em H H'):Sl H' size v n cells:=h.fr f (.inr id)
def Sl.first{H:ar}{size:Nat}{v:AV}{n:Nat}{cells:List AV}(h:Sl H size v n cells):firstCells H size n v=B1 cells:=by
 obtain⟨hl,h⟩:=h;split at h
 .subst h;simp at hl;subst hl;rfl
 .rename_i b o m c;obtain⟨rfl,j,h⟩:=h;rcases h with rfl|⟨hb,all,d,f⟩
  .simp at hl;subst hl;rfl
  .by_cases hn:m=0
   .subst hn;simp at hl;subst hl;rfl
   .have:JW m 0=false:=FM hn;simp only[firstCells,this,zp,ar.aq,d,qr,f]
 .rename_i b i m s alt k;obtain⟨rfl,rfl,hm,h⟩:=h;rcases h with rfl|⟨hb,all,d,f⟩
  .simp at hl;subst hl;rfl
  .by_cases hn:k=0
   .subst hn;simp at hl;subst hl;rfl
   .have:JW k 0=false:=FM hn;have g:=AN (show i<m by omega);simp[firstCells,this,g,ar.aq,d,f]
 .obtain ⟨rfl,_⟩:=h;simp at hl;subst hl;rfl
 .exact h.elim
def bR{α:Type}(enc:α->List AV)(size:Nat)(H:ar)(v:AV)(xs:List α):Prop:=Sl H size v xs.length (xs.flatMap enc)
section
variable{α:Type}{enc:α->List AV}{size:Nat}{H H':ar}{v:AV}{xs:List α}
def bR.len(h:bR enc size H v xs):Op.cD [v]=B1 (.int .i64 xs.length):=Sl.len h
def bR.fr{W:Nat->Prop}(h:bR enc size H v xs)(f:Fr W H H')(hw:¬W (aF v)):bR enc size H' v xs:=Sl.fr h f (.inr hw)
def bR.em(h:bR enc size H v xs)(f:Fr Em H H'):bR enc size H' v xs:=Sl.em h f
theorem Jl(hs:∀x,(enc x).length=size):∀(xs:List α){i:Nat}{x:α},xs[i]? = B1 x -> ∀{j:Nat},j<size->(xs.flatMap enc)[i*size+j]? = (enc x)[j]?
 |[],i,x,h,j,hj=>by simp at h
 |y::ys,0,x,h,j,hj=>by
  simp at h;subst h;rw[j6,yz (by rw[hs];omega)];simp
 |y::ys,i+1,x,h,j,hj=>by
  simp only[jb]at h;rw[j6,je (by rw[hs,vy];omega),hs,<-Jl hs ys h hj];congr 1;rw[vy];omega
def LV{i:Nat}{x:α}(h:xs[i]? = B1 x):i<xs.length:=(qo.1 h).1
def bR.idx(h:bR enc size H v xs){i:Nat}{x:α}(c:xs[i]? = B1 x){z:Int}(d:z=i)(k:PJ):Op.aQ size [v,.int k z]=B1 (.ptr (aF v) (cZ size v i)) :=
 Sl.idx h (LV c) d k
def bR.ae(hs:∀x,(enc x).length=size)(h:bR enc size H v xs){i:Nat}{x:α}(d:xs[i]? = B1 x){j:Nat}(c:j<size):Op.ae [.ptr (aF v) (cZ size v i+j)] H=(enc x)[j]?:=by
 obtain⟨_,all,f,l,g⟩:=Sl.at (by omega) h (LV d);rw[zd f,g j c,Jl hs xs d c]
def bR.jQ(hs:∀x,(enc x).length=size)(h:bR enc size H v xs){i:Nat}{x:α}(d:xs[i]? = B1 x)(c:0<size):Op.ae [.ptr (aF v) (cZ size v i)] H=(enc x)[0]?:=h.ae hs d c
def bR.aq(hs:∀x,(enc x).length=size)(d:0<size)(h:bR enc size H v xs){i:Nat}{x:α}(f:xs[i]? = B1 x):Op.aq size [.ptr (aF v) (cZ size v i)] H=B1 (.agg (enc x)):=by
 obtain⟨_,all,g,l,m⟩:=Sl.at d h (LV f);rw[se g l];congr 2;refine yo λ j=>?_
 by_cases c:j<size
 .rw [JQ,xg c,wx,m j c,Jl hs xs f c]
 .rw [jt (by simp;omega),jt (by rw[hs];omega)]
end
def Own(H:ar)(e size:Nat)(v:AV)(n:Nat)(cells:List AV):Prop :=
 cells.length=n*size/\(n=0/\(v=.nils \/ ∃b,v=.slice b 0 0 0/\b<H.au) \/ ∃b,v=.gslice b 0 n size 0 n/\b<H.au/\H.get b=B1 (.grown n size cells e (0,0)))
def aM(v:AV):Nat->Prop:=λ x=>v≠ .nils/\x=aF v
def Own.nil(H:ar)(e size:Nat):Own H e size .nils 0 []:=⟨by simp,.inl ⟨rfl,.inl rfl⟩⟩
def Own.sl{H:ar}{e size:Nat}{v:AV}{n:Nat}{cells:List AV}(h:Own H e size v n cells):Sl H size v n cells:=by
 obtain⟨hl,⟨rfl,rfl|⟨b,rfl,hb⟩⟩|⟨b,rfl,c,d⟩⟩:=h
 .exact ⟨hl,rfl⟩
 .exact ⟨hl,rfl,qm _,.inl rfl⟩
 .refine ⟨hl,rfl,rfl,by omega,.inr ⟨c,cells,O5 d,?_⟩⟩;rw[tR,xg (by simp[hl])];simp[<-hl]
def Own.fr{H H':ar}{W:Nat->Prop}{e size:Nat}{v:AV}{n:Nat}{cells:List AV}(h:Own H e size v n cells)(f:Fr W H H')(hw:∀x,aM v x -> ¬W x):Own H' e size v n cells:=by
 obtain⟨hl,⟨c,h|⟨b,rfl,hb⟩⟩|⟨b,rfl,d,g⟩⟩:=h
 .exact ⟨hl,.inl ⟨c,.inl h⟩⟩
 .exact ⟨hl,.inl ⟨c,.inr ⟨b,rfl,qn hb f.au⟩⟩⟩
 .exact ⟨hl,.inr ⟨b,rfl,qn d f.au,by rw[f.ah b d (hw b ⟨by simp,rfl⟩)];exact g⟩⟩
def Own.em{H H':ar}{e size:Nat}{v:AV}{n:Nat}{cells:List AV}(h:Own H e size v n cells)(f:Fr Em H H'):Own H' e size v n cells:=h.fr f λ _ _ h=>h
def Own.lt{H:ar}{e size:Nat}{v:AV}{n:Nat}{cells:List AV}(h:Own H e size v n cells):∀x,aM v x->x<H.au:=by
 rintro x ⟨c,rfl⟩;obtain⟨hl,⟨d,h|⟨b,rfl,hb⟩⟩|⟨b,rfl,c,f⟩⟩:=h
 .exact (c h).elim
 .exact hb
 .exact c
def Sl.one{H:ar}{size:Nat}{v:AV}{n:Nat}{cells:List AV}(h:Sl H size v n cells):aB v=true:=by
 obtain⟨_,h⟩:=h;cases v<;>first|rfl|exact h.elim
def T7{n bytes:Nat}(c:n*bytes<=140737488355328)(d:n<=140737488355328):fits n bytes=true:=by
 simp[fits,c,d]
theorem _b{H:ar}{e size bytes:Nat}{v:AV}{n:Nat}{cells:List AV}(h:Own H e size v n cells){x:AV}{k:Nat}{new:List AV}(p:Sl H size x k new)(g:aN new=B4)(hs:0<size)
 (u:(n+k)*bytes<=140737488355328) (l:n+k<=140737488355328) {K:Bool->AV->ar->Prop} {m:Bool}
 (hk:∀q H',Own H' e size q (n+k) (cells++new)->Fr (aM v) H H'->(∀b,aM q b->aM v b\/H.au<=b)->K aI q H'):ue m (Op.append e size bytes [v,x] H) K:=by
 have c:=T7 u l;have hlen:new.length=k*size:=p.1;have f:=AN hs;have e1:∀n,JW n n=true:=λ n=>by simp
 simp only[Op.append,p.eJ,p.first,qr,g,xu];obtain⟨hl,⟨rfl,rfl|⟨b,rfl,hb⟩⟩|⟨b,rfl,s,r⟩⟩:=h
 .simp only[Ax,jc]at hl;subst hl
  by_cases d:k=0
  .subst d;simp at hlen;subst hlen;exact hk .nils H (Own.nil H e size) (Fr.refl H) λ b hb=>.inl hb
  .have i:JW k 0=false:=FM d;simp only[cO,i,zp,yf]at c⊢;simp only[c,f,z7,xu,dC,ue];refine hk _ _ ⟨by simpa using hlen,.inr ⟨H.au,by simp,by rw[xz];omega,?_⟩⟩ ((Fr.refl H).alloc _) λ b hb=>.inr (by rw[hb.2];exact qm _);rw[ar.bN,xg rfl];simp
 .simp only[Ax,jc]at hl;subst hl
  by_cases d:k=0
  .subst d;simp at hlen;subst hlen;simp only[cO,vx,ye (qm 0),xu,e1,ue];exact hk _ H ⟨by simp,.inl ⟨rfl,.inr ⟨b,rfl,hb⟩⟩⟩ (Fr.refl H) λ b hb=>.inl hb
  .have i:JW k 0=false:=FM d;have j:Oh k 0=false:=by cases o:Oh k 0 with|false=>rfl|true=>rw[uh]at o;omega
   have t:firstCells H size 0 (.slice b 0 0 0)=B1 []:=rfl;simp only[cO,yf,j,zp]at c⊢;simp only[c,ye (xx k),f,z7,xu,t,qr,pO,jp,dC,ue];refine hk _ _ ⟨by simpa using hlen,.inr ⟨H.au,by simp,by rw[xz];omega,?_⟩⟩ ((Fr.refl H).alloc _) λ b hb=>.inr (by rw[hb.2];exact qm _);rw[ar.bN,xg rfl];simp
 .by_cases d:k=0
  .subst d;simp at hlen;subst hlen;simp only[cO,JW,xu,yf,ye (qm n),ue];refine hk _ _ ⟨by simpa using hl,.inr ⟨b,rfl,s,by simpa using r⟩⟩ (Fr.refl H) λ b hb=>.inl hb
  .have i:JW k 0=false:=FM d;have j:Oh (0+n+k) n=false:=by cases o:Oh (0+n+k) n with|false=>rfl|true=>rw[uh]at o;omega
   simp only[cO,i,zp,e1,yf,ye (qm n),f,z7,xu]at j⊢;simp only[j,zp,c,xu,r,e1,z7,JW,ye (xx (n*size)),dC,ue];refine hk _ _ ⟨by simp[hl,hlen,y9],.inr ⟨H.au,by simp[HH],by rw[xz,HH];omega,?_⟩⟩ (((Fr.refl H).kill (.inl ⟨by simp,rfl⟩)).alloc _) λ b hb=>.inr (by rw[hb.2];exact qm _);rw[ar.bN,HH,xg rfl,pO]
def VV(e n:Nat)(zero:List AV)(v:AV)(d:zero.length=n)(c:v.cells.length=n):Op.buildSlice e 1 zero [(0,n)] [v]=B1 (.row v.cells e (0,0) B4,Op.sliceTo 1 1):=by
 have e1:∀n,JW n n=true:=λ n=>by simp
 simp only[Op.buildSlice,fM,pO,zn,jH,IY,c,e1,xu,AZ,yf,d,xg (qm n),y8,jp,qr];rw[ju (by omega)];simp
def Ej{H:ar}{size e:Nat}{cells:List AV}(c:cells.length=size):Sl (H.alloc (.row cells e (0,0) B4)) size (Op.sliceTo 1 1 H.au) 1 cells:=by
 refine⟨by simp[c],rfl,qm 1,.inr ⟨by rw[xz];omega,cells,xe (by rw[ar.bN,xg rfl]),?_⟩⟩;rw[tR,xg (by simp[c])];simp[<-c]
def IC{H:ar}{e size bytes:Nat}{v:AV}{n:Nat}{cells:List AV}(h:Own H e size v n cells){zero:List AV}{x:AV}(t:zero.length=size)(l:x.cells.length=size)(d:aN x.cells=B4)(hs:0<size)
 (s:(n+1)*bytes<=140737488355328) (i:n+1<=140737488355328) {K:bE->(Nat->AV)->Bool->AV->ar->Prop} {m:Bool}
 (hk:∀f H',Own H' e size f (n+1) (cells++x.cells)->Fr (aM v) H H'->(∀b,aM f b->aM v b\/H.au<=b)->K (.row x.cells e (0,0) B4) (Op.sliceTo 1 1) aI f H') :
 ue m (Op.buildSlice e 1 zero [(0,size)] [x]) λ g o mk=>ue g (Op.append e size bytes [v,mk H.au] (H.alloc o)) (K o mk):=by
 rw[VV e size zero x t l];have c:Fr Em H (H.alloc (.row x.cells e (0,0) B4)):=(Fr.refl H).alloc _;refine ue.intro rfl ?_;refine _b (m:=aI) (h.em c) (Ej l) d hs s i λ f H' p j r=>hk f H' p ?_ λ b hb=>?_
 .exact ⟨x9 c.au j.au,λ b hb hw=>by rw[j.ah b (qn hb c.au) hw,c.ah b hb (λ q=>q)]⟩
 .exact (r b hb).imp id λ q=>x9 c.au q
theorem Nh.intro{W:St->cN->Prop}{ah:Option (List Nat)}{st:St}{Q:cN}(I:Nat->St->Prop)(n:Nat)(d:I n st)
 (h:∀n st,I n st->W (lE ah st) λ e c=>match e with
  | .normal=>∃m,m<n/\I m c
  |e=>Q e c):Nh W ah st Q:=⟨I,⟨n,d⟩,h⟩
end Go.Am
namespace Go.Am
def HV(H:ar)(tm:T AV)(t:Nat)(rs:List d9):ep H tm (.tmp t::rs)=(tm.get t).bind λ v=>(ep H tm rs).bind λ vs=>B1 (v::vs):=rfl
def xnq(H:ar)(tm:T AV)(t:Nat)(rs:List d9):ep H tm (.kY t::rs)=(((tm.get t).bind λ v=>Op.ae [v] H)).bind λ v=>(ep H tm rs).bind λ vs=>B1 (v::vs):=by
 simp only[ep,Nt];congr 1;cases tm.get t with
 |none=>rfl
 |some v=>cases v<;>rfl
def xnr(H:ar)(tm:T AV)(n t:Nat)(rs:List d9):ep H tm (.cV n t::rs)=(((tm.get t).bind λ v=>Op.aq n [v] H)).bind λ v=>(ep H tm rs).bind λ vs=>B1 (v::vs):=by
 simp only[ep,Nt];congr 1;cases tm.get t with
 |none=>rfl
 |some v=>cases v<;>rfl
def Yp(v:AV):jB [v]=v:=rfl
def ZP:jB []=.tuple []:=rfl
def WI(a b:AV)(l:List AV):jB (a::b::l)=.tuple (a::b::l):=rfl
def Pc(b:Nat):Op.ptrTo b=.ptr b 0:=rfl
def Zp(t:aR)(x y:AV)(H:ar)(q:Bool)(h:aY t x y=B1 q):Op.eq (.agg t) B4 [x,y] H=B1 (.bool (!q)):=by simp[Op.eq,Kn,h]
def tg(t:aR)(x y:AV)(H:ar)(q:Bool)(h:aY t x y=B1 q):Op.eq (.agg t) B2 [x,y] H=B1 (.bool q):=by simp[Op.eq,Kn,h]
structure fh where
 kind:Int
 time:Int
 core:Int
 block:Int
 ab6:Int
 lane:Int
 addr:Int
 value:Int
 code:Int
deriving DecidableEq
def fh.enc(x:fh):List AV:=[.int .i64 x.kind,.int .i64 x.time,.int .i64 x.core,.int .i64 x.block,.int .i64 x.ab6,.int .i64 x.lane,.int .i64 x.addr,.int .u64 x.value,.int .i64 x.code]
def fh.len(x:fh):x.enc.length=9:=rfl
def T1(a b:Int):u6 a b=decide (a=b):=by rw[BV];rfl
end Go.Am
namespace Go.Am
theorem T.tZ{α:Type}(v c:Option α):∀(p:List Bool)(t:T α),T.fU v p (T.fU c p t)=T.fU v p t
 |[],t=>rfl
 |b::p,t=>by cases b<;>simp[T.fU,T.l,T.r,T.val,T.tZ v c p]
def Mf(H:ar)(o o':bE):(H.alloc o).set H.au o'=H.alloc o':=by
 grind [ar.alloc,ar.set,T.set,T.put,T.tZ]
def xq(H:ar)(o:bE):(H.alloc o).get H.au=B1 o:=by rw[ar.bN,xg rfl]
def cq(H:ar)(o:bE):∃Z,Z=H.alloc o/\Fr Em H Z/\Z.au=H.au+1/\Z.get H.au=B1 o:=⟨_,rfl,(Fr.refl H).alloc _,xz ..,xq ..⟩
def zV{H:ar}{b:Nat}(h:b<H.au)(o:bE):(H.alloc o).get b=H.get b:=by rw[ar.bN,qy (by omega)]
theorem xf(H:ar)(b:Nat)(o:bE):(H.set b o).get b=B1 o:=by rw[ar.aJ,xg rfl]
def kz{H:ar}{b c:Nat}(h:b≠c)(o:bE):(H.set b o).get c=H.get c:=by rw[ar.aJ,qy h]
def wK{H:ar}{b:Nat}{c:List AV}{e:Nat}(h:H.get b=B1 (.row c e (0,0) B4)){o n:Nat}{v:AV}(f:v.cells.length=n)(hn:o+n<=c.length)(d:aN v.cells=B4) :
 Op.store n [.ptr b o,v] H=B1 (.undef,H.set b (.row (c.take o++v.cells++c.drop (o+n)) e (0,0) B4)):=by
 have e1:∀n,JW n n=true:=λ n=>by simp
 simp only[Op.store,IY,f,e1,xu,ar.store,d,h];have:dE (0,0) o n=true:=by simp[dE]
 simp_all[AZ]
def j_{H:ar}{b m s:Nat}{c:List AV}{e:Nat}(h:H.get b=B1 (.grown m s c e (0,0))){o n:Nat}{v:AV}(f:v.cells.length=n)(hn:o+n<=c.length)(d:aN v.cells=B4) :
 Op.store n [.ptr b o,v] H=B1 (.undef,H.set b (.grown m s (c.take o++v.cells++c.drop (o+n)) e (0,0))):=by
 have e1:∀n,JW n n=true:=λ n=>by simp
 simp only[Op.store,IY,f,e1,xu,ar.store,d,h];have:dE (0,0) o n=true:=by simp[dE]
 simp_all[AZ]
def xde(H:ar)(c:List AV)(e:Nat)(fz:Nat×Nat)(ow:Bool)(n:Nat)(hn:c.length=n):Op.aq n [.ptr H.au 0] (H.alloc (.row c e fz ow))=B1 (.agg c):=by
 rw[se (xe (xq H _)) (by omega)];simp[<-hn]
def aT{α:Type}(enc:α->List AV)(e size:Nat)(H:ar)(v:AV)(xs:List α):Prop:=Own H e size v xs.length (xs.flatMap enc)
structure A7{α:Type}(enc:α->List AV)(e size:Nat)(H0 H:ar)(v:AV)(xs:List α):Prop where
 own:aT enc e size H v xs
 fr:Fr Em H0 H
 fresh:∀b,aM v b->H0.au<=b
section
variable{α:Type}{enc:α->List AV}{e size:Nat}{H0 H H':ar}{v:AV}{xs:List α}
def bR.one(h:bR enc size H v xs):aB v=true:=Sl.one h
def A7.nil(H:ar):A7 enc e size H H .nils ([]:List α):=⟨Own.nil H e size,Fr.refl H,λ b h=>(h.1 rfl).elim⟩
def A7.sl(h:A7 enc e size H0 H v xs):bR enc size H v xs:=Own.sl h.own
def aT.sl(h:aT enc e size H v xs):bR enc size H v xs:=Own.sl h
def A7.em(h:A7 enc e size H0 H v xs)(f:Fr Em H H'):A7 enc e size H0 H' v xs:=⟨Own.em h.own f,h.fr.em f,h.fresh⟩
def A7.len(h:A7 enc e size H0 H v xs):Op.cD [v]=B1 (.int .i64 xs.length):=h.sl.len
def A7.step(h:A7 enc e size H0 H v xs){c:AV}{ys:List α}(d:aT enc e size H' c ys)(f:Fr (aM v) H H')(g:∀b,aM c b->aM v b\/H.au<=b):A7 enc e size H0 H' c ys :=
 ⟨d,h.fr.trans f λ x i=>.inr (h.fresh x i),λ b hb=>(g b hb).elim (h.fresh b) λ q=>x9 h.fr.au q⟩
def SM{f:α->List AV}(hs:∀x,(f x).length=size):∀(xs:List α){i:Nat}{x:α},xs[i]? = B1 x -> ∀(y:α),(xs.set i y).flatMap f=(xs.flatMap f).take (i*size)++f y++(xs.flatMap f).drop (i*size+size)
 |[],i,x,h,y=>by grind
 |z::zs,0,x,h,y=>by
  grind
 |z::zs,i+1,x,h,y=>by
  simp only[jb]at h;have e1:(f z++zs.flatMap f).take ((i+1)*size)=f z++(zs.flatMap f).take (i*size):=by
   grind [vy]
  have e2:(f z++zs.flatMap f).drop ((i+1)*size+size)=(zs.flatMap f).drop (i*size+size):=by
   rw[show(i+1)*size+size=(f z).length+(i*size+size)from by rw[hs,vy];omega,wh]
  rw[List.set_cons_succ,j6,j6,SM hs zs h y,e1,e2]
  grind
theorem It(hs:∀x,(enc x).length=size)(l:List α):(l.flatMap enc).length=l.length*size:=by
 induction l with
 |nil=>simp
 |cons a l ih=>grind
def xnz{L E:List AV}{c j:Nat}{u:AV}(d:E.length=size)(f:j<size)(hk:c+size<=L.length)(h:∀r,r<size->L[c+r]? = E[r]?) :
 L.take c++E.set j u++L.drop (c+size)=L.set (c+j) u:=by
 refine yo λ k=>?_
 grind
def aT.An(hs:∀x,(enc x).length=size)(h:aT enc e size H v xs){i:Nat}{x y:α}(d:xs[i]? = B1 x){j:Nat}(p:j<size){u:AV}(hu:aB u=B4)(q:enc y=(enc x).set j u) :
 ∃H',Op.store 1 [.ptr (aF v) (cZ size v i+j),u] H=B1 (.undef,H')/\aT enc e size H' v (xs.set i y)/\Fr (aM v) H H':=by
 obtain⟨hl,h|⟨b,rfl,f,g⟩⟩:=h
 .grind
 .have m:=LV d;have hb:(i+1)*size<=xs.length*size:=yd _ m;rw[vy]at hb;have l:u.cells=[u]:=by cases u<;>first|rfl|cases hu
  have c:=j_ g (o:=i*size+j) (n:=1) (v:=u) (by grind) (by omega) (by grind [vh]);have ho:cZ size (AV.gslice b 0 xs.length size 0 xs.length) i=i*size:=by simp[cZ]
  rw[ho];refine⟨_,c,⟨?_,.inr ⟨b,?_,f,?_⟩⟩,(Fr.refl H).set (.inl ⟨by simp,rfl⟩) _⟩
  .grind [It]
  .grind
  .rw [xw,xf,SM hs xs d,q,l,xnz (L:=xs.flatMap enc) (E:=enc x) (hs x) p (by omega) (λ r hr=>Jl hs xs d hr),List.set_eq_take_append_cons_drop,xg (by omega)];simp
end
abbrev OR(c:List AV)(e:Nat):bE:=.row c e (0,0) B4
end Go.Am
namespace Go.Am
def tH{k mx d:Nat}{z:Int}(c:z=k)(h:k<=mx)(kk:PJ):bound (B1 (.int kk z)) d mx=B1 k:=by
 subst c;show cond (Oh k mx) (B1 k) B5=B1 k;rw[ye h];rfl
def Sl.from{H:ar}{size:Nat}{v:AV}{n:Nat}{cells:List AV}(h:Sl H size v n cells){k:Nat}(hk:k<=n){z:Int}(j:z=k)(kk:PJ) :
 ∃l,Op.aA size [B1 0,B5,B5] [v,.int kk z]=B1 l/\Sl H size l (n-k) (cells.drop (k*size))/\(l=.nils\/aF l=aF v):=by
 obtain⟨hl,h⟩:=h;have hlen:(cells.drop (k*size)).length=(n-k)*size:=by grind [Nat.sub_mul]
 have x:k*size<=n*size:=yd _ hk;have u:(n-k)*size=n*size-k*size:=Nat.sub_mul n k size;split at h
 .subst h;have:k=0:=by omega
  subst this;refine⟨.nils,?_,⟨hlen,rfl⟩,.inl rfl⟩;have g:bound B5 0 0=B1 0:=rfl;simp[Op.aA,arg,jP,df,g,tH j (qm 0)]
 .rename_i b o m c;obtain⟨rfl,C,h⟩:=h;have f:∀d m,bound B5 d m=B1 d:=λ _ _=>rfl;refine⟨.slice b (cond (JW c k) o (o+k*size)) (m-k) (c-k),by simp[Op.aA,arg,jP,df,f,tH j hk],⟨hlen,rfl,by omega,?_⟩,.inr rfl⟩;rcases h with h|⟨hb,all,p,r⟩
  .omega
  .by_cases he:c=k
   .omega
   .right;obtain⟨w,rfl⟩:=Oz r;refine⟨hb,all,p,?_⟩;rw[FM he,zp,tR,xg (by omega),List.drop_take,FN]
    grind
 .rename_i b i m s alt q;obtain⟨rfl,rfl,hm,h⟩:=h;have e1:∀n,JW n n=true:=λ n=>by simp
  have f:∀d m,bound B5 d m=B1 d:=λ _ _=>rfl;have y:=ye (show q<=m-i by omega);have t:=ye (show i<=m by omega);refine⟨.gslice b (i+k) m s (cond (JW k 0) alt (i*s)) (q-k),by simp only[Op.aA,arg,jP,zo,qr,df,f,tH j hk,e1,t,y,z7,xu],⟨hlen,rfl,rfl,by omega,?_⟩,.inr rfl⟩;rcases h with h|⟨hb,all,p,r⟩
  .omega
  .right;obtain⟨w,rfl⟩:=Oz r;refine⟨hb,all,p,?_⟩;rw[tR,xg (by rw[y9];omega),List.drop_take,FN,y9]
   grind
 .rename_i b;obtain⟨rfl,hb⟩:=h;have:k=0:=by omega
  subst this;have g:bound B5 0 0=B1 0:=rfl;refine⟨.eslice b,?_,⟨hlen,rfl,hb⟩,.inr rfl⟩;simp[Op.aA,arg,jP,df,g,tH j (qm 0)]
 grind
def Sl.upto{H:ar}{size:Nat}{v:AV}{n:Nat}{cells:List AV}(h:Sl H size v n cells){k:Nat}(hk:k<=n){z:Int}(l:z=k)(kk:PJ) :
 ∃p,Op.aA size [B5,B1 0,B5] [v,.int kk z]=B1 p/\Sl H size p k (cells.take (k*size))/\(p=.nils\/aF p=aF v):=by
 obtain⟨hl,h⟩:=h;have j:k*size<=n*size:=yd _ hk;have hlen:(cells.take (k*size)).length=k*size:=by grind
 split at h
 .subst h;have:k=0:=by omega
  subst this;refine⟨.nils,?_,⟨hlen,rfl⟩,.inl rfl⟩;have g:bound B5 0 0=B1 0:=rfl;simp[Op.aA,arg,jP,df,g,tH l (qm 0)]
 .rename_i b o m c;obtain⟨rfl,C,h⟩:=h;have u:∀h,bound B5 0 h=B1 0:=λ h=>rfl;have f:∀d m,bound B5 d m=B1 d:=λ _ _=>rfl;refine⟨.slice b (cond (JW c 0) o (o+0*size)) (k-0) (c-0),by simp only[Op.aA,arg,jP,zo,qr,df,tH l (show k<=c by omega),u,f],⟨hlen,by omega,by omega,?_⟩,.inr rfl⟩;rcases h with h|⟨hb,all,r,t⟩
  .omega
  .right;obtain⟨x,rfl⟩:=Oz t;refine⟨hb,all,r,?_⟩;have:cond (JW c 0) o (o+0*size)=o:=by grind
   rw[this,tR,xg (by omega),List.take_take,Nat.min_eq_left j]
 .rename_i b i m s alt q;obtain⟨rfl,rfl,hm,h⟩:=h;have e1:∀n,JW n n=true:=λ n=>by simp
  have f:∀d m,bound B5 d m=B1 d:=λ _ _=>rfl;have y:=ye (show k<=m-i by omega);have w:=ye (show i<=m by omega);refine⟨.gslice b (i+0) m s (cond (JW 0 0) alt (i*s)) (k-0),by simp only[Op.aA,arg,jP,zo,qr,df,f,tH l (show k<=m-i by omega),e1,w,y,z7,xu],⟨hlen,by omega,rfl,by omega,?_⟩,.inr rfl⟩;rcases h with h|⟨hb,all,r,t⟩
  .omega
  .right;obtain⟨x,rfl⟩:=Oz t;refine⟨hb,all,r,?_⟩;rw[vx,tR,xg (by omega),List.take_take,Nat.min_eq_left j]
 .rename_i b;obtain⟨rfl,hb⟩:=h;have:k=0:=by omega
  subst this;have g:bound B5 0 0=B1 0:=rfl;refine⟨.eslice b,?_,⟨hlen,rfl,hb⟩,.inr rfl⟩;simp[Op.aA,arg,jP,df,g,tH l (qm 0)]
 grind
section
variable{α:Type}{enc:α->List AV}{size:Nat}{H H':ar}{v:AV}{xs:List α}
theorem qzs(hs:∀x,(enc x).length=size):∀(xs:List α)(k:Nat),(xs.flatMap enc).drop (k*size)=(xs.drop k).flatMap enc
 |[],k=>by simp
 |x::xs,0=>by simp
 |x::xs,k+1=>by
  rw[j6,show(k+1)*size=(enc x).length+k*size from by rw[hs,vy];omega,wh,qzs hs xs k];rfl
theorem i_(hs:∀x,(enc x).length=size):∀(xs:List α)(k:Nat),(xs.flatMap enc).take (k*size)=(xs.take k).flatMap enc
 |[],k=>by simp
 |x::xs,0=>by simp
 |x::xs,k+1=>by
  rw[j6,show(k+1)*size=(enc x).length+k*size from by rw[hs,vy];omega,List.take_length_add_append,i_ hs xs k];rfl
def bR.from(hs:∀x,(enc x).length=size)(h:bR enc size H v xs){k:Nat}(hk:k<=xs.length){z:Int}(d:z=k)(kk:PJ) :
 ∃c,Op.aA size [B1 0,B5,B5] [v,.int kk z]=B1 c/\bR enc size H c (xs.drop k)/\(c=.nils\/aF c=aF v):=by
 obtain⟨c,f,g,i⟩:=Sl.from h hk d kk
 grind [bR,qzs]
def bR.upto(hs:∀x,(enc x).length=size)(h:bR enc size H v xs){k:Nat}(hk:k<=xs.length){z:Int}(d:z=k)(kk:PJ) :
 ∃c,Op.aA size [B5,B1 0,B5] [v,.int kk z]=B1 c/\bR enc size H c (xs.take k)/\(c=.nils\/aF c=aF v):=by
 obtain⟨c,f,g,i⟩:=Sl.upto h hk d kk
 grind [bR,i_]
def gW(enc:α->List AV)(e size:Nat)(H:ar)(v:AV)(xs:List α):Prop:=∃b,v=.slice b 0 xs.length xs.length/\b<H.au/\H.get b=B1 (.row (xs.flatMap enc) e (0,0) B4)
def gW.sl{e:Nat}(hs:∀x,(enc x).length=size)(h:gW enc e size H v xs):bR enc size H v xs:=by
 obtain⟨b,rfl,c,d⟩:=h;refine⟨It hs xs,rfl,qm _,.inr ⟨c,_,xe d,?_⟩⟩;rw[tR,xg (by grind [It]),yx,zi (by grind [It])]
def gW.fr{e:Nat}{W:Nat->Prop}(h:gW enc e size H v xs)(f:Fr W H H')(hw:¬W (aF v)):gW enc e size H' v xs:=by
 obtain⟨b,rfl,c,d⟩:=h;exact⟨b,rfl,qn c f.au,by rw[f.ah b c hw];exact d⟩
def gW.lt{e:Nat}(h:gW enc e size H v xs):aF v<H.au:=by
 obtain⟨b,rfl,c,d⟩:=h;exact c
def gW.An{e:Nat}(hs:∀x,(enc x).length=size)(h:gW enc e size H v xs){i:Nat}{x y:α}(d:xs[i]? = B1 x){j:Nat}(p:j<size){u:AV}(hu:aB u=B4)(q:enc y=(enc x).set j u) :
 ∃H',Op.store 1 [.ptr (aF v) (cZ size v i+j),u] H=B1 (.undef,H')/\gW enc e size H' v (xs.set i y)/\Fr (On (aF v)) H H':=by
 obtain⟨b,rfl,f,g⟩:=h;have m:=LV d;have hl:=It hs xs;have hb:(i+1)*size<=xs.length*size:=yd _ m;rw[vy]at hb;have l:u.cells=[u]:=by cases u<;>first|rfl|cases hu
 have c:=wK g (o:=i*size+j) (n:=1) (v:=u) (by grind) (by omega) (by grind [vh]);have ho:cZ size (AV.slice b 0 xs.length xs.length) i=i*size:=by simp[cZ]
 rw[ho];refine⟨_,c,⟨b,?_,f,?_⟩,(Fr.refl H).set (W:=On b) (.inl rfl) _⟩
 .grind
 .rw [xf,SM hs xs d,q,l,xnz (L:=xs.flatMap enc) (E:=enc x) (hs x) p (by omega) (λ r hr=>Jl hs xs d hr),List.set_eq_take_append_cons_drop,xg (by omega)];simp
end
def Xh(e bytes:Nat)(z:List AV)(n:Nat)(k k':PJ)(h:n*bytes<=140737488355328)(c:n<=140737488355328) :
 Op.mkSlice e bytes z [.int k n,.int k' n]=B1 (.row (fM n z) e (0,0) B4,Op.sliceTo n n):=by
 grind [OK,Op.mkSlice]
end Go.Am
namespace Go.Am
def xgx{tm:T AV}{x:bL}{K K':AV->Prop}(h:FF tm x K)(hk:∀v,K v->K' v):FF tm x K':=by
 have⟨v,d,f⟩:=h.elim;cases x with
 |tmp t=>grind [rY,FF,bQ]
 |const c=>cases d;exact hk _ f
 |eL c=>cases d;exact hk _ f
 |func c=>cases d;exact hk _ f
def JG{tm:T AV}:∀{l:List bL}{K K':List AV->Prop},qK tm l K->(∀v,K v->K' v)->qK tm l K'
 |[],K,K',h,hk=>hk _ h
 | .tmp t::xs,K,K',h,hk=>by
  simp only[qK]at h⊢;unfold bQ at h⊢;split at h
  .exact JG h λ vs=>hk _
  omega
 | .const v::xs,K,K',h,hk=>JG (l:=xs) h λ vs=>hk _
 | .eL v::xs,K,K',h,hk=>JG (l:=xs) h λ vs=>hk _
 | .func v::xs,K,K',h,hk=>JG (l:=xs) h λ vs=>hk _
theorem FT{α:Type}{m:Bool}{o:Option α}{K K':α->Prop}(h:bQ m o K)(hk:∀a,K a->K' a):bQ m o K':=by
 cases o with
 |none=>exact h
 |some a=>exact hk a h
theorem q8g{α β:Type}{m:Bool}{o:Option (α×β)}{K K':α -> β->Prop}(h:iX m o K)(hk:∀a b,K a b->K' a b):iX m o K':=by
 cases o with
 |none=>exact h
 |some a=>exact hk a.1 a.2 h
section
variable{AP:ak}
theorem WQ{m:Bool}{f:mF}{vs:List AV}{H:ar}{K K':AV->ar->Prop}{E d:aG->ar->Prop}(h:oJ AP m f vs H K E)(hk:∀v H,K v H->K' v H)(he:∀c H,E c H->d c H):oJ AP m f vs H K' d:=by
 have⟨e,H',i,g⟩:=h;refine⟨e,H',i,?_⟩;cases e with
 |ret v=>exact hk _ _ g
 |panic c=>exact he _ _ g
theorem Tb{d:Option (List Nat)}{tm:T AV}{aZ:List aK}{up:Option aG}{Q Q':cN}(f:∀e st,Q e st->Q' e st)(c:aG)(H:ar)(h:AY d tm aZ up Q c H):AY d tm aZ up Q' c H:=by
 cases d with
 |none=>exact h
 |some ds=>exact f _ _ h
def mm{ctx:Ctx}{dst:Option Nat}{c:Option (List Nat)}{st:St}{Q Q':cN}{K K':St->Prop}{vs:List AV}{op:fN}(h:qC AP ctx dst c st Q K vs op)(d:∀e st,Q e st->Q' e st)(hk:∀st,K st->K' st):qC AP ctx dst c st Q' K' vs op:=by
 cases op with
 |pure f=>exact FT (m:=aI) h λ _=>hk _
 |read f=>exact FT (m:=aI) h λ _=>hk _
 |alloc f=>grind [qC,q8g]
 |gU f=>grind [qC,q8g]
 |iq f=>exact WQ (m:=aI) h (by grind) (Tb d)
 |ic =>
  simp only[qC,NV]at h⊢
  grind [WQ,Tb]
 |invoke n =>
  simp only[qC,Ok]at h⊢;split at h
  .grind [FT,WQ,Tb]
  omega
 |recover =>
  simp only[qC,zP]at h⊢
  grind
 |defer =>
  simp only[qC,GK]at h⊢
  grind
 |panic =>
  simp only[qC,gE]at h⊢
  grind [Tb]
def I_{ctx:Ctx}{s:aP}{st:St}{Q Q':cN}{K K':St->Prop}(h:rj AP ctx s st Q K)(c:∀e st,Q e st->Q' e st)(hk:∀st,K st->K' st):rj AP ctx s st Q' K':=by
 have⟨iv,dst,guard,args,op,d⟩:=s;cases iv with
 |false =>
  cases guard with
  |none=>exact JG h λ _ q=>mm q c hk
  |some g =>
   refine FT (m:=aI) h λ w q=>?_;cases w with
   |true=>exact JG (K:=_) q λ _ q=>mm q c hk
   |false=>exact hk _ q
 |true =>
  cases guard with
  |none=>exact JG h λ _ q=>(by grind)
  |some g =>
   refine FT (m:=aI) h λ w q=>?_;cases w with
   |true=>exact JG (K:=_) q λ _ q=>(by grind)
   |false=>exact⟨q.1,hk _ q.2⟩
def yc{ctx:Ctx}:∀{l:List aP}{st:St}{Q Q':cN},oP AP ctx l st Q->(∀e st,Q e st->Q' e st)->oP AP ctx l st Q'
 |[],st,Q,Q',h,hq=>hq _ _ h
 |s::rest,st,Q,Q',h,hq=>I_ h hq λ d c=>yc c hq
theorem Ps{ctx:Ctx}{st:St}{k:Nat}{H0:ar}{aZ:List aK}{d:Nat}{Q Q':cN}{v:AV}(h:mU AP ctx st k H0 aZ d Q v)(i:∀e st,Q e st->Q' e st):mU AP ctx st k H0 aZ d Q' v:=by
 unfold mU at h⊢;split at h
 .have ⟨e,H',j,g⟩:=h;refine⟨e,H',j,?_⟩;cases e with
  |panic c=>exact i _ _ g
  |ret v=>have⟨s,p,f,k,tm,d,l,m,o⟩:=g;exact⟨s,p,f,k,tm,d,l,m,i _ _ o⟩
 omega
def qF{ctx:Ctx}:∀{c:ai}{st:St}{Q Q':cN},WP AP ctx c st Q->(∀e st,Q e st->Q' e st)->WP AP ctx c st Q'
 | .skip,st,Q,Q',h,hq=>hq _ _ h
 | .label _,st,Q,Q',h,hq=>hq _ _ h
 | .exit _,st,Q,Q',h,hq=>hq _ _ h
 | .goto _,st,Q,Q',h,hq=>hq _ _ h
 | .ret,st,Q,Q',h,hq=>hq _ _ h
 | .stuck,st,Q,Q',h,hq=>h.elim
 | .region l,st,Q,Q',h,hq=>yc h hq
 | .seq a b,st,Q,Q',h,hq=>qF (c:=a) h λ e g d=>by
  cases e with
  |normal=>exact qF (c:=b) d hq
  |exit _=>exact hq _ _ d
  |goto _=>exact hq _ _ d
  |ret=>exact hq _ _ d
  |panic _=>exact hq _ _ d
 | .cond c a b,st,Q,Q',h,hq=>xgx h λ v q=>FT (m:=aI) q λ w q=>by
  cases w with
  |true=>exact qF (c:=a) q hq
  |false=>exact qF (c:=b) q hq
 | .block id b,st,Q,Q',h,hq=>qF (c:=b) h λ e g d=>by cases e<;>exact hq _ _ d
 | .scope b,st,Q,Q',h,hq=>qF (c:=b) h λ e g d=>by
  cases e with
  |goto l=>exact⟨d.1,hq _ _ d.2⟩
  |normal=>exact hq _ _ d
  |exit _=>exact hq _ _ d
  |ret=>exact hq _ _ d
  |panic _=>exact hq _ _ d
 | .loop ah b,st,Q,Q',⟨I,h0,h⟩,hq=>⟨I,h0,λ n st i=>qF (c:=b) (h n st i) λ e g d=>by grind⟩
 | .rangeFunc f k,st,Q,Q',h,hq=>xgx h λ v q=>by
  grind [JI,Ps,FT]
def gK:aW->Prop
 | .exit _=>True
 | .goto _=>True
 | .ret=>True
 |_=>False
end
end Go.Am
namespace Go.Am
noncomputable section
abbrev aE:=aW->Env->List aK->ar->Prop
def lk(E:Env)(t:Nat):Option AV:=B0 (motive:=λ _=>Option AV) B5 (λ p _ ih=>cond (JW p.1 t) (B1 p.2) ih) E
def D5(t:Nat):lk [] t=none:=rfl
def xG(k t:Nat)(v:AV)(E:Env):lk ((k,v)::E) t=if k=t then B1 v else lk E t:=by
 show cond (JW k t) (B1 v) (lk E t)=_;simp_all
def bH(t:Nat)(l:List Nat):Bool:=B0 (motive:=λ _=>Bool) B2 (λ x _ ih=>cond (JW x t) B4 ih) l
def fX(ks:List Nat)(E:Env)(tm:T AV):Prop:=∀t v,lk E t=B1 v->tm.get t=B1 v/\bH t ks=B4
def uE:Env->Env->Prop
 |[],_=>True
 |(k,v)::r,E=>lk E k=B1 v/\uE r E
def HF(E:Env):uE [] E=True:=rfl
def af5(k:Nat)(v:AV)(r E:Env):uE ((k,v)::r) E=(lk E k=B1 v/\uE r E):=rfl
def uE.look:∀{A E:Env},uE A E -> ∀{t:Nat}{v:AV},lk A t=B1 v->lk E t=B1 v
 |[],E,_,t,v,h=>by cases h
 |(k,w)::r,E,h,t,v,hl=>by
  rw[xG]at hl;split at hl
  .rename_i e;subst e;cases hl;exact h.1
  .exact uE.look h.2 hl
def uE.sub{ks:List Nat}{A E:Env}(h:uE A E){tm:T AV}(he:fX ks E tm):fX ks A tm:=λ t v hl=>he t v (h.look hl)
def SS(A E:Env):Prop:=∀t v,lk A t=B1 v->lk E t=B1 v
def uE.ss{A E:Env}(h:uE A E):SS A E:=λ t v hl=>h.look hl
def SS.sub{ks:List Nat}{A E:Env}(h:SS A E){tm:T AV}(he:fX ks E tm):fX ks A tm:=λ t v hl=>he t v (h t v hl)
def B3{α:Type}(m:Bool)(o:Option α)(K:Bool -> α->Prop):Prop:=match o with
 |some a=>K m a
 |none=>False
def jF{α β:Type}(m:Bool)(o:Option (α×β))(K:Bool -> α -> β->Prop):Prop:=match o with
 |some a=>K m a.1 a.2
 |none=>False
def nH(m:Bool)(v:AV)(A B:Bool->Prop):Prop:=match v with
 | .bool q=>match q with
  |true=>A m
  |false=>B m
 |_=>False
def xB(m:Bool)(q:Bool)(A B:Bool->Prop):Prop:=match q with
 |true=>A m
 |false=>B m
def ND(m:Bool)(o o':Option AV)(K:Bool->Prop):Prop:=(∃v,o=B1 v/\o'=B1 v)/\K m
def A3(m:Bool)(e:Nat)(z:List AV)(H:ar)(K:Bool->AV->ar->Prop):Prop:=K m (.ptr H.au 0) (H.alloc (.row z e (0,0) B4))
def JN{α:Type}(F:α->Prop)(K:α):Prop:=F K
def rO(m:Bool)(Q:aE)(e:aW)(E:Env)(D:List aK)(H:ar):Prop:=Q e E D H
def IV{α:Type}(a:α)(K:Bool -> α->Prop):B3 B4 (B1 a) K=K B4 a:=propext kr
def ad5{α β:Type}(a:α)(b:β)(K:Bool -> α -> β->Prop):jF B4 (B1 (a,b)) K=K B4 a b:=propext kr
def DW(A B:Bool->Prop):nH B4 (.bool B4) A B=A true:=propext kr
def xkv(A B:Bool->Prop):nH B4 (.bool B2) A B=B true:=propext kr
def ah0(A B:Bool->Prop):xB B4 B4 A B=A true:=propext kr
def xkw(A B:Bool->Prop):xB B4 B2 A B=B true:=propext kr
def ae0(v:AV)(K:Bool->Prop):ND B4 (B1 v) (B1 v) K=K true:=propext ⟨λ h=>h.2,λ h=>⟨⟨v,rfl,rfl⟩,h⟩⟩
def Pn(e:Nat)(z:List AV)(H:ar)(K:Bool->AV->ar->Prop):A3 B4 e z H K=K B4 (.ptr H.au 0) (H.alloc (.row z e (0,0) B4)):=propext kr
def J4{α:Type}(F:α->Prop)(K:α):JN F K=F K:=propext kr
def Et(Q:aE)(e:aW)(E:Env)(D:List aK)(H:ar):rO B4 Q e E D H=Q e E D H:=propext kr
@[congr]def ab4{α:Type}{F:α->Prop}{K:α}:JN F K=JN F K:=rfl
@[congr]def ac1{α:Type}{m c:Bool}{o o':Option α}{K:Bool -> α->Prop}(hm:m=c)(h:o=o'):B3 m o K=B3 c o' K:=by grind
@[congr]def aa8{α β:Type}{m c:Bool}{o o':Option (α×β)}{K:Bool -> α -> β->Prop}(hm:m=c)(h:o=o'):jF m o K=jF c o' K:=by grind
@[congr]def ab5{m c:Bool}{v d:AV}{A B:Bool->Prop}(hm:m=c)(h:v=d):nH m v A B=nH c d A B:=by grind
@[congr]def ab2{m c:Bool}{v d:Bool}{A B:Bool->Prop}(hm:m=c)(h:v=d):xB m v A B=xB c d A B:=by grind
@[congr]def ab1{m c:Bool}{o o' p p':Option AV}{K:Bool->Prop}(hm:m=c)(h:o=o')(d:p=p'):ND m o p K=ND c o' p' K:=by grind
@[congr]def ac2{m c:Bool}{e:Nat}{z d:List AV}{H H':ar}{K:Bool->AV->ar->Prop}(hm:m=c)(h:z=d)(f:H=H'):A3 m e z H K=A3 c e d H' K:=by grind
def B3.elim{α:Type}{m:Bool}{o:Option α}{K:Bool -> α->Prop}(h:B3 m o K):∃a,o=B1 a/\K m a:=by
 cases o with
 |none=>exact Nn h
 |some a=>exact⟨a,rfl,h⟩
def jF.elim{α β:Type}{m:Bool}{o:Option (α×β)}{K:Bool -> α -> β->Prop}(h:jF m o K):∃a b,o=B1 (a,b)/\K m a b:=by
 cases o with
 |none=>exact Nn h
 |some a=>exact⟨a.1,a.2,rfl,h⟩
def LK.elim{α:Type}{m:Bool}{o:Option α}{K:Bool -> α->Prop}(h:LK m o K):∃a,o=B1 a/\K m a:=by
 cases o with
 |none=>exact Nn h
 |some a=>exact⟨a,rfl,h⟩
theorem B3.intro{α:Type}{m:Bool}{o:Option α}{K:Bool -> α->Prop}{a:α}(h:o=B1 a)(hk:K m a):B3 m o K:=by subst h;exact hk
theorem jF.intro{α β:Type}{m:Bool}{o:Option (α×β)}{K:Bool -> α -> β->Prop}{a:α}{b:β}(h:o=B1 (a,b))(hk:K m a b):jF m o K:=by subst h;exact hk
def nH.cases{m:Bool}{q:Bool}{A B:Bool->Prop}(c:q=B4->A m)(d:q=B2->B m):nH m (.bool q) A B:=by
 cases q with
 |true=>exact c rfl
 |false=>exact d rfl
def xB.cases{m:Bool}{q:Bool}{A B:Bool->Prop}(c:q=B4->A m)(d:q=B2->B m):xB m q A B:=by
 cases q with
 |true=>exact c rfl
 |false=>exact d rfl
def nH.elim{m:Bool}{v:AV}{A B:Bool->Prop}(h:nH m v A B):∃q,v=.bool q/\(match q with|true=>A m|false=>B m):=by
 unfold nH at h
 grind
section
variable(M:ak)
structure Kp where
 ah:List Nat
 dg:Bool
 named:List Nat
def dL(K:List Nat)(E L:Env):Env:=B0 (motive:=λ _=>Env) E (λ p _ ih=>cond (bH p.1 K) (p::ih) ih) L
def sL(ds:List Nat)(E:Env):Env:=B0 (motive:=λ _=>Env) [] (λ p _ ih=>cond (bH p.1 ds) ih (p::ih)) E
def mj(L:Env):List Nat:=B0 (motive:=λ _=>List Nat) [] (λ p _ ih=>p.1::ih) L
abbrev KR:=Bool->Env->Env->ar->Prop
def TV(E L R:Env)(t:Nat)(g:Bool)(K:Bool->Env->AV->Prop):Prop :=
 R6 (motive:=λ _=>Prop) (R6 (motive:=λ _=>Prop) (LK g (lk E t) λ g v=>K g ((t,v)::R) v) (λ v=>K g R v) (lk R t)) (λ v=>K g R v) (lk L t)
def zQ(E L:Env)(l:List bL):Bool->Env->(Bool->Env->List AV->Prop)->Prop:=B0 (motive:=λ _=>Bool->Env->(Bool->Env->List AV->Prop)->Prop) (λ g R K=>K g R [])
 (λ x _ ih g R K=>bL.casesOn x (λ t=>TV E L R t g λ g R v=>ih g R λ g R vs=>K g R (v::vs)) (λ v=>ih g R λ g R vs=>K g R (v::vs)) (λ b=>ih g R λ g R vs=>K g R (.ptr b 0::vs)) (λ f=>ih g R λ g R vs=>K g R (.fn (.func f) [] []::vs))) l
def C3(m:Bool)(f:mF)(vs:List AV)(H:ar)(K:Bool->AV->ar->Prop):Prop:=∃v H',uR M f vs H (.ret v) H'/\K m v H'
def P3(m:Bool)(X:aG->ar->Prop)(f:mF)(vs:List AV)(H:ar)(K:Bool->AV->ar->Prop):Prop:=∃e H',uR M f vs H e H'/\match e with
 | .ret v=>K m v H'
 | .panic c=>X c H'
@[congr]def ac4{M:ak}{m d:Bool}{f f':mF}{vs c:List AV}{H H':ar}{K:Bool->AV->ar->Prop}(hm:m=d)(i:f=f')(h:vs=c)(g:H=H'):C3 M m f vs H K=C3 M d f' c H' K:=by grind
@[congr]def ac6{M:ak}{m d:Bool}{X:aG->ar->Prop}{f f':mF}{vs c:List AV}{H H':ar}{K:Bool->AV->ar->Prop}(hm:m=d)(i:f=f')(h:vs=c)(g:H=H'):P3 M m X f vs H K=P3 M d X f' c H' K:=by grind
def V3(m:Bool)(vs:List AV)(K:Bool->mF->List AV->Prop):Prop:=match vs with
 | .fn (.func g) first cap::args=>K m (.func g) (first++(args++cap))
 | .fn (.yield l) first []::args=>K m (.yield l) (first++args)
 |_=>False
@[congr]def ab9{m d:Bool}{vs c:List AV}{K:Bool->mF->List AV->Prop}(hm:m=d)(h:vs=c):V3 m vs K=V3 d c K:=by grind
def Iy(g:Nat)(first cap args:List AV)(K:Bool->mF->List AV->Prop):V3 B4 (.fn (.func g) first cap::args) K=K B4 (.func g) (first++(args++cap)):=propext kr
def Er(l:Nat)(first args:List AV)(K:Bool->mF->List AV->Prop):V3 B4 (.fn (.yield l) first []::args) K=K B4 (.yield l) (first++args):=propext kr
def N3(m:Bool)(name:String)(vs:List AV)(K:Bool->mF->List AV->Prop):Prop:=match vs with
 | .iface t v::args=>B3 m (M.kD t name) λ m g=>K m (.func g) (v::args)
 |_=>False
@[congr]def ac0{M:ak}{m d:Bool}{name:String}{vs c:List AV}{K:Bool->mF->List AV->Prop}(hm:m=d)(h:vs=c):N3 M m name vs K=N3 M d name c K:=by grind
def ag2(name:String)(t:Nat)(v:AV)(args:List AV)(K:Bool->mF->List AV->Prop):N3 M B4 name (.iface t v::args) K=B3 B4 (M.kD t name) λ m g=>K m (.func g) (v::args):=propext kr
def PX(ps:Option (List Nat))(ks:List Nat)(Q:aE)(E:Env)(D:List aK)(c:aG)(H:ar):Prop:=match ps with
 |some ds=>Q (.panic c) (sL ds (sL ks E)) D H
 |none=>False
def FY(dg:Bool)(ps:Option (List Nat))(L:Env)(Q:aE)(E:Env)(D:List aK)(g:Bool)(f:mF)(vs:List AV)(H:ar)(K:Bool->AV->ar->Prop):Prop :=
 cond dg (P3 M g (PX ps (mj L) Q E D) f vs H K) (C3 M g f vs H K)
def wD(dg:Bool)(dst:Option Nat)(ps:Option (List Nat))(Q:aE)(E:Env)(D:List aK)(L R:Env)(H:ar)(K:KR)(g:Bool)(vs:List AV):fN->Prop
 | .pure f=>B3 g (f vs) λ g v=>K g (lT dst v L) R H
 | .read f=>B3 g (f vs H) λ g v=>K g (lT dst v L) R H
 | .alloc f=>jF g (f vs) λ g o mk=>K g (lT dst (mk H.au) L) R (H.alloc o)
 | .gU f=>jF g (f vs H) λ g v H=>K g (lT dst v L) R H
 | .iq f=>FY M dg ps L Q E D g (.func f) vs H (λ g v H=>K g (lT dst v L) R H)
 | .ic=>V3 g vs λ g f vs=>FY M dg ps L Q E D g f vs H (λ g v H=>K g (lT dst v L) R H)
 | .invoke name=>N3 M g name vs λ g f vs=>FY M dg ps L Q E D g f vs H (λ g v H=>K g (lT dst v L) R H)
 | .panic=>cond dg (gE vs H (PX ps (mj L) Q E D)) False
 |_=>False
def Wa(L E:Env)(d:Nat):Option AV:=R6 (motive:=λ _=>Option AV) (lk E d) (λ v=>B1 v) (lk L d)
def Sx(dst:Option Nat)(E L R:Env)(H:ar)(K:KR)(g:Bool)(vs:List AV):fN->Prop
 | .read f=>match dst with
  |some d=>ND g (f vs H) (Wa L E d) λ g=>K g L R H
  |none=>False
 |_=>False
def G7(dg:Bool)(s:aP)(Q:aE)(E:Env)(D:List aK)(K:KR):KR:=λ g L R H =>
 zQ E L s.args g R λ g R vs=>match s.iv with
  |false=>wD M dg s.dst s.cK Q E D L R H K g vs s.op
  |true=>Sx s.dst E L R H K g vs s.op
def pV(dg:Bool)(Q:aE)(E:Env)(D:List aK)(K:KR)(l:List aP):KR:=B0 (motive:=λ _=>KR) K (λ s _ ih=>G7 M dg s Q E D ih) l
abbrev Gi:=Option (Nat×Bool)×List aP
def tq:Option (Nat×Bool)->Option (Nat×Bool)->Bool
 |none,B5=>B4
 |some (t,b),B1 (u,c)=>cond (JW t u) (cond b c (!c)) B2
 |_,_=>B2
def JB(l:List aP):List Gi:=B0 (motive:=λ _=>List Gi) [] (λ s _ ih=>List.casesOn (motive:=λ _=>List Gi) ih [(s.guard,[s])] λ g r=>cond (tq g.1 s.guard) ((g.1,s::g.2)::r) ((s.guard,[s])::g::r)) l
def PY(o:Option Nat)(t:Nat):Bool:=R6 (motive:=λ _=>Bool) B2 (λ d=>JW d t) o
def vU(t:Nat)(l:List aP):Bool:=B0 (motive:=λ _=>Bool) B4 (λ s _ ih=>cond (PY s.dst t) B2 (cond s.iv (cond s.dst.isSome ih B2) ih)) l
def CT(n:Nat):Type:=Nat.rec (motive:=λ _=>Type) (ar->Prop) (λ _ T=>AV->T) n
def rR(n:Nat):(List AV->ar->Prop)->CT n:=Nat.rec (motive:=λ n=>(List AV->ar->Prop)->CT n) (λ f=>f []) (λ _ ih f v=>ih λ l=>f (v::l)) n
def p5(n:Nat):CT n->List AV->ar->Prop:=Nat.rec (motive:=λ n=>CT n->List AV->ar->Prop) (λ k _=>k) (λ _ ih k l=>List.casesOn (motive:=λ _=>ar->Prop) l (λ _=>False) λ v l=>ih (k v) l) n
def bq(l:List aP):List Nat->List Nat:=B0 (motive:=λ _=>List Nat->List Nat) (λ acc=>acc) (λ s _ ih acc=>ih (cond s.iv acc (R6 (motive:=λ _=>List Nat) acc (λ d=>d::acc) s.dst))) l
def lI(ks:List Nat)(L:Env):List AV->Env:=B0 (motive:=λ _=>List AV->Env) (λ _=>L) (λ k _ ih l=>List.casesOn (motive:=λ _=>Env) l L λ v l=>(k,v)::ih l) ks
def rh(n:Nat):Env->List AV:=Nat.rec (motive:=λ _=>Env->List AV) (λ _=>[]) (λ _ ih L=>List.casesOn (motive:=λ _=>List AV) L [] λ p L=>p.2::ih L) n
def sE(n:Nat):List AV:=Nat.rec (motive:=λ _=>List AV) [] (λ _ ih=>.undef::ih) n
def Tv(dg:Bool)(Q:aE)(E:Env)(D:List aK)(x:Gi)(K:KR):KR:=λ g L R H=>match x.1 with
 |none=>pV M dg Q E D K x.2 g L R H
 |some q=>cond (vU q.1 x.2) (TV E L R q.1 g λ g R v=>JN (α:=Bool->CT (cQ (bq x.2 [])))
  (λ k=>B3 g (cT q.2 (B1 v)) λ g w=>xB g w (λ g=>pV M dg Q E D (λ g L _ H=>p5 (cQ (bq x.2 [])) (k g) (rh (cQ (bq x.2 [])) L) H) x.2 g L R H) (λ g=>p5 (cQ (bq x.2 [])) (k g) (sE (cQ (bq x.2 []))) H))
  (λ g=>rR (cQ (bq x.2 [])) λ vs H=>K g (lI (bq x.2 []) L vs) R H)) False
def zK(dg:Bool)(Q:aE)(E:Env)(D:List aK)(K:KR)(l:List Gi):KR:=B0 (motive:=λ _=>KR) K (λ x _ ih=>Tv M dg Q E D x ih) l
def rM(dg:Bool)(Q:aE)(E:Env)(D:List aK)(l:List aP)(g:Bool)(H:ar)(K:KR):Prop:=zK M dg Q E D K (JB l) g [] [] H
abbrev WX:=Bool->aE->Env->List aK->ar->Prop
def fm(X:WX)(Q:aE):aE:=λ e E D H=>match e with
 | .normal=>X B4 Q E D H
 |e=>Q e E D H
def eY(id:Nat)(Q:aE):aE:=λ e E D H=>match e with
 | .exit id'=>Q (cond (JW id id') .normal (.exit id')) E D H
 |e=>Q e E D H
def kJ(b:ai)(Q:aE):aE:=λ e E D H=>match e with
 | .goto l=>FU b l=B2/\Q (.goto l) E D H
 |e=>Q e E D H
abbrev Li:=Nat->Env->List aK->ar->Prop
def LP3(I:Li)(n:Nat)(Q:aE):aE:=λ e E D H=>match e with
 | .normal=>∃m E',I m E' D H/\SS E' E/\m<n
 |e=>Q e E D H
def cz(X:WX)(Q:aE)(E:Env)(D:List aK)(H:ar):Prop :=
 ∃I:Li,(∃n E0,I n E0 D H/\SS E0 E) /\ ∀n E D H,I n E D H->X B4 (LP3 I n Q) E D H
def iH(ks:List Nat)(ctx:Ctx)(k:Nat)(E:Env)(D:List aK)(H:ar)(Q:aE)(v:AV):Prop :=
 ∀tm up,fX ks E tm->JI M ctx k ⟨tm,D,up,H⟩ (λ e st=>st.up=up/\st.tm=tm/\Q e E st.aZ st.H) v
def OV(E:Env)(x:bL)(g:Bool)(K:Bool->AV->Prop):Prop:=match x with
 | .tmp t=>LK g (lk E t) K
 | .const v=>K g v
 | .eL b=>K g (.ptr b 0)
 | .func f=>K g (.fn (.func f) [] [])
def CV(E L R:Env)(x:bL)(g:Bool)(K:Bool->AV->Prop):Prop:=match x with
 | .tmp t=>TV E L R t g λ g _ v=>K g v
 | .const v=>K g v
 | .eL b=>K g (.ptr b 0)
 | .func f=>K g (.fn (.func f) [] [])
def W3(ctx:Ctx)(K:Kp):ai->Bool->aE->Env->List aK->ar->Prop
 | .skip,g,Q,E,D,H=>rO g Q .normal E D H
 | .label _,g,Q,E,D,H=>rO g Q .normal E D H
 | .exit id,g,Q,E,D,H=>rO g Q (.exit id) E D H
 | .goto l,g,Q,E,D,H=>rO g Q (.goto l) E D H
 | .ret,g,Q,E,D,H=>rO g Q .ret E D H
 | .stuck,_,_,_,_,_=>False
 | .region l,g,Q,E,D,H=>rM M K.dg Q E D l g H λ g L _ H=>rO g Q .normal (dL K.ah E L) D H
 | .seq a b,g,Q,E,D,H=>match a,b with
  | .region l,.cond c x y=>rM M K.dg Q E D l g H λ g L R H=>CV E L R c g λ g v=>nH g v (λ g=>W3 ctx K x g Q (dL K.ah E L) D H) (λ g=>W3 ctx K y g Q (dL K.ah E L) D H)
  | .region l,.seq (.cond c x y) r=>rM M K.dg Q E D l g H λ g L R H=>CV E L R c g λ g v=>nH g v (λ g=>W3 ctx K x g (fm (W3 ctx K r) Q) (dL K.ah E L) D H) (λ g=>W3 ctx K y g (fm (W3 ctx K r) Q) (dL K.ah E L) D H)
  | .region l,b=>rM M K.dg Q E D l g H λ g L _ H=>W3 ctx K b g Q (dL K.ah E L) D H
  |a,b=>W3 ctx K a g (fm (W3 ctx K b) Q) E D H
 | .cond c x y,g,Q,E,D,H=>OV E c g λ g v=>nH g v (λ g=>W3 ctx K x g Q E D H) (λ g=>W3 ctx K y g Q E D H)
 | .block id b,g,Q,E,D,H=>W3 ctx K b g (eY id Q) E D H
 | .scope b,g,Q,E,D,H=>W3 ctx K b g (kJ b Q) E D H
 | .loop (B1 _) _,_,_,_,_,_=>False
 | .loop B5 b,g,Q,E,D,H=>cz (W3 ctx K b) Q E D H
 | .rangeFunc f k,g,Q,E,D,H=>OV E f g λ g v=>iH M K.ah ctx k E D H Q v
end
structure mr(E L R:Env)(tm:T AV):Prop where
 l:∀t v,lk L t=B1 v->tm.get t=B1 v
 r:∀t v,lk L t=B5->lk R t=B1 v->tm.get t=B1 v
 e:∀t v,lk L t=B5->lk E t=B1 v->tm.get t=B1 v
def mr.first{ks:List Nat}{E:Env}{tm:T AV}(h:fX ks E tm):mr E [] [] tm:=⟨λ _ _ h=>(by cases h),λ _ _ _ h=>(by cases h),λ t v _ c=>(h t v c).1⟩
theorem mr.put{E L R:Env}{tm:T AV}(h:mr E L R tm)(dst:Option Nat)(v:AV):mr E (lT dst v L) R (eK dst v tm):=by
 cases dst with
 |none=>exact h
 |some d =>
  show mr E ((d,v)::L) R (tm.set d v);refine⟨λ t w hw=>?_,λ t w hn hw=>?_,λ t w hn hw=>?_⟩
  .rw [xG]at hw;rw[T.aJ];split at hw
   .grind
   .rename_i e;rw[qy e];exact h.l t w hw
  .rw [xG]at hn;rw[T.aJ];split at hn
   .cases hn
   .rename_i e;rw[qy e];exact h.r t w hn hw
  .rw [xG]at hn;rw[T.aJ];split at hn
   .cases hn
   .rename_i e;rw[qy e];exact h.e t w hn hw
def TV.elim{E L R:Env}{t:Nat}{g:Bool}{K:Bool->Env->AV->Prop}{tm:T AV}(hr:mr E L R tm)(h:TV E L R t g K):∃v d,tm.get t=B1 v/\mr E L d tm/\K g d v:=by
 unfold TV at h;cases hl:lk L t with
 |some v=>rw[hl]at h;exact⟨v,R,hr.l t v hl,hr,h⟩
 |none =>
  rw[hl]at h;cases c:lk R t with
  |some v=>rw[c]at h;exact⟨v,R,hr.r t v hl c,hr,h⟩
  |none =>
   rw[c]at h;have⟨v,f,h⟩:=LK.elim h;refine⟨v,_,hr.e t v hl f,⟨hr.l,λ u w hn hw=>?_,hr.e⟩,h⟩;rw[xG]at hw;split at hw
   .rename_i e;subst e;cases hw;exact hr.e t v hl f
   .exact hr.r u w hn hw
def Np{tm:T AV}:∀{l:List bL}{vs:List AV}{K:List AV->Prop},mI tm l=B1 vs->K vs->qK tm l K
 |[],vs,K,h,hk=>by cases h;exact hk
 |x::xs,vs,K,h,hk=>by
  simp only[mI,qj]at h;have⟨v,d,ws,f,g⟩:=h;cases g;cases x with
  |tmp t=>exact bQ.intro (m:=aI) d (Np f hk)
  |const c=>injection d with d;subst d;exact Np (K:=λ vs=>K (c::vs)) f hk
  |eL c=>cases d;exact Np (K:=λ vs=>K (_::vs)) f hk
  |func c=>cases d;exact Np (K:=λ vs=>K (_::vs)) f hk
def zQ.elim{E L:Env}{tm:T AV}{g:Bool}:∀{l:List bL}{R:Env}{K:Bool->Env->List AV->Prop},mr E L R tm->zQ E L l g R K -> ∃vs j,mI tm l=B1 vs/\mr E L j tm/\K g j vs
 |[],R,K,hr,h=>⟨[],R,rfl,hr,h⟩
 | .tmp t::xs,R,K,hr,h=>by
  have⟨v,o,m,i,h⟩:=TV.elim hr (show TV E L R t g (λ g R v=>zQ E L xs g R λ g R vs=>K g R (v::vs))from h);have⟨vs,d,f,c,h⟩:=zQ.elim i h;exact⟨v::vs,d,by simp[mI,rY,m,f],c,h⟩
 | .const v::xs,R,K,hr,h=>by
  have⟨vs,d,f,c,h⟩:=zQ.elim (l:=xs) hr h;exact⟨v::vs,d,by simp[mI,rY,f],c,h⟩
 | .eL v::xs,R,K,hr,h=>by
  have⟨vs,d,f,c,h⟩:=zQ.elim (l:=xs) hr h;exact⟨_,d,by simp[mI,rY,f],c,h⟩
 | .func v::xs,R,K,hr,h=>by
  have⟨vs,d,f,c,h⟩:=zQ.elim (l:=xs) hr h;exact⟨_,d,by simp[mI,rY,f],c,h⟩
def Tq(ds:List Nat):∀(E:Env)(t:Nat),lk (sL ds E) t=if bH t ds then B5 else lk E t
 |[],t=>by simp[sL,D5]
 |(k,v)::r,t=>by
  show lk (cond (bH k ds) (sL ds r) ((k,v)::sL ds r)) t=_;cases hm:bH k ds with
  |true =>
   rw[xu,Tq ds r,xG]
   grind
  |false =>
   rw[zp,xG,Tq ds r,xG]
   grind
def xdk:∀(L:Env)(t:Nat),bH t (mj L)=B2->lk L t=B5
 |[],t,_=>rfl
 |(k,v)::r,t,h=>by
  have h:cond (JW k t) B4 (bH t (mj r))=false:=h;rw[xG];cases hb:JW k t with
  |true=>grind
  |false=>rw[hb,zp]at h;rw[qy (Nat.ne_of_beq_eq_false hb)];exact xdk r t h
def xi{t:Nat}:∀{l:List Nat},t∈l->bH t l=B4
 |x::r,h=>by
  show cond (JW x t) B4 (bH t r)=B4;cases hb:JW x t with
  |true=>rfl
  |false =>
   rw[zp];rcases kj.1 h with e|h
   .simp_all
   .exact xi h
def Q_:∀(ds:List Nat)(tm:T AV)(t:Nat),t∉ds->(forget ds tm).get t=tm.get t
 |[],tm,t,_=>rfl
 |d::ds,tm,t,h=>by
  show(forget ds (tm.put d B5)).get t=_;rw[Q_ ds _ t (by grind),T.kI,qy (λ e=>h (by rw[e];exact Hn ..))]
def QQ(ks:List Nat)(Q:aE)(up:Option aG):cN:=λ e st=>st.up=up /\ ∃E',fX ks E' st.tm/\Q e E' st.aZ st.H
section
variable{M:ak}{ctx:Ctx}{dg:Bool}{Q:aE}{E:Env}{D:List aK}{up:Option aG}
theorem PX.Jw{Z:cN}(hp:∀c tm H g,(∀t v,lk g t=B1 v->tm.get t=B1 v/\lk E t=B1 v)->Q (.panic c) g D H->Z (.panic c) ⟨tm,D,up,H⟩){f:Option (List Nat)}{L R:Env}{tm:T AV}(hr:mr E L R tm){c:aG}{H:ar}(h:PX f (mj L) Q E D c H):AY f tm D up Z c H:=by
 cases f with
 |none=>exact h
 |some ds =>
  refine hp _ _ _ _ (λ t v d=>?_) h;rw[Tq,Tq]at d;split at d
  .cases d
  .rename_i i;split at d
   .cases d
   .rename_i j;rw[Q_ ds tm t (λ q=>i (xi q))];exact⟨hr.e t v (xdk L t (by simpa using j)) d,d⟩
theorem FY.Bp{Z:cN}(hp:∀c tm H j,(∀t v,lk j t=B1 v->tm.get t=B1 v/\lk E t=B1 v)->Q (.panic c) j D H->Z (.panic c) ⟨tm,D,up,H⟩){i:Option (List Nat)}{L R:Env}{tm:T AV}(hr:mr E L R tm){g:Bool}{f:mF}{vs:List AV}{H:ar}{K:Bool->AV->ar->Prop}{K':AV->ar->Prop}
 (h:FY M dg i L Q E D g f vs H K) (hk:∀v H,K g v H->K' v H):oJ M aI f vs H K' (AY i tm D up Z):=by
 cases dg with
 |false =>
  have⟨v,H',d,l⟩:=(show C3 M g f vs H K from h)
  exact⟨_,H',d,hk _ _ l⟩
 |true =>
  have⟨e,H',d,l⟩:=(show P3 M g (PX i (mj L) Q E D) f vs H K from h)
  refine⟨_,H',d,?_⟩
  grind [PX.Jw]
def G7.body{Z:cN}(hp:∀c tm H x,(∀t v,lk x t=B1 v->tm.get t=B1 v/\lk E t=B1 v)->Q (.panic c) x D H->Z (.panic c) ⟨tm,D,up,H⟩){s:aP}{K:KR}{g:Bool}{L R R0:Env}{tm:T AV}{H:ar}(hr:mr E L R tm)(r:mr E L R0 tm)(h:G7 M dg s Q E D K g L R H){KK:St->Prop}
 (C:∀j y i H',(s.iv=B4/\j=L/\i=tm \/ ∃v,s.iv=B2/\j=lT s.dst v L/\i=eK s.dst v tm)->mr E j y i->mr E j R0 i->K g j y H'->KK ⟨i,D,up,H'⟩) :
 match s.iv with
 |false=>qK tm s.args λ vs=>qC M ctx s.dst s.cK ⟨tm,D,up,H⟩ Z KK vs s.op
 |true=>qK tm s.args λ vs=>Qf s.dst ⟨tm,D,up,H⟩ vs s.op/\KK ⟨tm,D,up,H⟩:=by
 have⟨iv,dst,guard,args,op,u⟩:=s;have⟨vs,p,z,q,h⟩:=zQ.elim hr h;cases iv with
 |true =>
  refine Np z ?_;have h:Sx dst E L p H K g vs op:=h;cases op with
  |read f =>
   cases dst with
   |none=>exact h.elim
   |some d =>
    have h:ND g (f vs H) (Wa L E d) (λ g=>K g L p H):=h;have⟨⟨v,e1,e2⟩,h⟩:=h;refine⟨?_,(by grind)⟩;refine bQ.intro (m:=aI) e1 (bQ.intro (m:=aI) (a:=v) ?_ rfl);unfold Wa at e2;cases hl:lk L d with
    |some w=>rw[hl]at e2;injection e2 with e2;subst e2;exact hr.l d w hl
    |none=>rw[hl]at e2;exact hr.e d v hl e2
  |_=>exact h.elim
 |false =>
  have put:∀v H',K g (lT dst v L) p H'->KK ⟨eK dst v tm,D,up,H'⟩:=λ v H' hk=>C _ p _ H' (by grind) (q.put dst v) (r.put dst v) hk;refine Np z ?_;have h:wD M dg dst u Q E D L p H K g vs op:=h;cases op with
  |pure f=>simp only[wD]at h;have⟨v,e,h⟩:=B3.elim h;exact bQ.intro (m:=aI) e (put _ _ h)
  |read f=>simp only[wD]at h;have⟨v,e,h⟩:=B3.elim h;exact bQ.intro (m:=aI) e (put _ _ h)
  |alloc f=>simp only[wD]at h;simp only[qC];have⟨o,mk,e,h⟩:=jF.elim h;exact iX.intro (m:=aI) e (put _ _ h)
  |gU f=>simp only[wD]at h;simp only[qC];have⟨v,H',e,h⟩:=jF.elim h;exact iX.intro (m:=aI) e (put _ _ h)
  |iq f=>exact FY.Bp hp q h λ v H' hk=>put v H' hk
  |ic =>
   simp only[wD,V3]at h
   grind [qC,NV,FY.Bp]
  |invoke n =>
   simp only[wD,N3]at h;simp only[qC,Ok];split at h
   .have ⟨f,e,h⟩:=B3.elim h;exact bQ.intro (m:=aI) e ((by grind [FY.Bp]))
   grind
  |recover=>exact Nn h
  |defer=>exact Nn h
  |panic =>
   cases dg with
   |false=>exact Nn h
   |true =>
    have h:gE vs H (PX u (mj L) Q E D):=h;show gE vs H (AY u tm D up Z);unfold gE at h⊢
    grind [PX.Jw]
def Od(g:Option (Nat×Bool))(l:List aP):Prop:=∀s∈l,s.guard=g
def pV.free{Z:cN}(hp:∀c tm H f,(∀t v,lk f t=B1 v->tm.get t=B1 v/\lk E t=B1 v)->Q (.panic c) f D H->Z (.panic c) ⟨tm,D,up,H⟩){K:KR}{g:Bool}{R0:Env}{rest:List aP}(i:∀L R tm H,mr E L R tm->mr E L R0 tm->K g L R H->oP M ctx rest ⟨tm,D,up,H⟩ Z) :
 ∀{l:List aP}{L R:Env}{tm:T AV}{H:ar},Od B5 l->mr E L R tm->mr E L R0 tm->pV M dg Q E D K l g L R H->oP M ctx (l++rest) ⟨tm,D,up,H⟩ Z
 |[],L,R,tm,H,_,hr,hr0,h=>i _ _ _ _ hr hr0 h
 |s::l,L,R,tm,H,hg,hr,hr0,h=>by
  rw[JL,VP];have hs:s.guard=none:=hg s (Hn ..);have:=G7.body hp (ctx:=ctx) (up:=up) (KK:=λ d=>oP M ctx (l++rest) d Z) hr hr0 (show G7 M dg s Q E D (pV M dg Q E D K l) g L R H from h)
   λ r u q H' _ m o p=>pV.free hp i (λ x j=>hg x (Oo _ j)) m o p
  have⟨iv,dst,guard,args,op,w⟩:=s;subst hs;cases iv<;>exact this
theorem WB:∀(n:Nat)(f:List AV->ar->Prop)(l:List AV)(H:ar),l.length=n->p5 n (rR n f) l H=f l H
 |0,f,[],H,_=>rfl
 |n+1,f,v::l,H,h=>WB n (λ l=>f (v::l)) l H (by simpa using h)
 |0,f,_::_,H,h=>by cases h
 |n+1,f,[],H,h=>by cases h
def Fa{α:Type}(l:List α):cQ l=l.length:=by
 induction l with
 |nil=>rfl
 |cons x l ih=>grind [cQ]
theorem xh9:∀(ks:List Nat)(L:Env)(vs:List AV),vs.length=ks.length->rh ks.length (lI ks L vs)=vs
 |[],L,[],_=>rfl
 |k::ks,L,v::vs,h=>by
  show v::rh ks.length (lI ks L vs)=_;rw[xh9 ks L vs (by simpa using h)]
 |[],L,_::_,h=>by cases h
 |_::_,L,[],h=>by cases h
def c_:∀n,(sE n).length=n
 |0=>rfl
 |n+1=>by show(sE n).length+1=_;rw[c_ n]
def pV.under{Z:cN}(hp:∀c tm H u,(∀t v,lk u t=B1 v->tm.get t=B1 v/\lk E t=B1 v)->Q (.panic c) u D H->Z (.panic c) ⟨tm,D,up,H⟩){K:KR}{g:Bool}{R0:Env}{rest:List aP}{t:Nat}{b:Bool}{v:AV}(hw:cT b (B1 v)=B1 B4){kf:List Nat}{L0:Env}(y:∀vs R tm H,vs.length=kf.length->mr E (lI kf L0 vs) R tm->mr E (lI kf L0 vs) R0 tm->K g (lI kf L0 vs) R H->oP M ctx rest ⟨tm,D,up,H⟩ Z) :
 ∀{l:List aP}{acc:List Nat}{us:List AV}{L R:Env}{tm:T AV}{H:ar},bq l acc=kf->us.length=acc.length->L=lI acc L0 us->Od (B1 (t,b)) l->vU t l=B4->tm.get t=B1 v->mr E L R tm->mr E L R0 tm->pV M dg Q E D K l g L R H->oP M ctx (l++rest) ⟨tm,D,up,H⟩ Z
 |[],acc,us,L,R,tm,H,e1,e2,e3,_,_,_,hr,hr0,h=>by
  have e1:acc=kf:=e1;subst e1;subst e3;exact y _ _ _ _ e2 hr hr0 h
 |s::l,acc,us,L,R,tm,H,e1,e2,e3,hg,ho,ht,hr,hr0,h=>by
  rw[JL,VP];have hs:s.guard=B1 (t,b):=hg s (Hn ..);have ho:cond (PY s.dst t) B2 (cond s.iv (cond s.dst.isSome (vU t l) B2) (vU t l))=true:=ho;have o:PY s.dst t=false:=by grind
  rw[o,zp]at ho;have q:vU t l=true:=by
   grind
  have:=G7.body hp (ctx:=ctx) (up:=up) (KK:=λ r=>oP M ctx (l++rest) r Z) hr hr0 (show G7 M dg s Q E D (pV M dg Q E D K l) g L R H from h)
   λ F U S H' C J N O=>by
    have e1:bq l (cond s.iv acc (R6 (motive:=λ _=>List Nat) acc (λ d=>d::acc) s.dst))=kf:=e1;obtain⟨f,i,j⟩:∃f,f.length=(cond s.iv acc (R6 (motive:=λ _=>List Nat) acc (λ d=>d::acc) s.dst)).length/\F=lI (cond s.iv acc (R6 (motive:=λ _=>List Nat) acc (λ d=>d::acc) s.dst)) L0 f:=by
     rcases C with⟨z,rfl,_⟩|⟨w,z,rfl,_⟩
     .grind
     .rw [z];cases s.dst with
      |none=>exact⟨us,e2,e3⟩
      |some d=>exact⟨w::us,by simpa using e2,by rw[e3];rfl⟩
    exact pV.under hp hw y e1 i j (λ x G=>hg x (Oo _ G)) q (by
     rcases C with⟨_,_,rfl⟩|⟨w,_,_,rfl⟩
     .exact ht
     .cases p:s.dst with
      |none=>exact ht
      |some d =>
       rw[p]at o;show(tm.set d w).get t=_;rw[T.aJ,qy (Nat.ne_of_beq_eq_false o)];exact ht) J N O
  have⟨iv,dst,guard,args,op,V⟩:=s;subst hs;have e:cT b (tm.get t)=B1 true:=by grind
  cases iv with
  |false=>exact bQ.intro (m:=aI) e this
  |true=>exact bQ.intro (m:=aI) e this
def pV.over{Z:cN}{R0:Env}{rest:List aP}{t:Nat}{b:Bool}{v:AV}(hw:cT b (B1 v)=B1 B2){kf:List Nat}{L0:Env}{H:ar}(j:∀tm,mr E (lI kf L0 (sE kf.length)) R0 tm->oP M ctx rest ⟨tm,D,up,H⟩ Z) :
 ∀{l:List aP}{acc:List Nat}{tm:T AV},bq l acc=kf->Od (B1 (t,b)) l->vU t l=B4->tm.get t=B1 v->mr E (lI acc L0 (sE acc.length)) R0 tm->oP M ctx (l++rest) ⟨tm,D,up,H⟩ Z
 |[],acc,tm,e1,_,_,_,hr0=>by
  have e1:acc=kf:=e1
  grind
 |s::l,acc,tm,e1,hg,ho,ht,hr0=>by
  rw[JL,VP];have hs:s.guard=B1 (t,b):=hg s (Hn ..);have ho:cond (PY s.dst t) B2 (cond s.iv (cond s.dst.isSome (vU t l) B2) (vU t l))=true:=ho;have i:PY s.dst t=false:=by grind
  rw[i,zp]at ho;have e:cT b (tm.get t)=B1 false:=by grind
  have g:Od (B1 (t,b)) l:=λ x o=>hg x (Oo _ o);have e1:bq l (cond s.iv acc (R6 (motive:=λ _=>List Nat) acc (λ d=>d::acc) s.dst))=kf:=e1;cases h:s.iv with
  |true =>
   rw[h]at ho e1;cases f:s.dst.isSome with
   |false=>grind
   |true =>
    rw[f]at ho;have:=pV.over hw j e1 g ho ht hr0;have⟨iv,dst,guard,args,op,p⟩:=s;subst hs;subst h;exact bQ.intro (m:=aI) e ⟨f,this⟩
  |false =>
   rw[h]at ho e1;have:=pV.over hw j (tm:=eK s.dst .undef tm) e1 g ho (by
    cases c:s.dst with
     |none=>exact ht
     |some d =>
      rw[c]at i;show(tm.set d _).get t=_;rw[T.aJ,qy (Nat.ne_of_beq_eq_false i)];exact ht) (by
    have:=hr0.put s.dst .undef;cases c:s.dst with
     |none=>rw[c]at this;exact this
     |some d=>rw[c]at this;exact this)
   have⟨iv,dst,guard,args,op,p⟩:=s;subst hs;subst h;exact bQ.intro (m:=aI) e this
theorem ad2{a b:Option (Nat×Bool)}(h:tq a b=B4):a=b:=by
 cases a with
 |none=>cases b with
  |none=>rfl
  |some _=>cases h
 |some p=>cases b with
  |none=>cases h
  |some q =>
   have⟨t,x⟩:=p;have⟨u,y⟩:=q;have h:cond (JW t u) (cond x y (!y)) B2=true:=h
   grind [Lu]
def Ey:∀(l:List aP),(JB l).flatMap (·.2)=l /\ ∀x∈JB l,Od x.1 x.2
 |[]=>⟨rfl,λ x c=>by cases c⟩
 |s::l=>by
  have⟨d,h⟩:=Ey l;have e:JB (s::l)=List.casesOn (motive:=λ _=>List Gi) (JB l) [(s.guard,[s])] λ g r=>cond (tq g.1 s.guard) ((g.1,s::g.2)::r) ((s.guard,[s])::g::r):=rfl;rw[e];cases hg:JB l with
  |nil =>
   rw[hg]at d;exact⟨by simpa using d,λ x c=>by simp at c;subst c;intro y f;grind⟩
  |cons g r =>
   rw[hg]at d h;show(cond (tq g.1 s.guard) ((g.1,s::g.2)::r) ((s.guard,[s])::g::r)).flatMap _=_ /\ ∀x∈cond (tq g.1 s.guard) ((g.1,s::g.2)::r) ((s.guard,[s])::g::r),_;cases hs:tq g.1 s.guard with
   |true =>
    refine⟨by simpa using d,λ x c=>?_⟩;rcases kj.1 c with rfl|c
    .intro y f;rcases kj.1 f with rfl|f
     .grind [ad2]
     .exact h g (Hn ..) y f
    grind
   |false =>
    refine⟨by simpa using d,λ x c=>?_⟩;rcases kj.1 c with rfl|c
    .intro y f;grind
    grind
def zK.PB{Z:cN}(hp:∀c tm H j,(∀t v,lk j t=B1 v->tm.get t=B1 v/\lk E t=B1 v)->Q (.panic c) j D H->Z (.panic c) ⟨tm,D,up,H⟩){K:KR}{g:Bool}(m:∀L R tm H,mr E L R tm->K g L R H->Z .normal ⟨tm,D,up,H⟩):∀{gs:List Gi}{L R:Env}{tm:T AV}{H:ar},(∀x∈gs,Od x.1 x.2)->mr E L R tm->zK M dg Q E D K gs g L R H ->
 oP M ctx (gs.flatMap (·.2)) ⟨tm,D,up,H⟩ Z
 |[],L,R,tm,H,_,hr,h=>m _ _ _ _ hr h
 |x::gs,L,R,tm,H,hg,hr,h=>by
  rw[j6];have r:∀L R tm H,mr E L R tm->zK M dg Q E D K gs g L R H->oP M ctx (gs.flatMap (·.2)) ⟨tm,D,up,H⟩ Z:=λ L R tm H hr h=>zK.PB hp m (by grind) hr h;have i:=hg x (Hn ..);have⟨q,l⟩:=x;cases q with
  |none=>exact pV.free hp (R0:=R) (by grind) i hr hr (show pV M dg Q E D (zK M dg Q E D K gs) l g L R H from h)
  |some q =>
   have⟨t,b⟩:=q;cases ho:vU t l with
   |false =>
    have h:cond (vU t l) _ False:=h
    grind
   |true =>
    have h:cond (vU t l) _ False:=h;rw[ho,xu]at h;have⟨v,f,o,d,h⟩:=TV.elim hr h;have kl:cQ (bq l [])=(bq l []).length:=Fa _;have h:B3 g (cT b (B1 v)) λ g w=>xB g w (λ g=>pV M dg Q E D (λ g p _ H=>p5 (cQ (bq l [])) (rR (cQ (bq l [])) λ vs H=>zK M dg Q E D K gs g (lI (bq l []) L vs) f H) (rh (cQ (bq l [])) p) H) l g L f H)
     (λ g=>p5 (cQ (bq l [])) (rR (cQ (bq l [])) λ vs H=>zK M dg Q E D K gs g (lI (bq l []) L vs) f H) (sE (cQ (bq l []))) H):=h
    have⟨w,hw,h⟩:=B3.elim h;cases w with
    |true =>
     refine pV.under hp (R0:=f) hw (kf:=bq l []) (L0:=L) (λ vs R tm H q u s y=>?_) (acc:=[]) (us:=[]) rfl rfl rfl i ho o d d h
     grind [xh9,WB]
    |false =>
     have h:p5 (cQ (bq l [])) (rR (cQ (bq l [])) λ vs H=>zK M dg Q E D K gs g (lI (bq l []) L vs) f H) (sE (cQ (bq l []))) H:=h;rw[kl,WB _ _ _ _ (c_ _)]at h;exact pV.over hw (kf:=bq l []) (L0:=L) (by grind) (acc:=[]) rfl i ho o d
def rM.PB{Z:cN}(hp:∀c tm H d,(∀t v,lk d t=B1 v->tm.get t=B1 v/\lk E t=B1 v)->Q (.panic c) d D H->Z (.panic c) ⟨tm,D,up,H⟩){l:List aP}{g:Bool}{H:ar}{K:KR}{tm:T AV}{ks:List Nat}(he:fX ks E tm)(h:rM M dg Q E D l g H K)(i:∀L R tm H,mr E L R tm->K g L R H->Z .normal ⟨tm,D,up,H⟩):oP M ctx l ⟨tm,D,up,H⟩ Z:=by
 have⟨j,f⟩:=Ey l;have:=zK.PB hp (ctx:=ctx) i f (mr.first he) h
 grind
end
end
end Go.Am
namespace Go.Am
noncomputable section
variable{M:ak}{ctx:Ctx}{K:Kp}
def Zw(ks:List Nat)(E:Env):∀(L:Env)(t:Nat)(v:AV),bH t ks=B4->lk (dL ks E L) t=B1 v->lk L t=B1 v\/lk L t=B5/\lk E t=B1 v
 |[],t,v,_,h=>.inr ⟨rfl,h⟩
 |(k,w)::r,t,v,ht,h=>by
  have h:lk (cond (bH k ks) ((k,w)::dL ks E r) (dL ks E r)) t=B1 v:=h;rw[xG];cases hm:bH k ks with
  |true =>
   rw[hm,xu,xG]at h;split at h
   .grind
   .rename_i e;rw[qy e];exact Zw ks E r t v ht h
  |false =>
   rw[hm,zp]at h
   by_cases e:k=t
   .grind
   .rw [qy e];exact Zw ks E r t v ht h
def W6(ks:List Nat)(E:Env)(c:∀t v,lk E t=B1 v->bH t ks=B4):∀(L:Env)(t:Nat)(v:AV),lk (dL ks E L) t=B1 v->bH t ks=B4
 |[],t,v,h=>c t v h
 |(k,w)::r,t,v,h=>by
  have h:lk (cond (bH k ks) ((k,w)::dL ks E r) (dL ks E r)) t=B1 v:=h;cases hm:bH k ks with
  |true =>
   rw[hm,xu,xG]at h;split at h
   .grind
   .exact W6 ks E c r t v h
  |false=>rw[hm,zp]at h;exact W6 ks E c r t v h
def mr.ah{E L R:Env}{tm:T AV}(h:mr E L R tm){ks:List Nat}(d:∀t v,lk E t=B1 v->bH t ks=B4):fX ks (dL ks E L) tm:=λ t v c=>by
 have hm:=W6 ks E d L t v c;refine⟨?_,hm⟩;rcases Zw ks E L t v hm c with q|⟨f,g⟩
 .exact h.l t v q
 .exact h.e t v f g
def fX.keys{ks:List Nat}{E:Env}{tm:T AV}(h:fX ks E tm):∀t v,lk E t=B1 v->bH t ks=true:=λ t v c=>(h t v c).2
def fX.dg{ks:List Nat}{E d:Env}{tm c:T AV}(h:fX ks E tm)(f:∀t v,lk d t=B1 v->c.get t=B1 v/\lk E t=B1 v):fX ks d c:=λ t v g=>⟨(f t v g).1,(h t v (f t v g).2).2⟩
def TV.cv{E L R:Env}{x:bL}{g:Bool}{P:Bool->AV->Prop}{tm:T AV}(hr:mr E L R tm)(h:CV E L R x g P):∃v,rY tm x=B1 v/\P g v:=by
 cases x with
 |tmp t=>have⟨v,_,c,_,d⟩:=TV.elim hr (show TV E L R t g (λ g _ v=>P g v)from h);exact⟨v,c,d⟩
 |const v=>exact⟨v,rfl,h⟩
 |eL v=>exact⟨_,rfl,h⟩
 |func v=>exact⟨_,rfl,h⟩
def OV.elim{ks:List Nat}{E:Env}{x:bL}{g:Bool}{P:Bool->AV->Prop}{tm:T AV}(hr:fX ks E tm)(h:OV E x g P):∃v,rY tm x=B1 v/\P g v:=by
 cases x with
 |tmp t=>have⟨v,c,d⟩:=LK.elim (show LK g (lk E t) P from h);exact⟨v,(hr t v c).1,d⟩
 |const v=>exact⟨v,rfl,h⟩
 |eL v=>exact⟨_,rfl,h⟩
 |func v=>exact⟨_,rfl,h⟩
def L_{tm:T AV}{x:bL}{v:AV}{P:AV->Prop}(h:rY tm x=B1 v)(hp:P v):FF tm x P:=by
 cases x with
 |tmp t=>exact bQ.intro (m:=aI) h hp
 |const c=>cases h;exact hp
 |eL c=>cases h;exact hp
 |func c=>cases h;exact hp
def nH.wp{a b:ai}{g:Bool}{v:AV}{A B:Bool->Prop}{tm:T AV}{c:bL}{st:St}{Q:cN}(d:rY st.tm c=B1 v)(h:nH g v A B)(ha:A g->WP M ctx a st Q)(hb:B g->WP M ctx b st Q):WP M ctx (.cond c a b) st Q:=by
 obtain⟨q,rfl,h⟩:=h.elim;refine L_ d ?_;cases q with
 |true=>exact ha h
 |false=>exact hb h
def fp:ai->Nat
 | .seq a b=>fp a+fp b+1
 | .cond _ a b=>fp a+fp b+1
 | .block _ b=>fp b+1
 | .loop _ b=>fp b+1
 | .scope b=>fp b+1
 |_=>0
def W3.wp:∀(n:Nat)(c:ai),fp c<=n -> ∀{g:Bool}{Q:aE}{E:Env}{D:List aK}{H:ar}{tm:T AV}{up:Option aG},W3 M ctx K c g Q E D H->fX K.ah E tm->WP M ctx c ⟨tm,D,up,H⟩ (QQ K.ah Q up):=by
 intro n
 induction n with
 |zero =>
  intro c hc g Q E D H tm up h he;cases c with
  |skip=>exact⟨rfl,E,he,h⟩
  |label _=>exact⟨rfl,E,he,h⟩
  |exit _=>exact⟨rfl,E,he,h⟩
  |goto _=>exact⟨rfl,E,he,h⟩
  |ret=>exact⟨rfl,E,he,h⟩
  |stuck=>exact Nn h
  |region l=>exact rM.PB (λ c w H' j p i=>⟨rfl,j,he.dg p,i⟩) he (show rM M K.dg Q E D l g H _ from h) λ L R tm H hr hk=>⟨rfl,_,hr.ah he.keys,hk⟩
  |rangeFunc f k =>
   have⟨v,s,h⟩:=OV.elim he (show OV E f g _ from h);exact L_ s (by
    have:=h tm up he;unfold JI at this⊢;split
    .rename_i hr;rw[hr]at this;exact Ps this λ e st⟨p,i,o⟩=>⟨p,E,by rw[i];exact he,o⟩
    .rename_i l hr;rw[hr]at this;exact FT (m:=aI) this λ d q=>Ps q λ e st⟨p,i,o⟩=>⟨p,E,by rw[i];exact he,o⟩)
  |seq _ _=>grind [fp]
  |cond _ _ _=>grind [fp]
  |block _ _=>grind [fp]
  |loop _ _=>grind [fp]
  |scope _=>grind [fp]
 |succ n ih =>
  intro c hc g Q E D H tm up h he;have t:∀{a b:ai}{tm:T AV}{H:ar},fp b<=n->WP M ctx a ⟨tm,D,up,H⟩ (QQ K.ah (fm (W3 M ctx K b) Q) up)->WP M ctx a ⟨tm,D,up,H⟩ (BL (WP M ctx b) (QQ K.ah Q up)):=λ{a b tm H}hb h=>qF h λ e st⟨p,j,i,o⟩=>by
   have⟨w,D',U,H'⟩:=st;subst p;cases e with
   |normal=>exact ih b hb o i
   |exit _=>exact⟨rfl,j,i,o⟩
   |goto _=>exact⟨rfl,j,i,o⟩
   |ret=>exact⟨rfl,j,i,o⟩
   |panic _=>exact⟨rfl,j,i,o⟩
  have z:∀{c:bL}{x y:ai}{E:Env}{tm:T AV}{v:AV}{g:Bool}{Q:aE}{H:ar},fp x<=n->fp y<=n->rY tm c=B1 v->fX K.ah E tm->nH g v (λ g=>W3 M ctx K x g Q E D H) (λ g=>W3 M ctx K y g Q E D H)->WP M ctx (.cond c x y) ⟨tm,D,up,H⟩ (QQ K.ah Q up) :=
   λ{c x y E tm v g Q H}hx hy s he h=>nH.wp (tm:=tm) (st:=⟨tm,D,up,H⟩) s h (by grind) (by grind)
  cases c with
  |seq a b =>
   have O:fp a+fp b<=n:=by grind [fp]
   have gen:W3 M ctx K a g (fm (W3 M ctx K b) Q) E D H->WP M ctx (.seq a b) ⟨tm,D,up,H⟩ (QQ K.ah Q up):=λ h=>t (a:=a) (b:=b) (by omega) (ih a (by omega) h he);have pA:∀(l:List aP)(N:KR),a=.region l->rM M K.dg Q E D l g H N->(∀L R tm H,mr E L R tm->N g L R H->WP M ctx b ⟨tm,D,up,H⟩ (QQ K.ah Q up))->WP M ctx (.seq a b) ⟨tm,D,up,H⟩ (QQ K.ah Q up):=λ l N e Y hk=>by
    subst e;exact rM.PB (Z:=BL (WP M ctx b) (QQ K.ah Q up)) (λ c w H' j p i=>⟨rfl,j,he.dg p,i⟩) he Y hk
   cases a with
   |region l =>
    have plain:(rM M K.dg Q E D l g H λ g L _ H=>W3 M ctx K b g Q (dL K.ah E L) D H)->WP M ctx (.seq (.region l) b) ⟨tm,D,up,H⟩ (QQ K.ah Q up):=λ h=>pA l _ rfl h λ L R tm H hr hk=>ih b (by omega) hk (hr.ah he.keys);cases b with
    |cond c x y =>
     have S:fp x+fp y+1<=n:=by grind [fp]
     refine pA l _ rfl h λ L R tm H hr hk=>?_;have⟨v,s,hk⟩:=TV.cv hr hk;exact z (by omega) (by omega) s (hr.ah he.keys) hk
    |seq b1 r =>
     cases b1 with
     |cond c x y =>
      have S:fp x+fp y+1+fp r+1<=n:=by grind [fp]
      refine pA l _ rfl h λ L R tm H hr hk=>?_;have⟨v,s,hk⟩:=TV.cv hr hk;exact t (by omega) (z (by omega) (by omega) s (hr.ah he.keys) hk)
     |_=>exact plain h
    |_=>exact plain h
   |_=>exact gen h
  |cond c x y =>
   have O:fp x+fp y<=n:=by grind [fp]
   have⟨v,s,h⟩:=OV.elim he (show OV E c g _ from h)
   grind
  |block id b =>
   have hb:fp b<=n:=by grind [fp]
   exact qF (c:=b) (ih b hb (show W3 M ctx K b g (eY id Q) E D H from h) he) λ e st⟨p,j,i,o⟩=>by cases e<;>exact⟨p,j,i,o⟩
  |scope b =>
   have hb:fp b<=n:=by grind [fp]
   refine qF (c:=b) (ih b hb (show W3 M ctx K b g (kJ b Q) E D H from h) he) λ e st⟨p,j,i,o⟩=>?_;cases e with
   |goto l=>exact⟨o.1,p,j,i,o.2⟩
   |normal=>exact⟨p,j,i,o⟩
   |exit _=>exact⟨p,j,i,o⟩
   |ret=>exact⟨p,j,i,o⟩
   |panic _=>exact⟨p,j,i,o⟩
  |loop ah b =>
   have hb:fp b<=n:=by grind [fp]
   cases ah with
   |some _=>exact Nn h
   |none =>
    have⟨I,⟨n0,V,h0,hs⟩,u⟩:=(show cz (W3 M ctx K b) Q E D H from h)
    refine⟨λ n st=>st.up=up /\ ∃j,fX K.ah j st.tm/\I n j st.aZ st.H,⟨n0,rfl,V,hs.sub he,h0⟩,λ n st⟨p,j,i,o⟩=>?_⟩;have⟨w,D',U,H'⟩:=st;subst p;refine qF (c:=b) (ih b hb (u n j D' H' o) i) λ e st⟨C,J,F,G⟩=>?_;cases e with
    |normal=>have⟨m,W,q1,q2,q3⟩:=G;exact⟨m,q3,C,W,q2.sub F,q1⟩
    |exit _=>exact⟨C,J,F,G⟩
    |goto _=>exact⟨C,J,F,G⟩
    |ret=>exact⟨C,J,F,G⟩
    |panic _=>exact⟨C,J,F,G⟩
  |skip=>exact⟨rfl,E,he,h⟩
  |label _=>exact⟨rfl,E,he,h⟩
  |exit _=>exact⟨rfl,E,he,h⟩
  |goto _=>exact⟨rfl,E,he,h⟩
  |ret=>exact⟨rfl,E,he,h⟩
  |stuck=>exact Nn h
  |region l=>exact ih _ (xx _) h he
  |rangeFunc f k=>exact ih _ (xx _) h he
def jG(E:Env)(H:ar):List d9->(List AV->Prop)->Prop
 |[],P=>P []
 | .tmp t::rs,P=>LK B4 (lk E t) λ _ v=>jG E H rs λ vs=>P (v::vs)
 | .kY a::rs,P=>LK B4 (lk E a) λ _ v=>B3 B4 (Op.ae [v] H) λ _ v=>jG E H rs λ vs=>P (v::vs)
 | .cV n a::rs,P=>LK B4 (lk E a) λ _ v=>B3 B4 (Op.aq n [v] H) λ _ v=>jG E H rs λ vs=>P (v::vs)
def oK(M:ak)(rs:List d9)(E:Env)(Q:bI->ar->Prop):List aK->Option aG->ar->Prop
 |[],B5,H=>jG E H rs λ l=>Q (.ret (jB l)) H
 |[],B1 c,H=>Q (.panic c) H
 | .iy b::ds,m,H=>H.get b=B1 (.deferred (B1 []))/\oK M rs E Q ds m (H.set b (.deferred B5))
 | .fn (.func f) args::ds,m,H=>∃v up' H',jT M f args (B1 (m.getD [])) H (.ret v) (B1 up') H'/\bQ aI (oE m up') λ m'=>oK M rs E Q ds m' H'
 | .fn (.yield _) _::_,_,_=>False
def jG.elim{ks:List Nat}{E:Env}{tm:T AV}(he:fX ks E tm){H:ar}:∀{rs:List d9}{P:List AV->Prop},jG E H rs P -> ∃l,ep H tm rs=B1 l/\P l
 |[],P,h=>⟨[],rfl,h⟩
 | .tmp t::rs,P,h=>by
  have⟨v,c,h⟩:=LK.elim (show LK B4 (lk E t) _ from h);have⟨l,d,h⟩:=jG.elim he h;exact⟨v::l,by rw[HV,(he t v c).1,d];rfl,h⟩
 | .kY t::rs,P,h=>by
  have⟨v,c,h⟩:=LK.elim (show LK B4 (lk E t) _ from h);have⟨w,d,h⟩:=B3.elim h;have⟨l,f,h⟩:=jG.elim he h;exact⟨w::l,by rw[xnq,(he t v c).1,qr,d,qr,f];rfl,h⟩
 | .cV n t::rs,P,h=>by
  have⟨v,c,h⟩:=LK.elim (show LK B4 (lk E t) _ from h);have⟨w,d,h⟩:=B3.elim h;have⟨l,f,h⟩:=jG.elim he h;exact⟨w::l,by rw[xnr,(he t v c).1,qr,d,qr,f];rfl,h⟩
theorem oK.TJ{ks:List Nat}{E:Env}{tm:T AV}(he:fX ks E tm){rs:List d9}{Q:bI->ar->Prop}:∀{D:List aK}{m:Option aG}{H:ar},oK M rs E Q D m H->Ap M rs tm Q D m H
 |[],B5,H,h=>by have⟨l,d,g⟩:=jG.elim he h;exact bQ.intro (m:=aI) d g
 |[],B1 c,H,h=>h
 | .iy b::ds,m,H,⟨d,g⟩=>⟨d,oK.TJ he g⟩
 | .fn (.func f) args::ds,m,H,⟨v,up',H',d,g⟩=>⟨v,up',H',d,FT g λ i h=>oK.TJ he h⟩
 | .fn (.yield _) _::_,_,_,h=>h
def eG(M:ak)(rs:List d9)(Q:bI->ar->Prop):aE:=λ e E D H=>match e with
 | .normal=>oK M rs E Q D B5 H
 | .ret=>oK M rs E Q D B5 H
 | .panic c=>oK M rs E Q D (B1 c) H
 |_=>False
def Ga(M:ak)(f:Nat)(vs:List AV)(H:ar)(Q:bI->ar->Prop):Prop:=∃e H',CALL M f vs H e H'/\Q e H'
def uZ(Q:AV->ar->Prop)(e:bI)(H:ar):Prop:=match e with
 | .ret v=>Q v H
 | .panic _=>False
def ze(M:ak)(f:Nat)(vs:List AV)(H:ar)(Q:AV->ar->Prop):Prop:=Ga M f vs H (uZ Q)
def ze.elim{f:Nat}{vs:List AV}{H:ar}{Q:AV->ar->Prop}(h:ze M f vs H Q):∃v H',CALL M f vs H (.ret v) H'/\Q v H':=by
 have⟨e,H',d,c⟩:=h;cases e with
 |ret v=>exact⟨v,H',d,c⟩
 |panic _=>exact c.elim
theorem ze.intro{f:Nat}{vs:List AV}{H:ar}{Q:AV->ar->Prop}{v:AV}{H':ar}(h:CALL M f vs H (.ret v) H')(c:Q v H'):ze M f vs H Q:=⟨_,H',h,c⟩
def ze.mono{f:Nat}{vs:List AV}{H:ar}{Q Q':AV->ar->Prop}(h:ze M f vs H Q)(g:∀v H',Q v H'->Q' v H'):ze M f vs H Q':=by
 have⟨v,H',c,d⟩:=h.elim;exact⟨_,H',c,g _ _ d⟩
def C3.q{m:Bool}{f:Nat}{vs:List AV}{H:ar}{R:AV->ar->Prop}{P:Bool->AV->ar->Prop}(h:ze M f vs H R)(hk:∀v H',R v H'->P m v H'):C3 M m (.func f) vs H P:=by
 have⟨v,H',c,d⟩:=h.elim;exact⟨v,H',c,hk v H' d⟩
def C3.ret{m:Bool}{f:Nat}{vs:List AV}{H:ar}{P:Bool->AV->ar->Prop}{v:AV}{H':ar}(h:CALL M f vs H (.ret v) H')(hk:P m v H'):C3 M m (.func f) vs H P:=⟨v,H',h,hk⟩
def C3.tu{m:Bool}{l:Nat}{vs:List AV}{H:ar}{P:Bool->AV->ar->Prop}{v:AV}{H':ar}(h:sR M l vs H (.ret v) H')(hk:P m v H'):C3 M m (.yield l) vs H P:=⟨v,H',h,hk⟩
def P3.q{m:Bool}{X:aG->ar->Prop}{f:Nat}{vs:List AV}{H:ar}{R:bI->ar->Prop}{P:Bool->AV->ar->Prop}(h:Ga M f vs H R)(hk:∀v H',R (.ret v) H'->P m v H')(i:∀c H',R (.panic c) H'->X c H'):P3 M m X (.func f) vs H P:=by
 have⟨e,H',d,g⟩:=h;refine⟨e,H',d,?_⟩
 grind
def kG:Nat->List AV->Env
 |_,[]=>[]
 |i,v::vs=>(i,v)::kG (i+1) vs
def jZ:Nat->Nat->List Nat->Bool
 |_,0,_=>B4
 |i,n+1,ks=>bH i ks && jZ (i+1) n ks
def q8m:∀(vs:List AV)(i t:Nat)(tm:T AV),(jO i vs tm).get t=if i<=t then(match vs[t-i]? with|some v=>B1 v|none=>tm.get t)else tm.get t
 |[],i,t,tm=>by simp[jO]
 |v::vs,i,t,tm=>by
  rw[jO,q8m vs (i+1) t,T.aJ]
  grind
def E_:∀(vs:List AV)(i t:Nat)(v:AV),lk (kG i vs) t=B1 v->i<=t/\vs[t-i]? = B1 v
 |[],i,t,v,h=>by cases h
 |w::vs,i,t,v,h=>by
  rw[kG,xG]at h;split at h
  .grind
  .have ⟨c,d⟩:=E_ vs (i+1) t v h
   grind
def xdb:∀(n i:Nat)(ks:List Nat),jZ i n ks=B4 -> ∀t,i<=t->t<i+n->bH t ks=B4
 |0,i,ks,_,t,h1,h2=>by omega
 |n+1,i,ks,h,t,h1,h2=>by
  simp only[jZ,zf]at h
  by_cases e:i=t
  .grind
  .exact xdb n (i+1) ks h.2 t (by omega) (by omega)
def Vl{ks:List Nat}{vs:List AV}(h:jZ 0 vs.length ks=B4):fX ks (kG 0 vs) (jO 0 vs .nil):=λ t v d=>by
 have⟨_,c⟩:=E_ vs 0 t v d;rw[Nat.sub_zero]at c;refine⟨by simp_all[q8m],xdb _ 0 ks h t (xx _) ?_⟩
 grind
structure Fn3 where
 n:Nat
 F:bZ
 K:Kp
def pre:ai->List ai
 | .seq a b=>.seq a b::kK (pre a) (pre b)
 | .cond c a b=>.cond c a b::kK (pre a) (pre b)
 | .block i b=>.block i b::pre b
 | .loop k b=>.loop k b::pre b
 | .scope b=>.scope b::pre b
 |c=>[c]
def part(c:ai)(k:Nat):ai:=R6 (motive:=λ _=>ai) .stuck (λ c=>c) (nth (pre c) k)
def dD:ai->Nat
 | .seq a b=>dD a+dD b+1
 | .cond _ a b=>dD a+dD b+1
 | .block _ b=>dD b+1
 | .loop _ b=>dD b+1
 | .scope b=>dD b+1
 |_=>1
def Im:∀(c:ai),(pre c).length=dD c
 | .seq a b=>by simp[pre,dD,pO,Im a,Im b]
 | .cond _ a b=>by simp[pre,dD,pO,Im a,Im b]
 | .block _ b=>by simp[pre,dD,Im b]
 | .loop _ b=>by simp[pre,dD,Im b]
 | .scope b=>by simp[pre,dD,Im b]
 | .skip=>rfl
 | .label _=>rfl
 | .exit _=>rfl
 | .goto _=>rfl
 | .ret=>rfl
 | .stuck=>rfl
 | .region _=>rfl
 | .rangeFunc _ _=>rfl
def VD(c:ai):∃l,pre c=c::l:=by cases c<;>exact⟨_,rfl⟩
def U4{α:Type}:∀(l:List α)(i:Nat),nth l i=l[i]?
 |[],i=>rfl
 |x::l,0=>rfl
 |x::l,i+1=>by rw[jb,<-U4 l i];rfl
def M5:∀(r:ai)(k:Nat)(c:ai),(pre r)[k]? = B1 c -> ∃l,(pre r).drop k=pre c++l:=by
 intro r
 induction r with
 |seq a b iha ihb =>
  intro k c h;cases k with
  |zero=>simp[pre]at h;simp_all
  |succ k =>
   simp only[pre,pO,jb]at h
   grind [pre,pO,IQ,ju]
 |cond x a b iha ihb =>
  intro k c h;cases k with
  |zero=>simp[pre]at h;simp_all
  |succ k =>
   simp only[pre,pO,jb]at h
   grind [pre,pO,IQ,ju]
 |block i b ih =>
  intro k c h;cases k with
  |zero=>simp[pre]at h;simp_all
  |succ k=>grind [pre]
 |loop i b ih =>
  intro k c h;cases k with
  |zero=>simp[pre]at h;simp_all
  |succ k=>grind [pre]
 |scope b ih =>
  intro k c h;cases k with
  |zero=>simp[pre]at h;simp_all
  |succ k=>grind [pre]
 |_ =>
  intro k c h;cases k with
  |zero=>simp[pre]at h;simp_all
  |succ k=>grind [pre]
def xdw{r:ai}{k:Nat}{c:ai}(h:(pre r)[k]? = B1 c):part r k=c:=by
 simp_all[part,U4]
def m0{r:ai}{k:Nat}{c:ai}(h:part r k=c)(i:c≠ .stuck):∀(j:Nat)(d:ai),(pre c)[j]? = B1 d->part r (k+j)=d:=λ j d f=>by
 have g:(pre r)[k]? = B1 c:=by
  unfold part at h;rw[U4]at h;cases m:(pre r)[k]? with
  |none=>simp_all
  |some x=>simp_all
 have⟨l,hl⟩:=M5 r k c g;refine xdw ?_;rw[<-wx,hl,yz (qo.1 f).1,f]
def E9(c:ai):(pre c)[0]? = B1 c:=by have⟨l,h⟩:=VD c;grind
def Iu{r:ai}{k:Nat}{c a b:ai}(h:part r k=c)(d:c≠ .stuck)(e:∃x l,pre c=x::(pre a++l)):part r (k+1)=a:=by
 have⟨x,l,e⟩:=e;have⟨f,e'⟩:=VD a;simp_all[m0]
def NF{r:ai}{k:Nat}{c a b:ai}(h:part r k=c)(d:c≠ .stuck)(e:∃x,pre c=x::(pre a++pre b)):part r (k+1+dD a)=b:=by
 have⟨x,e⟩:=e;have⟨f,e'⟩:=VD b;rw[wq];exact m0 h d (1+dD a) b (by rw[e,Nat.add_comm,jb,je (by rw[Im];exact qm _),Im,GU,e'];rfl)
def U(M:ak)(ctx:Ctx)(K:Kp)(X:Nat->WX):ai->Nat->WX
 | .skip,_,g,Q,E,D,H=>rO g Q .normal E D H
 | .label _,_,g,Q,E,D,H=>rO g Q .normal E D H
 | .exit id,_,g,Q,E,D,H=>rO g Q (.exit id) E D H
 | .goto l,_,g,Q,E,D,H=>rO g Q (.goto l) E D H
 | .ret,_,g,Q,E,D,H=>rO g Q .ret E D H
 | .stuck,_,_,_,_,_,_=>False
 | .region l,_,g,Q,E,D,H=>rM M K.dg Q E D l g H λ g L _ H=>rO g Q .normal (dL K.ah E L) D H
 | .seq a b,k,g,Q,E,D,H=>match a,b with
  | .region l,.cond c x y=>rM M K.dg Q E D l g H λ g L R H=>CV E L R c g λ g v=>nH g v (λ g=>(Ov (motive:=λ _=>WX) (U M ctx K X x (k+3)) (X (k+3)) (bH (k+3) K.named)) g Q (dL K.ah E L) D H) (λ g=>(Ov (motive:=λ _=>WX) (U M ctx K X y (k+3+dD x)) (X (k+3+dD x)) (bH (k+3+dD x) K.named)) g Q (dL K.ah E L) D H)
  | .region l,.seq (.cond c x y) r=>rM M K.dg Q E D l g H λ g L R H=>CV E L R c g λ g v=>nH g v (λ g=>(Ov (motive:=λ _=>WX) (U M ctx K X x (k+4)) (X (k+4)) (bH (k+4) K.named)) g (fm (Ov (motive:=λ _=>WX) (U M ctx K X r (k+4+dD x+dD y)) (X (k+4+dD x+dD y)) (bH (k+4+dD x+dD y) K.named)) Q) (dL K.ah E L) D H)
   (λ g=>(Ov (motive:=λ _=>WX) (U M ctx K X y (k+4+dD x)) (X (k+4+dD x)) (bH (k+4+dD x) K.named)) g (fm (Ov (motive:=λ _=>WX) (U M ctx K X r (k+4+dD x+dD y)) (X (k+4+dD x+dD y)) (bH (k+4+dD x+dD y) K.named)) Q) (dL K.ah E L) D H)
  | .region l,b=>rM M K.dg Q E D l g H λ g L _ H=>(Ov (motive:=λ _=>WX) (U M ctx K X b (k+2)) (X (k+2)) (bH (k+2) K.named)) g Q (dL K.ah E L) D H
  |a,b=>(Ov (motive:=λ _=>WX) (U M ctx K X a (k+1)) (X (k+1)) (bH (k+1) K.named)) g (fm (Ov (motive:=λ _=>WX) (U M ctx K X b (k+1+dD a)) (X (k+1+dD a)) (bH (k+1+dD a) K.named)) Q) E D H
 | .cond c x y,k,g,Q,E,D,H=>OV E c g λ g v=>nH g v (λ g=>(Ov (motive:=λ _=>WX) (U M ctx K X x (k+1)) (X (k+1)) (bH (k+1) K.named)) g Q E D H) (λ g=>(Ov (motive:=λ _=>WX) (U M ctx K X y (k+1+dD x)) (X (k+1+dD x)) (bH (k+1+dD x) K.named)) g Q E D H)
 | .block id b,k,g,Q,E,D,H=>(Ov (motive:=λ _=>WX) (U M ctx K X b (k+1)) (X (k+1)) (bH (k+1) K.named)) g (eY id Q) E D H
 | .scope b,k,g,Q,E,D,H=>(Ov (motive:=λ _=>WX) (U M ctx K X b (k+1)) (X (k+1)) (bH (k+1) K.named)) g (kJ b Q) E D H
 | .loop (B1 _) _,_,_,_,_,_,_=>False
 | .loop B5 b,k,g,Q,E,D,H=>cz (Ov (motive:=λ _=>WX) (U M ctx K X b (k+1)) (X (k+1)) (bH (k+1) K.named)) Q E D H
 | .rangeFunc f n,_,g,Q,E,D,H=>OV E f g λ g v=>iH M K.ah ctx n E D H Q v
def Yx(r:ai):∀(n:Nat)(c:ai),dD c<=n -> ∀k,part r k=c->U M ctx K (λ j=>W3 M ctx K (part r j)) c k=W3 M ctx K c:=by
 intro n
 induction n with
 |zero=>intro c p;cases c<;>simp[dD]at p
 |succ n ih =>
  intro c p k hk;have sub:∀(d:ai)(j:Nat),dD d<=n->part r j=d->Ov (motive:=λ _=>WX) (U M ctx K (λ j=>W3 M ctx K (part r j)) d j) (W3 M ctx K (part r j)) (bH j K.named)=W3 M ctx K d:=λ d j t u=>by
   cases bH j K.named with
   |true=>grind
   |false=>grind
  have pl:=@Iu r;have w:=@NF r;cases c with
  |seq a b =>
   have e:pre (.seq a b)=.seq a b::(pre a++pre b):=by simp[pre,pO]
   have ha:=Iu (b:=b) hk (by simp) ⟨_,_,e⟩;have hb:=NF hk (by simp) ⟨_,e⟩;have hs:dD a+dD b<=n:=by grind [dD]
   have gen:(Ov (motive:=λ _=>WX) (U M ctx K (λ j=>W3 M ctx K (part r j)) a (k+1)) (W3 M ctx K (part r (k+1))) (bH (k+1) K.named))=W3 M ctx K a/\(Ov (motive:=λ _=>WX) (U M ctx K (λ j=>W3 M ctx K (part r j)) b (k+1+dD a)) (W3 M ctx K (part r (k+1+dD a))) (bH (k+1+dD a) K.named))=W3 M ctx K b :=
    ⟨sub a _ (by omega) ha,sub b _ (by omega) hb⟩
   cases a with
   |region l =>
    have plain:(Ov (motive:=λ _=>WX) (U M ctx K (λ j=>W3 M ctx K (part r j)) b (k+2)) (W3 M ctx K (part r (k+2))) (bH (k+2) K.named))=W3 M ctx K b:=sub b _ (by omega) hb;cases b with
    |cond c x y =>
     have e2:pre (.cond c x y)=.cond c x y::(pre x++pre y):=by simp[pre,pO]
     have h:=Iu (b:=y) hb (by simp) ⟨_,_,e2⟩;have o:=NF hb (by simp) ⟨_,e2⟩;have m:dD x+dD y+1<=n:=by grind [dD]
     have s1:=sub x (k+3) (by omega) h;have s2:=sub y (k+3+dD x) (by omega) o;funext g Q E D H;simp only[U,W3,s1,s2]
    |seq b1 q =>
     cases b1 with
     |cond c x y =>
      have e1:pre (.seq (.cond c x y) q)=.seq (.cond c x y) q::(pre (.cond c x y)++pre q):=by simp[pre,pO]
      have e2:pre (.cond c x y)=.cond c x y::(pre x++pre y):=by simp[pre,pO]
      have f:=Iu (b:=q) hb (by simp) ⟨_,_,e1⟩;have s:=NF hb (by simp) ⟨_,e1⟩;have h:=Iu (b:=y) f (by simp) ⟨_,_,e2⟩;have o:=NF f (by simp) ⟨_,e2⟩;have m:dD x+dD y+1+dD q+1<=n:=by grind [dD]
      have s1:=sub x (k+4) (by omega) h;have s2:=sub y (k+4+dD x) (by omega) o;have z:=sub q (k+4+dD x+dD y) (by omega) (by rw[<-s];simp only[dD];congr 1;omega);simp_all[U,W3]
     |_=>simp_all[U,W3]
    |_=>simp_all[U,W3]
   |_=>funext g Q E D H;simp only[U,W3]at gen⊢;simp only[gen.1,gen.2]
  |cond c x y =>
   have e2:pre (.cond c x y)=.cond c x y::(pre x++pre y):=by simp[pre,pO]
   have h:=Iu (b:=y) hk (by simp) ⟨_,_,e2⟩;have o:=NF hk (by simp) ⟨_,e2⟩;have m:dD x+dD y<=n:=by grind [dD]
   have s1:=sub x (k+1) (by omega) h;have s2:=sub y (k+1+dD x) (by omega) o;simp_all[U,W3]
  |block i b =>
   have s1:=sub b (k+1) (by grind [dD]) (Iu (b:=b) hk (by simp) (by simp_all[pre]));simp_all[U,W3]
  |scope b =>
   have s1:=sub b (k+1) (by grind [dD]) (Iu (b:=b) hk (by simp) (by simp_all[pre]));simp_all[U,W3]
  |loop i b =>
   have s1:=sub b (k+1) (by grind [dD]) (Iu (b:=b) hk (by simp) (by simp_all[pre]));funext g Q E D H;cases i with
   |none=>grind [U,W3]
   |some _=>rfl
  |_=>funext g Q E D H;rfl
def QP:∃F:ak->Ctx->Kp×ai->WX,F=λ M ctx p=>W3 M ctx p.1 p.2:=⟨_,rfl⟩
def W:ak->Ctx->Kp×ai->WX:=Classical.choose QP
theorem lS(M:ak)(ctx:Ctx)(p:Kp×ai):W M ctx p=W3 M ctx p.1 p.2:=congrFun (congrFun (congrFun (Classical.choose_spec QP) M) ctx) p
def funcAt(P:Jv)(n:Nat):bZ:=R6 (motive:=λ _=>bZ) ⟨[],.stuck,[]⟩ (λ f=>f) ((aX P).func n)
def hJ(F:bZ)(i:Nat):dT:=R6 (motive:=λ _=>dT) ⟨[],.stuck,.stuck⟩ (λ l=>l) (nth F.loops i)
def Dj{M:ak}{ctx:Ctx}{K:Kp}{r:ai}{k:Nat}{g:Bool}{Q:aE}{E:Env}{D:List aK}{H:ar}{R:Prop}(h:U M ctx K (λ j=>W M ctx (K,part r j)) (part r k) k g Q E D H=R):W M ctx (K,part r k) g Q E D H=R:=by
 rw[<-h];have e:(λ j=>W M ctx (K,part r j))=λ j=>W3 M ctx K (part r j):=by grind [lS]
 rw[e,Yx (ctx:=ctx) (K:=K) r _ (part r k) (qm _) k rfl,lS]
abbrev uu:AV:=.undef
def TS(c:ai):part c 0=c:=xdw (E9 c)
def xhy{α β:Type}{a b:α}{x y:β}(h:(a,x)=(b,y)):a=b/\x=y:=by grind
def R3{M:ak}{f:Nat}{fn:bZ}(j:M.func f=B1 fn){ks:Kp}{vs:List AV}(hk:jZ 0 vs.length ks.ah=B4){H:ar}{Q:bI->ar->Prop}
 (h:W M ⟨B5,f⟩ (ks,part fn.body 0) B4 (eG M fn.results Q) (kG 0 vs) [] H):Ga M f vs H Q:=by
 rw[lS,TS]at h;refine q8o j (qF (W3.wp (fp fn.body) fn.body (qm _) (up:=B5) h (Vl hk)) λ e st⟨g,i,o,d⟩=>?_);have⟨tm,D,up,H'⟩:=st;have g:up=none:=g;subst g;have mono:∀{m:Option aG},oK M fn.results i Q D m H'->Ap M fn.results tm (λ e H=>(B5:Option aG)=B5/\Q e H) D m H':=λ{m}h=>by
  have l:oK M fn.results i (λ e H=>(B5:Option aG)=B5/\Q e H) D m H':=by
   grind
  grind [oK.TJ]
 cases e with
 |normal=>exact mono d
 |ret=>exact mono d
 |panic c=>exact mono d
 |exit _=>exact d.elim
 |goto _=>exact d.elim
section
variable(E:Env)(H:ar)(K:Bool->AV->Prop)(K2:Bool->AV->ar->Prop)(A B:Bool->Prop)
def Lz(E:Env)(n:Nat)(K:Bool->AV->Prop):Prop:=LK B4 (lk E n) K
def Ly(g:Bool)(E:Env)(n:Nat)(K:Bool->AV->Prop):Prop:=LK g (lk E n) K
def Fl(g:Bool)(i:Nat)(a:AV)(H:ar)(K:Bool->AV->Prop):Prop:=B3 g (Op.fieldAddr i [a]) λ g x=>B3 g (Op.ae [x] H) K
def Nf(g:Bool)(i:Nat)(a:AV)(H:ar)(K:Bool->AV->Prop):Prop:=B3 g (Op.nilCheck [a]) λ g x=>Fl g i x H K
def Fs(g:Bool)(i:Nat)(a b:AV)(H:ar)(K:Bool->AV->ar->Prop):Prop:=B3 g (Op.fieldAddr i [a]) λ g x=>jF g (Op.store 1 [x,b] H) K
def Ns(g:Bool)(i:Nat)(a b:AV)(H:ar)(K:Bool->AV->ar->Prop):Prop:=B3 g (Op.nilCheck [a]) λ g x=>Fs g i x b H K
def Xl(g:Bool)(a b:AV)(H:ar)(K:Bool->AV->Prop):Prop:=B3 g (Op.aQ 1 [a,b]) λ g x=>B3 g (Op.ae [x] H) K
def Xs(g:Bool)(a b c:AV)(H:ar)(K:Bool->AV->ar->Prop):Prop:=B3 g (Op.aQ 1 [a,b]) λ g x=>jF g (Op.store 1 [x,c] H) K
def Bn(g:Bool)(o:BinOp)(a b:AV)(K:Bool->AV->Prop):Prop:=B3 g (Op.bin o [a,b]) K
def Cb(g:Bool)(o:BinOp)(a b:AV)(A B:Bool->Prop):Prop:=B3 g (Op.bin o [a,b]) λ g v=>nH g v A B
def Gt(g:Bool)(M:ak)(c:Ctx)(p:Kp×ai)(Q:aE)(E:Env)(D:List aK)(H:ar):Prop:=rO g (fm (W M c p) Q) .normal E D H
def Zm(n:Nat):Lz E n K=LK B4 (lk E n) K:=propext kr
def VU(n:Nat):Ly B4 E n K=LK B4 (lk E n) K:=propext kr
def Vk(i:Nat)(a:AV):Fl B4 i a H K=B3 B4 (Op.fieldAddr i [a]) λ g x=>B3 g (Op.ae [x] H) K:=propext kr
def Y4(i:Nat)(a:AV):Nf B4 i a H K=B3 B4 (Op.nilCheck [a]) λ g x=>Fl g i x H K:=propext kr
def XZ(i:Nat)(a b:AV):Fs B4 i a b H K2=B3 B4 (Op.fieldAddr i [a]) λ g x=>jF g (Op.store 1 [x,b] H) K2:=propext kr
def Xi(i:Nat)(a b:AV):Ns B4 i a b H K2=B3 B4 (Op.nilCheck [a]) λ g x=>Fs g i x b H K2:=propext kr
def Vn(a b:AV):Xl B4 a b H K=B3 B4 (Op.aQ 1 [a,b]) λ g x=>B3 g (Op.ae [x] H) K:=propext kr
def WN(a b c:AV):Xs B4 a b c H K2=B3 B4 (Op.aQ 1 [a,b]) λ g x=>jF g (Op.store 1 [x,c] H) K2:=propext kr
def XJ(o:BinOp)(a b:AV):Bn B4 o a b K=B3 B4 (Op.bin o [a,b]) K:=propext kr
def Xa(o:BinOp)(a b:AV):Cb B4 o a b A B=B3 B4 (Op.bin o [a,b]) λ g v=>nH g v A B:=propext kr
def VK(M:ak)(c:Ctx)(p:Kp×ai)(Q:aE)(D:List aK):Gt B4 M c p Q E D H=rO B4 (fm (W M c p) Q) .normal E D H:=propext kr
end
end
end Go.Am
namespace Go.Am
end Go.Am
namespace Go.Am
section
variable{M:ak}{ctx:Ctx}{dg:Bool}{Q Q':aE}{E:Env}{D:List aK}
theorem Uo{α:Type}{m:Bool}{o:Option α}{K K':Bool -> α->Prop}(h:B3 m o K)(hk:∀a,K m a->K' m a):B3 m o K':=by
 cases o with
 |none=>exact h
 |some a=>exact hk a h
theorem ζ{α β:Type}{m:Bool}{o:Option (α×β)}{K K':Bool -> α -> β->Prop}(h:jF m o K)(hk:∀a b,K m a b->K' m a b):jF m o K':=by
 cases o with
 |none=>exact h
 |some a=>exact hk a.1 a.2 h
theorem va{α:Type}{m:Bool}{o:Option α}{K K':Bool -> α->Prop}(h:LK m o K)(hk:∀a,K m a->K' m a):LK m o K':=by
 cases o with
 |none=>exact h
 |some a=>exact hk a h
theorem xgy{m:Bool}{v:AV}{A B c d:Bool->Prop}(h:nH m v A B)(ha:A m->c m)(hb:B m->d m):nH m v c d:=by
 obtain⟨q,rfl,h⟩:=h.elim;cases q with
 |true=>exact ha h
 |false=>exact hb h
theorem UY{L R:Env}{t:Nat}{g:Bool}{K K':Bool->Env->AV->Prop}(h:TV E L R t g K)(hk:∀R v,K g R v->K' g R v):TV E L R t g K':=by
 unfold TV at h⊢;cases hl:lk L t with
 |some v=>simp_all
 |none =>
  rw[hl]at h;cases c:lk R t with
  |some v=>simp_all
  |none=>rw[c]at h;grind [va]
def _7{x:bL}{g:Bool}{K K':Bool->AV->Prop}(h:OV E x g K)(hk:∀v,K g v->K' g v):OV E x g K':=by
 cases x with
 |tmp t=>grind [OV,va]
 |const v=>exact hk _ h
 |eL b=>exact hk _ h
 |func f=>exact hk _ h
theorem GZ{L R:Env}{x:bL}{g:Bool}{K K':Bool->AV->Prop}(h:CV E L R x g K)(hk:∀v,K g v->K' g v):CV E L R x g K':=by
 cases x with
 |tmp t=>grind [CV,UY]
 |const v=>exact hk _ h
 |eL b=>exact hk _ h
 |func f=>exact hk _ h
def QM{L:Env}{g:Bool}:∀{l:List bL}{R:Env}{K K':Bool->Env->List AV->Prop},zQ E L l g R K->(∀R vs,K g R vs->K' g R vs)->zQ E L l g R K'
 |[],R,K,K',h,hk=>hk _ _ h
 | .tmp t::xs,R,K,K',h,hk=>UY (K:=λ g R v=>zQ E L xs g R λ g R vs=>K g R (v::vs)) (K':=λ g R v=>zQ E L xs g R λ g R vs=>K' g R (v::vs)) h λ R v q=>QM (K:=λ g R vs=>K g R (v::vs)) (K':=λ g R vs=>K' g R (v::vs)) q λ R vs=>hk _ _
 | .const v::xs,R,K,K',h,hk=>QM (l:=xs) (K:=λ g R vs=>K g R (v::vs)) (K':=λ g R vs=>K' g R (v::vs)) h λ R vs=>hk _ _
 | .eL v::xs,R,K,K',h,hk=>QM (l:=xs) (K:=λ g R vs=>K g R (.ptr v 0::vs)) (K':=λ g R vs=>K' g R (.ptr v 0::vs)) h λ R vs=>hk _ _
 | .func v::xs,R,K,K',h,hk=>QM (l:=xs) (K:=λ g R vs=>K g R (.fn (.func v) [] []::vs)) (K':=λ g R vs=>K' g R (.fn (.func v) [] []::vs)) h λ R vs=>hk _ _
theorem xk1(f:∀e E D H,Q e E D H->Q' e E D H){d:Option (List Nat)}{ks:List Nat}{c:aG}{H:ar}(h:PX d ks Q E D c H):PX d ks Q' E D c H:=by
 cases d with
 |none=>exact h
 |some _=>exact f _ _ _ _ h
theorem Wm(j:∀e E D H,Q e E D H->Q' e E D H){i:Option (List Nat)}{L:Env}{g:Bool}{f:mF}{vs:List AV}{H:ar}{K K':Bool->AV->ar->Prop}(h:FY M dg i L Q E D g f vs H K)(hk:∀v H,K g v H->K' g v H):FY M dg i L Q' E D g f vs H K':=by
 cases dg with
 |false=>obtain⟨v,H',c,d⟩:=h;exact⟨v,H',c,hk _ _ d⟩
 |true =>
  obtain⟨e,H',c,d⟩:=h;refine⟨e,H',c,?_⟩
  grind [xk1]
def ET(i:∀e E D H,Q e E D H->Q' e E D H){s:aP}{K K':KR}{g:Bool}{L R:Env}{H:ar}(h:G7 M dg s Q E D K g L R H)(hk:∀L R H,K g L R H->K' g L R H):G7 M dg s Q' E D K' g L R H:=by
 refine QM (show zQ E L s.args g R _ from h) λ R vs h=>?_;obtain⟨iv,dst,guard,args,op,c⟩:=s;cases iv with
 |true =>
  have h:Sx dst E L R H K g vs op:=h;show Sx dst E L R H K' g vs op;cases op with
  |read f =>
   cases dst with
   |none=>exact h
   |some d=>exact⟨h.1,hk _ _ _ h.2⟩
  |_=>exact h
 |false =>
  have h:wD M dg dst c Q E D L R H K g vs op:=h;show wD M dg dst c Q' E D L R H K' g vs op;cases op with
  |pure f=>grind [wD,Uo]
  |read f=>grind [wD,Uo]
  |alloc f=>grind [wD,ζ]
  |gU f=>grind [wD,ζ]
  |iq f=>exact Wm i h λ v H=>hk _ _ _
  |ic =>
   simp only[wD,V3]at h⊢
   grind [Wm]
  |invoke n =>
   simp only[wD,N3]at h⊢;split at h
   .grind [Uo,Wm]
   omega
  |recover=>exact h
  |defer=>exact h
  |panic =>
   cases dg with
   |false=>exact h
   |true =>
    have h:gE vs H (PX c (mj L) Q E D):=h;show gE vs H (PX c (mj L) Q' E D);unfold gE at h⊢
    grind [xk1]
def Xw(c:∀e E D H,Q e E D H->Q' e E D H){K K':KR}{g:Bool}(hk:∀L R H,K g L R H->K' g L R H):∀{l:List aP}{L R:Env}{H:ar},pV M dg Q E D K l g L R H->pV M dg Q' E D K' l g L R H
 |[],L,R,H,h=>hk _ _ _ h
 |s::l,L,R,H,h=>ET c (by simp_all[pV]) λ L R H=>Xw c hk
theorem YO:∀(n:Nat){f f':List AV->ar->Prop},(∀vs H,f vs H->f' vs H) -> ∀(l:List AV)(H:ar),p5 n (rR n f) l H->p5 n (rR n f') l H
 |0,f,f',hf,l,H,h=>hf [] H h
 |n+1,f,f',hf,[],H,h=>h
 |n+1,f,f',hf,v::l,H,h=>YO n (f:=λ l=>f (v::l)) (f':=λ l=>f' (v::l)) (by grind) l H h
def ae5(f:∀e E D H,Q e E D H->Q' e E D H){x:Gi}{K K':KR}{g:Bool}(hk:∀L R H,K g L R H->K' g L R H){L R:Env}{H:ar}(h:Tv M dg Q E D x K g L R H):Tv M dg Q' E D x K' g L R H:=by
 obtain⟨q,l⟩:=x;cases q with
 |none=>exact Xw f hk (show pV M dg Q E D K l g L R H from h)
 |some q =>
  cases ho:vU q.1 l with
  |false =>
   have h:cond (vU q.1 l) _ False:=h
   grind
  |true =>
   have h:cond (vU q.1 l) _ False:=h;rw[ho,xu]at h;show cond (vU q.1 l) _ False;rw[ho,xu];refine UY h λ c v h=>?_;have h:B3 g (cT q.2 (B1 v)) λ g w=>xB g w (λ g=>pV M dg Q E D (λ g d _ H=>p5 (cQ (bq l [])) (rR (cQ (bq l [])) λ vs H=>K g (lI (bq l []) L vs) c H) (rh (cQ (bq l [])) d) H) l g L c H)
    (λ g=>p5 (cQ (bq l [])) (rR (cQ (bq l [])) λ vs H=>K g (lI (bq l []) L vs) c H) (sE (cQ (bq l []))) H):=h
   refine Uo (K':=λ g w=>xB g w (λ g=>pV M dg Q' E D (λ g d _ H=>p5 (cQ (bq l [])) (rR (cQ (bq l [])) λ vs H=>K' g (lI (bq l []) L vs) c H) (rh (cQ (bq l [])) d) H) l g L c H)
    (λ g=>p5 (cQ (bq l [])) (rR (cQ (bq l [])) λ vs H=>K' g (lI (bq l []) L vs) c H) (sE (cQ (bq l []))) H)) h λ w h=>?_
   cases w with
   |true=>exact Xw f (by grind [YO]) (show pV M dg Q E D _ l g L c H from h)
   |false=>exact YO _ (by grind) _ _ h
theorem Tt(c:∀e E D H,Q e E D H->Q' e E D H){l:List aP}{K K':KR}{g:Bool}(hk:∀L R H,K g L R H->K' g L R H){H:ar}(h:rM M dg Q E D l g H K):rM M dg Q' E D l g H K':=by
 unfold rM at h⊢;generalize JB l=gs at h⊢;generalize([]:Env)=L at h⊢;have key:∀(gs:List Gi)(L R:Env)(H:ar),zK M dg Q E D K gs g L R H->zK M dg Q' E D K' gs g L R H:=by
  intro gs
  induction gs with
  |nil=>exact λ L R H h=>hk _ _ _ h
  |cons x gs ih=>exact λ L R H h=>ae5 c ih (by simp_all[zK])
 grind
def G3{K:Kp}:∀(n:Nat)(c:ai),fp c<=n -> ∀{g:Bool}{Q Q':aE}{E:Env}{D:List aK}{H:ar},(∀e E D H,Q e E D H->Q' e E D H)->W3 M ctx K c g Q E D H->W3 M ctx K c g Q' E D H:=by
 intro n
 induction n with
 |zero =>
  intro c s g Q Q' E D H d h;cases c with
  |region l=>exact Tt d (λ L R H h=>d _ _ _ _ h) h
  |rangeFunc f k =>
   have h:OV E f g λ g v=>iH M K.ah ctx k E D H Q v:=h;show OV E f g λ g v=>iH M K.ah ctx k E D H Q' v;have key:∀v,iH M K.ah ctx k E D H Q v->iH M K.ah ctx k E D H Q' v:=λ v h tm up he=>by
    have:=h tm up he;unfold JI at this⊢;split
    .grind [Ps]
    grind [FT,Ps]
   exact _7 h key
  |skip=>exact d _ _ _ _ h
  |label _=>exact d _ _ _ _ h
  |exit _=>exact d _ _ _ _ h
  |goto _=>exact d _ _ _ _ h
  |ret=>exact d _ _ _ _ h
  |stuck=>exact h
  |seq _ _=>grind [fp]
  |cond _ _ _=>grind [fp]
  |block _ _=>grind [fp]
  |loop _ _=>grind [fp]
  |scope _=>grind [fp]
 |succ n ih =>
  intro c s g Q Q' E D H d h;have u:∀{b:ai},fp b<=n -> ∀e E D H,fm (W3 M ctx K b) Q e E D H->fm (W3 M ctx K b) Q' e E D H:=λ hb e E D H h=>by
   cases e with
   |normal=>exact ih _ hb d h
   |_=>exact d _ _ _ _ h
  cases c with
  |seq a b =>
   have m:fp a+fp b<=n:=by grind [fp]
   have gen:W3 M ctx K a g (fm (W3 M ctx K b) Q) E D H->W3 M ctx K a g (fm (W3 M ctx K b) Q') E D H:=λ h=>(by grind)
   cases a with
   |region l =>
    have plain:(rM M K.dg Q E D l g H λ g L _ H=>W3 M ctx K b g Q (dL K.ah E L) D H)->rM M K.dg Q' E D l g H λ g L _ H=>W3 M ctx K b g Q' (dL K.ah E L) D H:=λ h=>(by grind [Tt])
    have cv:∀{L R:Env}{c:bL}{A B i j:Bool->Prop},CV E L R c g (λ g v=>nH g v A B)->(A g->i g)->(B g->j g)->CV E L R c g (λ g v=>nH g v i j):=λ{L R c A B i j}h ha hb=>by
     grind [GZ,xgy]
    cases b with
    |cond c x y =>
     have o:fp x+fp y+1<=n:=by grind [fp]
     exact Tt d (λ L R H h=>cv h (by grind) (by grind)) h
    |seq b1 r =>
     cases b1 with
     |cond c x y =>
      have o:fp x+fp y+1+fp r+1<=n:=by grind [fp]
      exact Tt d (λ L R H h=>cv h (by grind) (by grind)) h
     |_=>exact plain h
    |_=>exact plain h
   |_=>exact gen h
  |cond c x y =>
   have m:fp x+fp y<=n:=by grind [fp]
   have h:OV E c g λ g v=>nH g v (λ g=>W3 M ctx K x g Q E D H) (λ g=>W3 M ctx K y g Q E D H):=h;exact _7 (K':=λ g v=>nH g v (λ g=>W3 M ctx K x g Q' E D H) (λ g=>W3 M ctx K y g Q' E D H)) h λ v h=>xgy h (by grind) (by grind)
  |block id b =>
   have hb:fp b<=n:=by grind [fp]
   exact ih b hb (λ e E D H h=>by cases e<;>exact d _ _ _ _ h) h
  |scope b =>
   have hb:fp b<=n:=by grind [fp]
   exact ih b hb (λ e E D H h=>by cases e<;>first|exact d _ _ _ _ h|exact⟨h.1,d _ _ _ _ h.2⟩) h
  |loop ah b =>
   have hb:fp b<=n:=by grind [fp]
   cases ah with
   |some _=>exact h
   |none =>
    obtain⟨I,p,q⟩:=h;exact⟨I,p,λ n E D H t=>ih b hb (λ e E D H h=>by cases e<;>first|exact h|exact d _ _ _ _ h) (q n E D H t)⟩
  |_=>exact ih _ (xx _) d h
end
def W.mono{M:ak}{ctx:Ctx}{p:Kp×ai}{g:Bool}{Q Q':aE}{E:Env}{D:List aK}{H:ar}(h:W M ctx p g Q E D H)(c:∀e E D H,Q e E D H->Q' e E D H):W M ctx p g Q' E D H:=by
 rw[lS]at h⊢;exact G3 _ p.2 (qm _) c h
end Go.Am
namespace Go.Am
universe u
noncomputable section
variable(X:WX)(Q:aE)(E:Env)(D:List aK)(H:ar)(I:Li)(n:Nat)
def xey:fm X Q .normal E D H=X B4 Q E D H:=propext kr
def ah4:fm X Q .ret E D H=Q .ret E D H:=propext kr
def xk2(l:Nat):fm X Q (.exit l) E D H=Q (.exit l) E D H:=propext kr
def xk3(l:Nat):fm X Q (.goto l) E D H=Q (.goto l) E D H:=propext kr
def xir(c:aG):fm X Q (.panic c) E D H=Q (.panic c) E D H:=propext kr
def xer(i:Nat):eY i Q .normal E D H=Q .normal E D H:=propext kr
def Fj(i:Nat):eY i Q .ret E D H=Q .ret E D H:=propext kr
def xkp(i l:Nat):eY i Q (.goto l) E D H=Q (.goto l) E D H:=propext kr
def xid(i:Nat)(c:aG):eY i Q (.panic c) E D H=Q (.panic c) E D H:=propext kr
def xko(i l:Nat):eY i Q (.exit l) E D H=if i=l then Q .normal E D H else Q (.exit l) E D H:=by
 show Q (cond (JW i l) .normal (.exit l)) E D H=_
 by_cases h:i=l
 .simp_all
 simp_all[FM]
section
variable(M:ak)(rs:List d9)(Q:bI->ar->Prop)(P:List AV->Prop)(R:AV->ar->Prop)
def af6:eG M rs Q .ret E [] H=jG E H rs λ l=>Q (.ret (jB l)) H:=propext kr
def xew:eG M rs Q .normal E [] H=jG E H rs λ l=>Q (.ret (jB l)) H:=propext kr
def xij(c:aG):eG M rs Q (.panic c) E [] H=Q (.panic c) H:=propext kr
def xii(b:Nat):eG M rs Q .ret E (.iy b::D) H=(H.get b=B1 (.deferred (B1 []))/\eG M rs Q .ret E D (H.set b (.deferred B5))):=propext kr
def Fp:jG E H [] P=P []:=propext kr
def af1(t:Nat):jG E H (.tmp t::rs) P=LK B4 (lk E t) λ _ v=>jG E H rs λ vs=>P (v::vs):=propext kr
def xip(t:Nat):jG E H (.kY t::rs) P=LK B4 (lk E t) λ _ v=>B3 B4 (Op.ae [v] H) λ _ v=>jG E H rs λ vs=>P (v::vs):=propext kr
def xiq(n t:Nat):jG E H (.cV n t::rs) P=LK B4 (lk E t) λ _ v=>B3 B4 (Op.aq n [v] H) λ _ v=>jG E H rs λ vs=>P (v::vs):=propext kr
def Ic(v:AV):uZ R (.ret v) H=R v H:=propext kr
end
def JA:((0:Nat):Int)=0:=rfl
theorem zt(l:List AV):AV.cells (.agg l)=l:=rfl
def xlr(k:PJ)(n:Int):AV.cells (.int k n)=[.int k n]:=rfl
def xi1(b:Bool):AV.cells (.bool b)=[.bool b]:=rfl
def xlu(s:List UInt8):AV.cells (.str s)=[.str s]:=rfl
def xlt(b o:Nat):AV.cells (.ptr b o)=[.ptr b o]:=rfl
def NH(I:Nat->Env->ar->Prop)(D:List aK)(n:Nat)(Q:aE):aE:=λ e E D' H=>match e with
 | .normal=>D'=D /\ ∃m E',I m E' H/\uE E' E/\m<n
 |e=>Q e E D' H
theorem cz.intro{M:ak}{ctx:Ctx}{p:Kp×ai}{Q:aE}{E:Env}{D:List aK}{H:ar}(I:Nat->Env->ar->Prop)(j:∃n d,I n d H/\uE d E)(h:∀n E H,I n E H->W M ctx p B4 (NH I D n Q) E D H):cz (W M ctx p) Q E D H:=by
 obtain⟨n,d,l,o⟩:=j;refine⟨λ n E D' H=>D'=D/\I n E H,⟨n,d,⟨rfl,l⟩,o.ss⟩,λ n E D' H⟨e,r⟩=>?_⟩;subst e;refine W.mono (h n E H r) λ e E g H f=>?_;cases e with
 |normal=>obtain⟨q,m,i,a,b,c⟩:=f;exact⟨m,i,⟨q,a⟩,b.ss,c⟩
 |_=>exact f
def Px(P:Env->List aK->ar->Prop)(Q:aE):aE:=λ e E D H=>match e with
 | .normal=>P E D H
 |e=>Q e E D H
def xil(P:Env->List aK->ar->Prop)(Q:aE)(E:Env)(D:List aK)(H:ar):Px P Q .normal E D H=P E D H:=propext kr
def Iv(P:Env->List aK->ar->Prop)(Q:aE)(E:Env)(D:List aK)(H:ar):Px P Q .ret E D H=Q .ret E D H:=propext kr
def Fk(P:Env->List aK->ar->Prop)(Q:aE)(E:Env)(D:List aK)(H:ar)(l:Nat):Px P Q (.exit l) E D H=Q (.exit l) E D H:=propext kr
def LN(X:WX)(Q:aE):Nat->Env->List aK->ar->Prop
 |0,_,_,_=>False
 |n+1,E,D,H=>X B4 (Px (LN X Q n) Q) E D H
def G5(X:WX)(Q:aE)(n:Nat)(E:Env)(D:List aK)(H:ar):LN X Q (n+1) E D H=X B4 (Px (LN X Q n) Q) E D H:=propext kr
def xim(I:Nat->Env->ar->Prop)(D:List aK)(n:Nat)(Q:aE)(E:Env)(H:ar):NH I D n Q .normal E D H = ∃m c,I m c H/\uE c E/\m<n:=propext ⟨λ h=>h.2,λ h=>⟨rfl,h⟩⟩
def ID(I:Nat->Env->ar->Prop)(D D':List aK)(n:Nat)(Q:aE)(E:Env)(H:ar):NH I D n Q .ret E D' H=Q .ret E D' H:=propext kr
def Fh(I:Nat->Env->ar->Prop)(D D':List aK)(n:Nat)(Q:aE)(E:Env)(H:ar)(l:Nat):NH I D n Q (.exit l) E D' H=Q (.exit l) E D' H:=propext kr
def Da(I:Nat->Env->ar->Prop)(D D':List aK)(n:Nat)(Q:aE)(E:Env)(H:ar)(l:Nat):NH I D n Q (.goto l) E D' H=Q (.goto l) E D' H:=propext kr
def xky(I:Nat->Env->ar->Prop)(D D':List aK)(n:Nat)(Q:aE)(E:Env)(H:ar)(c:aG):NH I D n Q (.panic c) E D' H=Q (.panic c) E D' H:=propext kr
def sw{α:Sort u}(b:Bool)(x y:α):α:=cond b x y
@[congr]def ac5{α:Sort u}{b c:Bool}{x y:α}(h:b=c):sw b x y=sw c x y:=by rw[h]
def Qs{α:Sort u}(x y:α):sw B4 x y=x:=rfl
def Qj{α:Sort u}(x y:α):sw B2 x y=y:=rfl
def Jc{α:Sort u}(p:Prop)[Decidable p](x y:α):(if p then x else y)=sw (decide p) x y:=by grind [sw]
def Sa(k t:Nat)(v:AV)(E:Env):lk ((k,v)::E) t=sw (decide (k=t)) (B1 v) (lk E t):=(xG ..).trans (Jc ..)
def IJ(Q:aE)(E:Env)(D:List aK)(H:ar)(i l:Nat):eY i Q (.exit l) E D H=sw (decide (i=l)) (Q .normal E D H) (Q (.exit l) E D H):=(xko ..).trans (Jc ..)
def Yt(α:Type)(h:Decidable True)(x y:α):@ite α True h x y=x:=xg trivial
def YF(α:Type)(h:Decidable False)(x y:α):@ite α False h x y=y:=qy id
def OO(h:Decidable True)(x y:Prop):@ite Prop True h x y=x:=xg trivial
def Qg(h:Decidable False)(x y:Prop):@ite Prop False h x y=y:=qy id
def O6:=II @Hl<|II @IV<|II @ad5<|II DW<|II xkv<|II ah0<|II xkw<|II ae0<|II Pn<|II @J4<|II Et <|
 II Iy<|II Er<|II ag2<|II Sa<|II D5<|II af5<|II HF <|
 II xey<|II ah4<|II xk2<|II xk3<|II xir<|II xer<|II Fj<|II xkp<|II xid<|II IJ <|
 II xil<|II Iv<|II Fk<|II G5<|II xim<|II ID<|II Fh<|II Da<|II xky<|II af6<|II xew<|II xij<|II Fp<|II af1<|II xip<|II xiq <|
 II Ic<|II Zm<|II VU<|II Vk<|II Y4<|II XZ<|II Xi<|II Vn<|II WN<|II XJ<|II Xa<|II VK<|II ZP<|II Yp WI
def Qd:=II Yt<|II YF<|II OO<|II Qg<|II @Qs.{1}<|II @Qj.{1}<|II @Qs.{0}<|II @Qj.{0}<|II LO<|II MM<|II @PT<|II @Q9<|II @RI<|II @OT<|II @Qe<|II @QV<|II @Rx<|II @OY<|II @QO<|II @MA<|II OZ <|
 II KD<|II KT<|II Dx<|II Fb<|II xna<|II xf9<|II FC<|II MY<|II GF<|II GR<|II Pc <|
 II zt<|II xlr<|II xi1<|II xlu<|II xlt<|II @decide_true<|II @J5<|II Bool.not_true<|II Bool.not_false<|II not_true_eq_false<|II not_false_eq_true<|II @ne_eq.{1}<|II Gn<|II uw<|II false_and<|II and_false <|
 II @xu.{1}<|II @zp.{1}<|II @qr.{0,0}<|II vx<|II yf<|II @zo.{0}<|II @jb.{0}<|II @jp.{0} @JL.{0}
def O3:type_of% JA/\type_of% O6/\type_of% Qd:=⟨JA,O6,Qd⟩
section
variable{α:Type}{enc:α->List AV}{e size:Nat}{H0 H H':ar}{v:AV}{xs:List α}
def ue.to3{α β:Type}{m g:Bool}{o:Option (α×β)}{K:Bool -> α -> β->Prop}(h:ue m o λ _ a b=>K g a b):jF g o K:=by
 cases o with
 |none=>exact Nn h
 |some a=>exact h
def Tl{H:ar}{e size bytes:Nat}{v:AV}{n:Nat}{cells:List AV}(h:Own H e size v n cells){x:AV}{k:Nat}{new:List AV}(i:Sl H size x k new)(d:aN new=B4)(hs:0<size)
 (g:(n+k)*bytes<=140737488355328) (f:n+k<=140737488355328) {K:Bool->AV->ar->Prop} {m:Bool}
 (hk:∀c H',Own H' e size c (n+k) (cells++new)->Fr (aM v) H H'->(∀b,aM c b->aM v b\/H.au<=b)->K m c H'):jF m (Op.append e size bytes [v,x] H) K :=
 ue.to3 (m:=m) (by grind [_b])
def nK{H:ar}{e size bytes:Nat}{v:AV}{n:Nat}{cells:List AV}(h:Own H e size v n cells){zero:List AV}{x:AV}(q:zero.length=size)(p:x.cells.length=size)(c:aN x.cells=B4)(hs:0<size)
 (l:(n+1)*bytes<=140737488355328) (d:n+1<=140737488355328) {K:bE->(Nat->AV)->Bool->AV->ar->Prop} {m:Bool}
 (hk:∀f H',Own H' e size f (n+1) (cells++x.cells)->Fr (aM v) H H'->(∀b,aM f b->aM v b\/H.au<=b)->K (.row x.cells e (0,0) B4) (Op.sliceTo 1 1) m f H') :
 jF m (Op.buildSlice e 1 zero [(0,size)] [x]) λ g o mk=>jF g (Op.append e size bytes [v,mk H.au] (H.alloc o)) (K o mk):=by
 have:=IC (m:=m) h q p c hs l d (K:=λ o mk _ v H=>K o mk m v H) hk;obtain⟨o,mk,i,j⟩:∃o mk,Op.buildSlice e 1 zero [(0,size)] [x]=B1 (o,mk)/\ue B4 (Op.append e size bytes [v,mk H.au] (H.alloc o)) (λ _ v H=>K o mk m v H):=by
  unfold ue at this;split at this
  .rename_i a ha;exact⟨a.1,a.2,ha,this⟩
  grind
 refine jF.intro i ?_;unfold ue at j
 grind [jF.intro]
end
end
def qt(b o:Nat):Op.nilCheck [.ptr b o]=B1 (.ptr b o):=rfl
def xj(i:Nat)(l:List AV):Op.extract i [.tuple l]=l[i]?:=xm8 i l
end Go.Am
namespace Go.Am
def J1:List bL->Option Nat
 |[.tmp t]=>B1 t
 |_=>B5
def Lq(s:aP):Option Nat:=match s.op,s.iv,s.guard,s.dst with
 | .defer,B2,B5,B5=>J1 s.args
 |_,_,_,_=>B5
def GN:List aP->Option (List aP×Nat×List aP)
 |[]=>B5
 |s::r=>match Lq s with
  |some t=>B1 ([],t,r)
  |none=>(GN r).map λ q=>(s::q.1,q.2.1,q.2.2)
def sk:ai->Option (ai×Nat×ai)
 | .region l=>(GN l).map λ q=>(.region q.1,q.2.1,.region q.2.2)
 | .seq a b=>match sk a with
  |some q=>B1 (q.1,q.2.1,.seq q.2.2 b)
  |none=>(sk b).map λ q=>(.seq a q.1,q.2.1,q.2.2)
 |_=>B5
noncomputable def Ab(c:ai):ai:=R6 (motive:=λ _=>ai) .stuck (λ q=>q.1) (sk c)
noncomputable def wX(c:ai):ai:=R6 (motive:=λ _=>ai) .stuck (λ q=>q.2.2) (sk c)
section
variable{M:ak}{ctx:Ctx}
def DX(W:St->cN->Prop)(t:Nat)(st:St)(Q:cN):Prop:=∃g first cap,st.tm.get t=B1 (.fn (.func g) first cap)/\W ⟨st.tm,.fn (.func g) (first++cap)::st.aZ,st.up,st.H⟩ Q
def EE{s:aP}{st:St}{Q Q':cN}{K:St->Prop}(h:∀c st,Q (.panic c) st=Q' (.panic c) st):rj M ctx s st Q K=rj M ctx s st Q' K:=by
 have e:∀d tm aZ up,AY d tm aZ up Q=AY d tm aZ up Q':=λ d tm aZ up=>by
  funext c H;cases d with
  |none=>rfl
  |some ds=>exact h _ _
 simp_all[qC,rj]
def F_(hr:ctx.round=B5):∀{l l1 l2:List aP}{t:Nat},GN l=B1 (l1,t,l2) -> ∀{st:St}{Q:cN},oP M ctx l1 st (BL (DX (oP M ctx l2) t) Q)->oP M ctx l st Q
 |s::r,l1,l2,t,h,st,Q,w=>by
  unfold GN at h;cases c:Lq s with
  |some t' =>
   rw[c]at h;injection h with h;injection h with i h;injection h with j p
   subst i;subst j;subst p;have⟨iv,dst,guard,args,op,x⟩:=s;unfold Lq at c;split at c
   .rename_i e1 e2 f o;subst e1;subst e2;subst f;subst o;unfold J1 at c;split at c
    .rename_i e;simp only at e;subst e;cases c;have⟨g,first,cap,i,j⟩:=w;exact bQ.intro (m:=aI) i ⟨hr,j⟩
    grind
   grind
  |none =>
   rw[c]at h;have⟨q,u,e⟩:=xt.1 h;injection e with e1 e;injection e with e2 f
   subst e1;subst e2;subst f;have w:rj M ctx s st (BL (DX (oP M ctx q.2.2) q.2.1) Q) λ d=>oP M ctx q.1 d (BL (DX (oP M ctx q.2.2) q.2.1) Q):=w;rw[EE (Q:=BL (DX (oP M ctx q.2.2) q.2.1) Q) (Q':=Q) (λ _ _=>rfl)]at w;exact I_ w (by grind) λ d h=>F_ hr u h
def hT(hr:ctx.round=B5):∀{c x y:ai}{t:Nat},sk c=B1 (x,t,y) -> ∀{st:St}{Q:cN},WP M ctx x st (BL (DX (WP M ctx y) t) Q)->WP M ctx c st Q
 | .region l,x,y,t,h,st,Q,w=>by
  unfold sk at h;have⟨q,f,e⟩:=xt.1 h;injection e with e1 e;injection e with e2 d
  subst e1;subst e2;subst d;exact F_ hr f w
 | .seq a b,x,y,t,h,st,Q,w=>by
  unfold sk at h;cases ha:sk a with
  |some q =>
   rw[ha]at h;injection h with h;injection h with i h;injection h with j m
   subst i;subst j;subst m;refine hT hr (c:=a) ha (qF w λ e g h=>?_);cases e with
   |normal=>exact h
   |_=>exact h
  |none =>
   rw[ha]at h;have⟨q,f,e⟩:=xt.1 h;injection e with e1 e;injection e with e2 d
   subst e1;subst e2;subst d;show WP M ctx a st (BL (WP M ctx b) Q);refine qF (show WP M ctx a st (BL (WP M ctx q.1) (BL (DX (WP M ctx q.2.2) q.2.1) Q))from w) λ e g h=>?_;cases e with
   |normal=>exact hT hr (c:=b) f h
   |_=>exact h
end
def Bo(M:ak)(ctx:Ctx)(p:Kp×ai)(t:Nat)(Q:aE):aE:=λ e E D H=>match e with
 | .normal=>LK B4 (lk E t) λ _ v=>∃g first cap,v=.fn (.func g) first cap/\W M ctx p B4 Q E (.fn (.func g) (first++cap)::D) H
 |e=>Q e E D H
def xeu{M:ak}{ctx:Ctx}{p:Kp×ai}{t:Nat}{Q:aE}{E:Env}{D:List aK}{H:ar}:Bo M ctx p t Q .normal E D H=LK B4 (lk E t) λ _ v=>∃g first cap,v=.fn (.func g) first cap/\W M ctx p B4 Q E (.fn (.func g) (first++cap)::D) H:=rfl
def _m{M:ak}{ctx:Ctx}{p:Kp×ai}{t:Nat}{Q:aE}{E:Env}{D:List aK}{H:ar}:Bo M ctx p t Q .ret E D H=Q .ret E D H:=rfl
def Om{M:ak}{rs:List d9}{ks:List Nat}{Q:bI->ar->Prop}{up:Option aG}{e:aW}{st:St}(h:QQ ks (eG M rs Q) up e st):Yu M rs (λ e u H=>u=up/\Q e H) e st:=by
 have⟨f,g,i,d⟩:=h;have⟨tm,D,u,H'⟩:=st;have f:u=up:=f;subst f;have mono:∀{m:Option aG},oK M rs g Q D m H'->Ap M rs tm (λ e H=>u=u/\Q e H) D m H':=λ{m}h=>by
  grind [oK.TJ]
 cases e with
 |normal=>exact mono d
 |ret=>exact mono d
 |panic c=>exact mono d
 |exit _=>exact d.elim
 |goto _=>exact d.elim
def Ib{M:ak}{f:Nat}{fn:bZ}(u:M.func f=B1 fn){p ky:Kp}(hk:p.ah=ky.ah){t:Nat}(s:sk fn.body=B1 (Ab fn.body,t,wX fn.body)){vs:List AV}(r:jZ 0 vs.length p.ah=B4){H:ar}{Q:bI->ar->Prop}
 (h:W M ⟨B5,f⟩ (p,part (Ab fn.body) 0) B4 (Bo M ⟨B5,f⟩ (ky,part (wX fn.body) 0) t (eG M fn.results Q)) (kG 0 vs) [] H):Ga M f vs H Q:=by
 rw[lS,TS]at h;refine q8o u (hT rfl s (qF (W3.wp (fp (Ab fn.body)) _ (qm _) (up:=B5) h (Vl r)) λ e st h=>?_));cases e with
 |normal =>
  have⟨d,i,j,l⟩:=h;have⟨tm,D,up,H'⟩:=st;have d:up=none:=d;subst d;obtain⟨v,w,g,first,cap,rfl,q⟩:=LK.elim (m:=B4) (o:=lk i t) (K:=λ _ v=>∃g first cap,v=.fn (.func g) first cap/\W M ⟨B5,f⟩ (ky,part (wX fn.body) 0) B4 (eG M fn.results Q) i (.fn (.func g) (first++cap)::D) H') l;rw[lS,TS]at q;exact⟨g,first,cap,(j t _ w).1,qF (W3.wp (fp (wX fn.body)) _ (qm _) (up:=B5) q (hk▸j)) λ e st h=>Om h⟩
 |ret=>have⟨d,i,j,l⟩:=h;exact Om (e:=aW.ret) (rs:=fn.results) (ks:=p.ah) (Q:=Q) (up:=B5) ⟨d,i,j,l⟩
 |panic c=>have⟨d,i,j,l⟩:=h;exact Om (e:=aW.panic c) (rs:=fn.results) (ks:=p.ah) (Q:=Q) (up:=B5) ⟨d,i,j,l⟩
 |exit k=>obtain⟨d,i,j,l⟩:=h;exact Om (M:=M) (e:=aW.exit k) (rs:=fn.results) (ks:=p.ah) (Q:=Q) (up:=B5) ⟨d,i,j,l⟩
 |goto k=>obtain⟨d,i,j,l⟩:=h;exact Om (M:=M) (e:=aW.goto k) (rs:=fn.results) (ks:=p.ah) (Q:=Q) (up:=B5) ⟨d,i,j,l⟩
def IX{M:ak}{f:Nat}{fn:bZ}(c:M.func f=B1 fn){ks:Kp}{vs:List AV}(hk:jZ 0 vs.length ks.ah=B4){up:Option aG}{H:ar}{Q:bI->ar->Prop}
 (h:W M ⟨B5,f⟩ (ks,part fn.body 0) B4 (eG M fn.results Q) (kG 0 vs) [] H):∃e H',jT M f vs up H e up H'/\Q e H':=by
 rw[lS,TS]at h;obtain⟨e,d,H',g,rfl,i⟩:=x_ c (qF (W3.wp (fp fn.body) fn.body (qm _) (up:=up) h (Vl hk)) λ e st h=>Om h)
 grind
abbrev WE(M:ak)(c:Ctx)(p:Kp×ai)(R:aE->Env->List aK->ar->Prop):Prop:=∀Q E D H,W M c p B4 Q E D H=R Q E D H
end Go.Am
