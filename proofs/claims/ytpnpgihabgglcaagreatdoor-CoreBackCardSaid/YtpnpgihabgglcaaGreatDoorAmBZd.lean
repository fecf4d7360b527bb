import Derived.Test.YtpnpgihabgglcaaGreatDoorAmBZb
import Derived.Test.YtpnpgihabgglcaaGreatDoorAmBZa
set_option linter.unusedVariables false
set_option linter.unusedSimpArgs false
set_option linter.defProp false
namespace Go.Am
def aG:Bool:=true
def bM{α:Type}(m:Bool)(o:Option α)(K:α->Prop):Prop:=match o with
 |some a=>K a
 |none=>False
def iK{α β:Type}(m:Bool)(o:Option (α×β))(K:α -> β->Prop):Prop:=match o with
 |some a=>K a.1 a.2
 |none=>False
def Jb(m:Bool)(q:Bool)(A B:Prop):Prop:=match q with
 |true=>A
 |false=>B
@[congr]def KU{α:Type}{m c:Bool}{o o':Option α}{K:α->Prop}(hm:m=c)(h:o=o'):bM m o K=bM c o' K:=by rw[h,hm]
@[congr]def Io{α β:Type}{m c:Bool}{o o':Option (α×β)}{K:α -> β->Prop}(hm:m=c)(h:o=o'):iK m o K=iK c o' K:=by rw[h,hm]
@[congr]def MT{m c q d:Bool}{A B:Prop}(hm:m=c)(h:q=d):Jb m q A B=Jb c d A B:=by rw[h,hm]
def bM.elim{α:Type}{m:Bool}{o:Option α}{K:α->Prop}(h:bM m o K):∃a,o=some a/\K a:=by
 cases o with
 |none=>exact False.elim h
 |some a=>exact⟨a,rfl,h⟩
def iK.elim{α β:Type}{m:Bool}{o:Option (α×β)}{K:α -> β->Prop}(h:iK m o K):∃a b,o=some (a,b)/\K a b:=by
 cases o with
 |none=>exact False.elim h
 |some a=>exact⟨a.1,a.2,rfl,h⟩
def bM.intro{α:Type}{m:Bool}{o:Option α}{K:α->Prop}{a:α}(h:o=some a)(hk:K a):bM m o K:=by subst h;exact hk
def iK.intro{α β:Type}{m:Bool}{o:Option (α×β)}{K:α -> β->Prop}{a:α}{b:β}(h:o=some (a,b))(hk:K a b):iK m o K:=by subst h;exact hk
def Jb.cases{m:Bool}{q:Bool}{A B:Prop}(c:q=true->A)(d:q=false->B):Jb m q A B:=by
 cases q with
 |true=>exact c rfl
 |false=>exact d rfl
def asBool:AV->Option Bool
 | .bool q=>some q
 |_=>none
noncomputable section
structure ak where
 prog:jH
 told:bS
 mute:Nat->Bool
 ok:∀f vs up H,mute f=false->told f vs up H=none
def ak.call(M:ak)(n:Nat):bS:=jQ M.prog M.told n
def ak.func(M:ak)(f:Nat):Option b9:=cond (M.mute f) none (M.prog.func f)
def ak.jL(M:ak):Nat->String->Option Nat:=M.prog.jL
def ak.xB{M:ak}{f:Nat}{fn:b9}(h:M.func f=some fn):M.mute f=false/\M.prog.func f=some fn:=by
 unfold ak.func at h;cases hm:M.mute f with
 |true=>rw[hm]at h;cases h
 |false=>rw[hm]at h;exact⟨rfl,h⟩
def ak.yS{M:ak}{f:Nat}(h:M.mute f=false)(n:Nat)(vs:List AV)(up:Option aE)(H:ar):M.call (n+1) f vs up H=Ho M.prog (M.call n) n f vs up H:=by
 show(match M.told f vs up H with|some r=>some r|none=>Ho M.prog (jQ M.prog M.told n) n f vs up H)=_;rw[M.ok f vs up H h];rfl
variable(AP:ak)
def wO(n k:Nat)(ctx:Ctx):RT:=⟨AP.prog,AP.call n,rounds AP.prog (AP.call n) n k,n,ctx⟩
def i6(f:Nat)(vs:List AV)(up:Option aE)(H:ar)(e:bG)(up':Option aE)(H':ar):Prop:=∃n0,∀n,n0<=n->AP.call n f vs up H=some (e,up',H')
def CALL(f:Nat)(vs:List AV)(H:ar)(e:bG)(H':ar):Prop:=i6 AP f vs none H e none H'
def sm(l:Nat)(vs:List AV)(H:ar)(e:bG)(H':ar):Prop:=∃n0,∀n k,n0<=n->n0<=k->rounds AP.prog (AP.call n) n k vs l H=some (e,H')
def ub:lK->List AV->ar->bG->ar->Prop
 | .func g=>CALL AP g
 | .yield l=>sm AP l
def nJ(m:Bool)(f:lK)(vs:List AV)(H:ar)(K:AV->ar->Prop)(E:aE->ar->Prop):Prop :=
 ∃e H',ub AP f vs H e H'/\match e with
  | .ret v=>K v H'
  | .panic c=>E c H'
@[congr]def It{AP:ak}{m d:Bool}{f:lK}{vs c:List AV}{H:ar}{K:AV->ar->Prop}{E:aE->ar->Prop}(hm:m=d)(h:vs=c):nJ AP m f vs H K E=nJ AP d f c H K E:=by rw[h,hm]
def Mp(m:Bool)(vs:List AV)(K:lK->List AV->Prop):Prop:=match vs with
 | .fn (.func g) first cap::args=>K (.func g) (first++(args++cap))
 | .fn (.yield l) first []::args=>K (.yield l) (first++args)
 |_=>False
@[congr]def M6{m d:Bool}{vs c:List AV}{K:lK->List AV->Prop}(hm:m=d)(h:vs=c):Mp m vs K=Mp d c K:=by rw[h,hm]
def Mm(m:Bool)(name:String)(vs:List AV)(K:lK->List AV->Prop):Prop:=match vs with
 | .iface t v::args=>bM aG (AP.jL t name) λ g=>K (.func g) (v::args)
 |_=>False
@[congr]def MQ{AP:ak}{m d:Bool}{name:String}{vs c:List AV}{K:lK->List AV->Prop}(hm:m=d)(h:vs=c):Mm AP m name vs K=Mm AP d name c K:=by rw[h,hm]
def pO(tm:T AV):List bI->(List AV->Prop)->Prop
 |[],K=>K []
 | .tmp t::xs,K=>bM aG (tm.get t) λ v=>pO tm xs λ vs=>K (v::vs)
 | .const v::xs,K=>pO tm xs λ vs=>K (v::vs)
 | .d9 g::xs,K=>pO tm xs λ vs=>K (.ptr g 0::vs)
 | .func f::xs,K=>pO tm xs λ vs=>K (.fn (.func f) [] []::vs)
def pO.elim{tm:T AV}:∀{l:List bI}{K:List AV->Prop},pO tm l K -> ∃vs,lM tm l=some vs/\K vs
 |[],K,h=>⟨[],rfl,h⟩
 | .tmp t::xs,K,h=>by
  obtain⟨v,f,h⟩:=bM.elim (m:=aG) h;obtain⟨vs,c,d⟩:=pO.elim h;exact⟨v::vs,by simp[lM,qY,f,c],d⟩
 | .const v::xs,K,h=>by
  obtain⟨vs,c,d⟩:=pO.elim (l:=xs) h;exact⟨v::vs,by simp[lM,qY,c],d⟩
 | .d9 v::xs,K,h=>by
  obtain⟨vs,c,d⟩:=pO.elim (l:=xs) h;exact⟨_,by simp[lM,qY,c],d⟩
 | .func v::xs,K,h=>by
  obtain⟨vs,c,d⟩:=pO.elim (l:=xs) h;exact⟨_,by simp[lM,qY,c],d⟩
def EZ(tm:T AV)(x:bI)(K:AV->Prop):Prop:=match x with
 | .tmp t=>bM aG (tm.get t) K
 | .const v=>K v
 | .d9 g=>K (.ptr g 0)
 | .func f=>K (.fn (.func f) [] [])
def EZ.elim{tm:T AV}{x:bI}{K:AV->Prop}(h:EZ tm x K):∃v,qY tm x=some v/\K v:=by
 cases x with
 |tmp t=>exact bM.elim (m:=aG) h
 |const v=>exact⟨v,rfl,h⟩
 |d9 v=>exact⟨_,rfl,h⟩
 |func v=>exact⟨_,rfl,h⟩
abbrev cB:=aU->St->Prop
def yZ(ps:Option (List Nat))(tm:T AV)(aX:List aM)(up:Option aE)(Q:cB)(c:aE)(H:ar):Prop:=match ps with
 |some ds=>Q (.panic c) ⟨forget ds tm,aX,up,H⟩
 |none=>False
def xC(m:Bool)(ctx:Ctx)(up:Option aE)(K:AV->Option aE->Prop):Prop:=ctx.round=none/\match up with
 |some ((v,false)::older)=>K v (some ((v,true)::older))
 |_=>K .nili up
@[congr]def Iw{m d:Bool}{ctx:Ctx}{up c:Option aE}{K:AV->Option aE->Prop}(hm:m=d)(h:up=c):xC m ctx up K=xC d ctx c K:=by rw[h,hm]
def Gb(m:Bool)(ctx:Ctx)(vs:List AV)(aX:List aM)(K:List aM->Prop):Prop:=ctx.round=none/\match vs with
 | .fn (.func f) first cap::args=>K (.fn (.func f) (first++(args++cap))::aX)
 |_=>False
@[congr]def LI{m d:Bool}{ctx:Ctx}{vs c:List AV}{aX:List aM}{K:List aM->Prop}(hm:m=d)(h:vs=c):Gb m ctx vs aX K=Gb d ctx c aX K:=by rw[h,hm]
def fZ(vs:List AV)(H:ar)(E:aE->ar->Prop):Prop:=match vs with
 |[.iface t v]=>E [(.iface t v,false)] H
 |_=>False
@[congr]def Fu{vs c:List AV}{H:ar}{E:aE->ar->Prop}(h:vs=c):fZ vs H E=fZ c H E:=by rw[h]
def oe(ctx:Ctx)(dst:Option Nat)(ps:Option (List Nat))(st:St)(Q:cB)(K:St->Prop)(vs:List AV):fE->Prop
 | .pure f=>bM aG (f vs) λ v=>K ⟨eh dst v st.tm,st.aX,st.up,st.H⟩
 | .read f=>bM aG (f vs st.H) λ v=>K ⟨eh dst v st.tm,st.aX,st.up,st.H⟩
 | .alloc f=>iK aG (f vs) λ o mk=>K ⟨eh dst (mk st.H.au) st.tm,st.aX,st.up,st.H.alloc o⟩
 | .gH f=>iK aG (f vs st.H) λ v H=>K ⟨eh dst v st.tm,st.aX,st.up,H⟩
 | .gV g=>nJ AP aG (.func g) vs st.H (λ v H=>K ⟨eh dst v st.tm,st.aX,st.up,H⟩) (yZ ps st.tm st.aX st.up Q)
 | .gT=>Mp aG vs λ f vs=>nJ AP aG f vs st.H (λ v H=>K ⟨eh dst v st.tm,st.aX,st.up,H⟩) (yZ ps st.tm st.aX st.up Q)
 | .invoke name=>Mm AP aG name vs λ f vs=>nJ AP aG f vs st.H (λ v H=>K ⟨eh dst v st.tm,st.aX,st.up,H⟩) (yZ ps st.tm st.aX st.up Q)
 | .recover=>match vs with
  |[]=>xC aG ctx st.up λ v up=>K ⟨eh dst v st.tm,st.aX,up,st.H⟩
  |_=>False
 | .defer=>Gb aG ctx vs st.aX λ aX=>K ⟨eh dst .undef st.tm,aX,st.up,st.H⟩
 | .panic=>fZ vs st.H (yZ ps st.tm st.aX st.up Q)
def Pj(dst:Option Nat)(st:St)(vs:List AV):fE->Prop
 | .read f=>match dst with
  |some d=>bM aG (f vs st.H) λ v=>bM aG (st.tm.get d) λ v'=>v=v'
  |none=>False
 |_=>False
def qC(ctx:Ctx)(s:aN)(st:St)(Q:cB)(K:St->Prop):Prop :=
 match s.gW with
 |false=>match s.guard with
  |none=>pO st.tm s.args λ vs=>oe AP ctx s.dst s.ct st Q K vs s.op
  |some g=>bM aG (cM g.2 (st.tm.get g.1)) λ w=>Jb aG w (pO st.tm s.args λ vs=>oe AP ctx s.dst s.ct st Q K vs s.op) (K ⟨eh s.dst .undef st.tm,st.aX,st.up,st.H⟩)
 |true=>match s.guard with
  |none=>pO st.tm s.args λ vs=>Pj s.dst st vs s.op/\K st
  |some g=>bM aG (cM g.2 (st.tm.get g.1)) λ w=>Jb aG w (pO st.tm s.args λ vs=>Pj s.dst st vs s.op/\K st) (s.dst.isSome=true/\K st)
def nM(ctx:Ctx):List aN->St->cB->Prop
 |[],st,Q=>Q .normal st
 |s::rest,st,Q=>qC AP ctx s st Q λ st'=>nM ctx rest st' Q
def Ai(W:St->cB->Prop)(Q:cB):cB:=λ e st=>match e with
 | .normal=>W st Q
 |e=>Q e st
def BLK(id:Nat)(Q:cB):cB:=λ e st=>match e with
 | .exit id'=>Q (cond (Nat.beq id id') .normal (.exit id')) st
 |e=>Q e st
def SCP(b:ai)(Q:cB):cB:=λ e st=>match e with
 | .goto l=>El b l=false/\Q (.goto l) st
 |e=>Q e st
def jZ(ah:Option (List Nat))(st:St):St:=match ah with
 |none=>st
 |some ks=>{st with tm:=WJ st.tm ks .nil}
def Jz(W:St->cB->Prop)(ah:Option (List Nat))(st:St)(Q:cB):Prop :=
 ∃I:Nat->St->Prop,(∃n,I n st) /\ ∀n st,I n st->W (jZ ah st) λ e st'=>match e with
  | .normal=>∃m,m<n/\I m st'
  |e=>Q e st'
def X4(st:St)(aX:List aM)(l:Nat)(Q:cB)(e:bG)(H:ar):Prop:=match e with
 | .panic c=>Q (.panic c) {st with aX:=aX,H:=H}
 | .ret _=>∃s p f k tm d,H.get l=some (.loop s p f k tm d)/\s≠ .busy/\Q (qF p) {st with aX:=aX,H:=H.set l (.loop .exhausted p f k tm d)}
def mi(ctx:Ctx)(st:St)(k:Nat)(H0:ar)(aX:List aM)(d:Nat)(Q:cB):AV->Prop
 | .fn (.func g) first cap=>∃e H',CALL AP g (first++(.fn (.yield H0.au) [] []::cap)) (H0.alloc (.loop .ready none ctx.fn k st.tm d)) e H'/\X4 st aX H0.au Q e H'
 |_=>False
def IG(ctx:Ctx)(k:Nat)(st:St)(Q:cB)(v:AV):Prop:=match ctx.round with
 |none=>mi AP ctx st k (st.H.alloc (.deferred (some []))) (.iY st.H.au::st.aX) st.H.au Q v
 |some l=>bM aG (Dy st.H l) λ d=>mi AP ctx st k st.H st.aX d Q v
def WP(ctx:Ctx):ai->St->cB->Prop
 | .skip,st,Q=>Q .normal st
 | .label _,st,Q=>Q .normal st
 | .region steps,st,Q=>nM AP ctx steps st Q
 | .seq a b,st,Q=>WP ctx a st (Ai (WP ctx b) Q)
 | .cond c a b,st,Q=>EZ st.tm c λ v=>bM aG (asBool v) λ q=>Jb aG q (WP ctx a st Q) (WP ctx b st Q)
 | .block id b,st,Q=>WP ctx b st (BLK id Q)
 | .loop ah b,st,Q=>Jz (WP ctx b) ah st Q
 | .exit id,st,Q=>Q (.exit id) st
 | .goto l,st,Q=>Q (.goto l) st
 | .ret,st,Q=>Q .ret st
 | .stuck,_,_=>False
 | .scope b,st,Q=>WP ctx b st (SCP b Q)
 | .rangeFunc f k,st,Q=>EZ st.tm f λ v=>IG AP ctx k st Q v
section
variable(ctx:Ctx)(st:St)(Q:cB)
def VA(s:aN)(l:List aN):nM AP ctx (s::l) st Q=qC AP ctx s st Q λ c=>nM AP ctx l c Q:=propext j5
end
def EX(ctx:Ctx)(c:ai)(st:St)(r:aU×St):Prop:=∃n0,∀n k,n0<=n->n0<=k->(bE c).run (wO AP n k ctx) st=some r
def EXS(ctx:Ctx)(l:List aN)(st:St)(r:aU×St):Prop:=∃n0,∀n k,n0<=n->n0<=k->(gJ l).run (wO AP n k ctx) st=some r
def ub.run{AP:ak}{f:lK}{vs:List AV}{H:ar}{e:bG}{H':ar}(h:ub AP f vs H e H') :
 ∃n0,∀n k,n0<=n->n0<=k->cQ (AP.call n) (rounds AP.prog (AP.call n) n k) f vs H=some (e,H'):=by
 cases f with
 |func g=>obtain⟨n0,h⟩:=h;exact⟨n0,λ n k hn _=>by simp[cQ,h n hn]⟩
 |yield l=>obtain⟨n0,h⟩:=h;exact⟨n0,λ n k hn hk=>by simp[cQ,h n k hn hk]⟩
def q56:(∀v,cj v v=true)/\(∀l,eQ l l=true):=by
 have c:∀n,Nat.beq n n=true:=λ n=>by simp
 have d:∀k,ta k k=true:=λ k=>by cases k<;>rfl
 have g:∀i,tj i i=true:=λ i=>by rw[C9];simp
 have h:∀s,zL s s=true:=λ s=>by rw[Jw];simp
 refine⟨λ v=>?_,λ l=>?_⟩
 .refine AV.rec (motive_1:=λ v=>cj v v=true) (motive_2:=λ l=>eQ l l=true) ?_ ?_ ?_ ?_ ?_ ?_ ?_ ?_ ?_ ?_ ?_ ?_ ?_ ?_ ?_ ?_ ?_ ?_ ?_ v
  all_goals (intros;first|rfl|(simp only[cj,eQ,jo,beq_self_eq_true, *];done)|(rename_i f _ _ _ _;cases f<;>simp only[cj,jo, *]))
 .refine AV.rec_1 (motive_1:=λ v=>cj v v=true) (motive_2:=λ l=>eQ l l=true) ?_ ?_ ?_ ?_ ?_ ?_ ?_ ?_ ?_ ?_ ?_ ?_ ?_ ?_ ?_ ?_ ?_ ?_ ?_ l
  all_goals (intros;first|rfl|(simp only[cj,eQ,jo,beq_self_eq_true, *];done)|(rename_i f _ _ _ _;cases f<;>simp only[cj,jo, *]))
def xhm(v:AV):cj v v=true:=q56.1 v
def Pj.run{d:Option Nat}{st:St}{vs:List AV}{op:fE}(h:Pj d st vs op):∃t,d=some t/\qA (T.oq (T.path t)).run st vs op=true:=by
 cases op with
 |read f =>
  cases d with
  |none=>exact False.elim h
  |some t =>
   refine⟨t,rfl,?_⟩;obtain⟨v,g,h⟩:=bM.elim (m:=aG) h;obtain⟨j,i,h⟩:=bM.elim (m:=aG) h;subst h;have c:(T.oq (T.path t)).run st.tm=some v:=by rw[T.jG];exact i
   simp[qA,g,c,xhm]
 |_=>exact False.elim h
def oe.run{AP:ak}{ctx:Ctx}{dst:Option Nat}{t:Option (List Nat)}{st:St}{Q:cB}{K:St->Prop}{vs:List AV}{op:fE}(h:oe AP ctx dst t st Q K vs op)
 {kk:Nat->Nat->St->gD} (p:∀st,K st -> ∃e d,Q e d /\ ∃n0,∀n k,n0<=n->n0<=k->kk n k st=some (e,d)) :
 ∃e d,Q e d /\ ∃n0,∀n k,n0<=n->n0<=k->(qN (kN dst).run t op).run (wO AP n k ctx) st (kk n k) vs=some (e,d):=by
 have hp:∀v tm,(kN dst).run v tm=eh dst v tm:=Vp dst;have call:∀{f vs},nJ AP aG f vs st.H (λ v H=>K ⟨eh dst v st.tm,st.aX,st.up,H⟩) (yZ t st.tm st.aX st.up Q) ->
  ∃e d,Q e d /\ ∃n0,∀n k,n0<=n->n0<=k->((cQ (AP.call n) (rounds AP.prog (AP.call n) n k) f vs st.H).bind λ r=>fA (kN dst).run t st (kk n k) r)=some (e,d):=by
  rintro f vs ⟨e,H',l,h⟩;obtain⟨n0,l⟩:=l.run;cases e with
  |ret v =>
   obtain⟨e,d,j,n1,i⟩:=p _ h;refine⟨e,d,j,max n0 n1,λ n k hn hk=>?_⟩;rw[l n k (by omega) (by omega)]
   simpa[fA,hp]using i n k (by omega) (by omega)
  |panic c =>
   cases t with
   |none=>exact False.elim h
   |some ds =>
    refine⟨_,_,h,n0,λ n k hn hk=>?_⟩;rw[l n k (by omega) (by omega)];simp[fA]
 cases op with
 |pure f =>
  obtain⟨v,l,h⟩:=bM.elim (m:=aG) h;obtain⟨e,d,j,n1,i⟩:=p _ h;exact⟨e,d,j,n1,λ n k hn hk=>by simp[qN,AW,l,hp,i n k hn hk]⟩
 |read f =>
  obtain⟨v,l,h⟩:=bM.elim (m:=aG) h;obtain⟨e,d,j,n1,i⟩:=p _ h;exact⟨e,d,j,n1,λ n k hn hk=>by simp[qN,Ao,l,hp,i n k hn hk]⟩
 |alloc f =>
  simp only[oe]at h;obtain⟨o,mk,l,h⟩:=iK.elim (m:=aG) h;obtain⟨e,d,j,n1,i⟩:=p _ h;exact⟨e,d,j,n1,λ n k hn hk=>by simp[qN,vF,l,hp,i n k hn hk]⟩
 |gH f =>
  simp only[oe]at h;obtain⟨o,mk,l,h⟩:=iK.elim (m:=aG) h;obtain⟨e,d,j,n1,i⟩:=p _ h;exact⟨e,d,j,n1,λ n k hn hk=>by simp[qN,Jc,l,hp,i n k hn hk]⟩
 |gV f=>exact call h
 |gT =>
  simp only[oe,Mp]at h;split at h
  .exact call h
  .exact call h
  .exact False.elim h
 |invoke name =>
  simp only[oe,Mm]at h;split at h
  .obtain ⟨g,hg,h⟩:=bM.elim (m:=aG) h;obtain⟨e,d,j,n1,i⟩:=call h;exact⟨e,d,j,n1,λ n k hn hk=>by simpa[qN,sH,wO,(show AP.prog.jL _ name=some g from hg)]using i n k hn hk⟩
  .exact False.elim h
 |recover =>
  simp only[oe]at h;split at h
  .obtain ⟨hr,h⟩:=h;split at h
   .rename_i v s q;obtain⟨e,d,j,n1,i⟩:=p _ h;exact⟨e,d,j,n1,λ n k hn hk=>by simpa[qN,Se,wO,hr,QI,q,hp]using i n k hn hk⟩
   .rename_i q;obtain⟨e,d,j,n1,i⟩:=p _ h;refine⟨e,d,j,n1,λ n k hn hk=>?_⟩;have:QI (kN dst).run st=⟨eh dst .nili st.tm,st.aX,st.up,st.H⟩:=by
     unfold QI;split
     .rename_i v s hu;exact(q _ _ hu).elim
     .rw [hp]
    simpa[qN,Se,wO,hr,this]using i n k hn hk
  .exact False.elim h
 |defer =>
  obtain⟨hr,h⟩:=h;split at h
  .obtain ⟨e,d,j,n1,i⟩:=p _ h;exact⟨e,d,j,n1,λ n k hn hk=>by simpa[qN,vG,wO,hr,hp]using i n k hn hk⟩
  .exact False.elim h
 |panic =>
  simp only[oe,fZ]at h;split at h
  .cases t with
   |none=>exact False.elim h
   |some ds=>exact⟨_,_,h,0,λ n k hn hk=>by simp[qN,vE,fA]⟩
  .exact False.elim h
def qC.run{AP:ak}{ctx:Ctx}{s:aN}{st:St}{Q:cB}{K:St->Prop}(h:qC AP ctx s st Q K)
 {kk:Nat->Nat->St->gD} (o:∀st,K st -> ∃e c,Q e c /\ ∃n0,∀n k,n0<=n->n0<=k->kk n k st=some (e,c)) :
 ∃e c,Q e c /\ ∃n0,∀n k,n0<=n->n0<=k->(gC s).run (wO AP n k ctx) (kk n k) st=some (e,c):=by
 obtain⟨gW,dst,guard,args,op,u⟩:=s;have hp:∀v tm,(kN dst).run v tm=eh dst v tm:=Vp dst;have p:∀g,(T.oq (T.path g)).run st.tm=st.tm.get g:=λ g=>by rw[T.jG];rfl
 cases gW with
 |false =>
  cases guard with
  |none =>
   obtain⟨vs,l,h⟩:=pO.elim h;obtain⟨e,c,j,n0,f⟩:=h.run o;exact⟨e,c,j,n0,λ n k hn hk=>by simpa[gC,GP,l]using f n k hn hk⟩
  |some g =>
   obtain⟨w,hw,h⟩:=bM.elim (m:=aG) h;cases w with
   |true =>
    obtain⟨vs,l,h⟩:=pO.elim h;obtain⟨e,c,j,n0,f⟩:=h.run o;exact⟨e,c,j,n0,λ n k hn hk=>by simpa[gC,p,hw,GP,l]using f n k hn hk⟩
   |false =>
    obtain⟨e,c,j,n0,f⟩:=o _ h;exact⟨e,c,j,n0,λ n k hn hk=>by simpa[gC,p,hw,hp]using f n k hn hk⟩
 |true =>
  cases guard with
  |none =>
   obtain⟨vs,l,hk,q⟩:=pO.elim h;obtain⟨t,rfl,hk⟩:=hk.run;obtain⟨e,c,j,n0,f⟩:=o _ q;exact⟨e,c,j,n0,λ n k hn i=>by simpa[gC,GP,l,hk]using f n k hn i⟩
  |some g =>
   obtain⟨w,hw,h⟩:=bM.elim (m:=aG) h;cases w with
   |true =>
    obtain⟨vs,l,hk,q⟩:=pO.elim h;obtain⟨t,rfl,hk⟩:=hk.run;obtain⟨e,c,j,n0,f⟩:=o _ q;exact⟨e,c,j,n0,λ n k hn i=>by simpa[gC,p,hw,GP,l,hk]using f n k hn i⟩
   |false =>
    obtain⟨r,h⟩:=h;obtain⟨e,c,j,n0,f⟩:=o _ h;cases dst with
    |none=>cases r
    |some d=>exact⟨e,c,j,n0,λ n k hn i=>by simpa[gC,p,hw]using f n k hn i⟩
def nM.run{AP:ak}{ctx:Ctx}:∀{l:List aN}{st:St}{Q:cB},nM AP ctx l st Q -> ∃e c,Q e c/\EXS AP ctx l st (e,c)
 |[],st,Q,h=>⟨_,_,h,0,λ _ _ _ _=>rfl⟩
 |s::rest,st,Q,h=>by
  obtain⟨e,c,d,n0,h⟩:=qC.run (kk:=λ n k=>(gJ rest).run (wO AP n k ctx)) h λ c hs=>nM.run hs;exact⟨e,c,d,n0,h⟩
def BG{AP:ak}{ctx:Ctx}{ah:Option (List Nat)}{b:ai}{Q:cB}{I:Nat->St->Prop}
 (hb:∀n st,I n st -> ∃e f,(match e with| .normal=>∃m,m<n/\I m f|e=>Q e f)/\EX AP ctx b (jZ ah st) (e,f)) :
 ∀m n,n<=m -> ∀st,I n st -> ∃e f,Q e f /\ ∃n0 c,∀n k,n0<=n->n0<=k -> ∀d,c<=d->gy ah ((bE b).run (wO AP n k ctx)) d st=some (e,f):=by
 intro m
 induction m with
 |zero =>
  intro n hn st q;obtain⟨e,f,h,n0,g⟩:=hb n st q;cases e with
  |normal=>obtain⟨j,w,_⟩:=h;omega
  |exit id=>exact⟨_,_,h,n0,1,λ n k hn hk d i=>by obtain⟨c,rfl⟩:∃c,d=c+1:=⟨d-1,by omega⟩;have:=g n k hn hk;cases ah<;>simp[gy,jZ]at this⊢<;>simp[this]⟩
  |goto l=>exact⟨_,_,h,n0,1,λ n k hn hk d i=>by obtain⟨c,rfl⟩:∃c,d=c+1:=⟨d-1,by omega⟩;have:=g n k hn hk;cases ah<;>simp[gy,jZ]at this⊢<;>simp[this]⟩
  |ret=>exact⟨_,_,h,n0,1,λ n k hn hk d i=>by obtain⟨c,rfl⟩:∃c,d=c+1:=⟨d-1,by omega⟩;have:=g n k hn hk;cases ah<;>simp[gy,jZ]at this⊢<;>simp[this]⟩
  |panic p=>exact⟨_,_,h,n0,1,λ n k hn hk d i=>by obtain⟨c,rfl⟩:∃c,d=c+1:=⟨d-1,by omega⟩;have:=g n k hn hk;cases ah<;>simp[gy,jZ]at this⊢<;>simp[this]⟩
 |succ m ih =>
  intro n hn st q;obtain⟨e,f,h,n0,g⟩:=hb n st q;cases e with
  |normal =>
   obtain⟨j,w,r⟩:=h;obtain⟨e,s,x,n1,c,t⟩:=ih j (by omega) f r;refine⟨e,s,x,max n0 n1,c+1,λ n k hn hk d i=>?_⟩;obtain⟨o,rfl⟩:∃c,d=c+1:=⟨d-1,by omega⟩
   have:=g n k (by omega) (by omega);have u:=t n k (by omega) (by omega) o (by omega);cases ah<;>simp[gy,jZ]at this⊢<;>simp[this,u]
  |exit id=>exact⟨_,_,h,n0,1,λ n k hn hk d i=>by obtain⟨c,rfl⟩:∃c,d=c+1:=⟨d-1,by omega⟩;have:=g n k hn hk;cases ah<;>simp[gy,jZ]at this⊢<;>simp[this]⟩
  |goto l=>exact⟨_,_,h,n0,1,λ n k hn hk d i=>by obtain⟨c,rfl⟩:∃c,d=c+1:=⟨d-1,by omega⟩;have:=g n k hn hk;cases ah<;>simp[gy,jZ]at this⊢<;>simp[this]⟩
  |ret=>exact⟨_,_,h,n0,1,λ n k hn hk d i=>by obtain⟨c,rfl⟩:∃c,d=c+1:=⟨d-1,by omega⟩;have:=g n k hn hk;cases ah<;>simp[gy,jZ]at this⊢<;>simp[this]⟩
  |panic p=>exact⟨_,_,h,n0,1,λ n k hn hk d i=>by obtain⟨c,rfl⟩:∃c,d=c+1:=⟨d-1,by omega⟩;have:=g n k hn hk;cases ah<;>simp[gy,jZ]at this⊢<;>simp[this]⟩
def mi.run{AP:ak}{ctx:Ctx}{st:St}{j:Nat}{H0:ar}{aX:List aM}{d:Nat}{Q:cB}{v:AV}(h:mi AP ctx st j H0 aX d Q v) :
 ∃e g,Q e g /\ ∃n0,∀n k,n0<=n->n0<=k->iQ (AP.call n) (rounds AP.prog (AP.call n) n k) ctx st j H0 aX d v=some (e,g):=by
 unfold mi at h;split at h
 .obtain ⟨e,H',⟨n0,i⟩,h⟩:=h;cases e with
  |panic c=>exact⟨_,_,h,n0,λ n k hn hk=>by simp[iQ,cQ,i n hn,MP]⟩
  |ret v =>
   obtain⟨s,p,f,k,tm,d,hg,hs,h⟩:=h;refine⟨_,_,h,n0,λ n k hn hk=>?_⟩;simp only[iQ,cQ,i n hn,MP,qm,hg]
 .exact False.elim h
def WP.run{AP:ak}{ctx:Ctx}:∀{c:ai}{st:St}{Q:cB},WP AP ctx c st Q -> ∃e j,Q e j/\EX AP ctx c st (e,j)
 | .skip,st,Q,h=>⟨_,_,h,0,λ _ _ _ _=>rfl⟩
 | .label _,st,Q,h=>⟨_,_,h,0,λ _ _ _ _=>rfl⟩
 | .exit _,st,Q,h=>⟨_,_,h,0,λ _ _ _ _=>rfl⟩
 | .goto _,st,Q,h=>⟨_,_,h,0,λ _ _ _ _=>rfl⟩
 | .ret,st,Q,h=>⟨_,_,h,0,λ _ _ _ _=>rfl⟩
 | .stuck,st,Q,h=>False.elim h
 | .region steps,st,Q,h=>nM.run h
 | .seq a b,st,Q,h=>by
  obtain⟨e,cJ,i,n0,g⟩:=WP.run (c:=a) h;cases e with
  |normal =>
   obtain⟨e,u,o,n1,y⟩:=WP.run (c:=b) i;exact⟨e,u,o,max n0 n1,λ n k hn hk=>by simp[bE,g n k (by omega) (by omega),tG,y n k (by omega) (by omega)]⟩
  |exit id=>exact⟨_,_,i,n0,λ n k hn hk=>by simp[bE,g n k hn hk,tG]⟩
  |goto id=>exact⟨_,_,i,n0,λ n k hn hk=>by simp[bE,g n k hn hk,tG]⟩
  |ret=>exact⟨_,_,i,n0,λ n k hn hk=>by simp[bE,g n k hn hk,tG]⟩
  |panic p=>exact⟨_,_,i,n0,λ n k hn hk=>by simp[bE,g n k hn hk,tG]⟩
 | .cond c a b,st,Q,h=>by
  obtain⟨v,r,h⟩:=EZ.elim h;obtain⟨q,o,h⟩:=bM.elim (m:=aG) h;have t:v=.bool q:=by
   unfold asBool at o;split at o
   .injection o with o;rw[o]
   .cases o
  subst t;cases q with
  |true =>
   obtain⟨e,cJ,i,n0,g⟩:=WP.run (c:=a) h;exact⟨e,cJ,i,n0,λ n k hn hk=>by simp[bE,Iv,r,ud,g n k hn hk]⟩
  |false =>
   obtain⟨e,cJ,i,n0,g⟩:=WP.run (c:=b) h;exact⟨e,cJ,i,n0,λ n k hn hk=>by simp[bE,Iv,r,ud,g n k hn hk]⟩
 | .block id b,st,Q,h=>by
  obtain⟨e,cJ,i,n0,g⟩:=WP.run (c:=b) h;cases e with
  |exit id'=>exact⟨_,_,i,n0,λ n k hn hk=>by simp[bE,g n k hn hk,jR]⟩
  |normal=>exact⟨_,_,i,n0,λ n k hn hk=>by simp[bE,g n k hn hk,jR]⟩
  |goto id=>exact⟨_,_,i,n0,λ n k hn hk=>by simp[bE,g n k hn hk,jR]⟩
  |ret=>exact⟨_,_,i,n0,λ n k hn hk=>by simp[bE,g n k hn hk,jR]⟩
  |panic p=>exact⟨_,_,i,n0,λ n k hn hk=>by simp[bE,g n k hn hk,jR]⟩
 | .scope b,st,Q,h=>by
  obtain⟨e,cJ,i,n0,g⟩:=WP.run (c:=b) h;cases e with
  |exit id'=>exact⟨_,_,i,n0,λ n k hn hk=>by simp[bE,g n k hn hk,kQ]⟩
  |normal=>exact⟨_,_,i,n0,λ n k hn hk=>by simp[bE,g n k hn hk,kQ]⟩
  |goto id=>exact⟨_,_,i.2,n0,λ n k hn hk=>by simp[bE,g n k hn hk,kQ,i.1]⟩
  |ret=>exact⟨_,_,i,n0,λ n k hn hk=>by simp[bE,g n k hn hk,kQ]⟩
  |panic p=>exact⟨_,_,i,n0,λ n k hn hk=>by simp[bE,g n k hn hk,kQ]⟩
 | .loop ah b,st,Q,⟨I,⟨n,s⟩,h⟩=>by
  obtain⟨e,j,o,n0,c,g⟩:=BG (AP:=AP) (ctx:=ctx) (ah:=ah) (b:=b) (Q:=Q) (I:=I) (λ n st s=>by
   obtain⟨e,j,i,w⟩:=WP.run (c:=b) (h n st s);exact⟨e,j,i,w⟩) n n (qg n) st s
  exact⟨e,j,o,max n0 c,λ n k hn hk=>g n k (by omega) (by omega) n (by omega)⟩
 | .rangeFunc f k0,st,Q,h=>by
  obtain⟨v,r,h⟩:=EZ.elim h;unfold IG at h;cases hr:ctx.round with
  |none =>
   rw[hr]at h;obtain⟨e,j,o,n0,g⟩:=mi.run h;exact⟨e,j,o,n0,λ n k hn hk=>by simpa[bE,Iv,r,qR,wO,hr]using g n k hn hk⟩
  |some l =>
   rw[hr]at h;obtain⟨d,x,h⟩:=bM.elim (m:=aG) h;obtain⟨e,j,o,n0,g⟩:=mi.run h;exact⟨e,j,o,n0,λ n k hn hk=>by simpa[bE,Iv,r,qR,wO,hr,x]using g n k hn hk⟩
def xT(AP:ak)(rs:List dX)(tm:T AV)(Q:bG->ar->Prop):List aM->Option aE->ar->Prop
 |[],none,H=>bM aG (dQ H tm rs) λ l=>Q (.ret (iT l)) H
 |[],some c,H=>Q (.panic c) H
 | .iY b::ds,m,H=>H.get b=some (.deferred (some []))/\xT AP rs tm Q ds m (H.set b (.deferred none))
 | .fn (.func f) args::ds,m,H=>∃v up' H',i6 AP f args (some (m.getD [])) H (.ret v) (some up') H'/\bM aG (mL m up') λ m'=>xT AP rs tm Q ds m' H'
 | .fn (.yield _) _::_,_,_=>False
def xT.run{AP:ak}{rs:List dX}{tm:T AV}{Q:bG->ar->Prop}:∀{ds:List aM}{m:Option aE}{H:ar},xT AP rs tm Q ds m H ->
 ∃e H',Q e H' /\ ∃n0,∀n,n0<=n->bY (AP.call n) rs tm ds m H=some (e,H')
 |[],none,H,h=>by
  obtain⟨l,hl,h⟩:=bM.elim (m:=aG) h;exact⟨_,_,h,0,λ n _=>by simp[bY,hl]⟩
 |[],some c,H,h=>⟨_,_,h,0,λ n _=>by simp[bY]⟩
 | .iY b::ds,m,H,⟨hb,h⟩=>by
  obtain⟨e,H',d,n0,g⟩:=xT.run h;exact⟨e,H',d,n0,λ n hn=>by simp[bY,hb,g n hn]⟩
 | .fn (.func f) args::ds,m,H,⟨v,up',H',⟨n0,hc⟩,h⟩=>by
  obtain⟨j,hm,h⟩:=bM.elim (m:=aG) h;obtain⟨e,i,d,n1,g⟩:=xT.run h;exact⟨e,i,d,max n0 n1,λ n hn=>by simp[bY,hc n (by omega),hm,g n (by omega)]⟩
 | .fn (.yield _) _::_,_,_,h=>False.elim h
def U3(AP:ak)(rs:List dX)(Q:bG->Option aE->ar->Prop):cB:=λ e st=>match e with
 | .normal=>xT AP rs st.tm (λ e H=>Q e st.up H) st.aX none st.H
 | .ret=>xT AP rs st.tm (λ e H=>Q e st.up H) st.aX none st.H
 | .panic c=>xT AP rs st.tm (λ e H=>Q e st.up H) st.aX (some c) st.H
 |_=>False
def q2m{AP:ak}{f:Nat}{fn:b9}(i:AP.func f=some fn){vs:List AV}{up:Option aE}{H:ar}{Q:bG->Option aE->ar->Prop}
 (h:WP AP ⟨none,f⟩ fn.body ⟨jE 0 vs .nil,[],up,H⟩ (U3 AP fn.results Q)):∃e d H',i6 AP f vs up H e d H'/\Q e d H':=by
 obtain⟨l,i⟩:=ak.xB i;obtain⟨e,st,g,n0,p⟩:=h.run;have key:∀m,xT AP fn.results st.tm (λ e H=>Q e st.up H) st.aX m st.H->(∀call,pN call fn (e,st)=(bY call fn.results st.tm st.aX m st.H).bind λ q=>some (q.1,st.up,q.2)) ->
  ∃e d H',i6 AP f vs up H e d H'/\Q e d H':=by
  intro m g he;obtain⟨e',H',o,n1,r⟩:=g.run;refine⟨e',st.up,H',⟨max n0 n1+1,λ n hn=>?_⟩,o⟩;obtain⟨n,rfl⟩:∃j,n=j+1:=⟨n-1,by omega⟩
  have:=p n n (by omega) (by omega);simp only[wO]at this;rw[ak.yS l];simp only[Ho,i,qm,exec,this,he,r n (by omega)]
 cases e with
 |normal=>exact key none g λ _=>rfl
 |ret=>exact key none g λ _=>rfl
 |panic c=>exact key (some c) g λ _=>rfl
 |exit _=>exact False.elim g
 |goto _=>exact False.elim g
def q6g{AP:ak}{f:Nat}{fn:b9}(g:AP.func f=some fn){vs:List AV}{H:ar}{Q:bG->ar->Prop}
 (h:WP AP ⟨none,f⟩ fn.body ⟨jE 0 vs .nil,[],none,H⟩ (U3 AP fn.results λ e up H=>up=none/\Q e H)):∃e H',CALL AP f vs H e H'/\Q e H':=by
 obtain⟨e,i,H',c,rfl,d⟩:=q2m g h;exact⟨e,H',c,d⟩
def RE(l:Nat)(Q:bG->ar->Prop):cB:=λ e st=>st.aX=[]/\match e with
 | .panic c=>Q (.panic c) st.H
 |e=>bM aG (cK st.H l (cond (xX e) .ready .done) (jV e)) λ H=>Q (.ret (.bool (xX e))) H
def RB(W:St->cB->Prop)(l:Nat)(Q:bG->ar->Prop):cB:=λ e st=>match e with
 | .normal=>bM aG (beginRound st.H l) λ H=>W {st with H:=H} (RE l Q)
 |_=>False
def Zx{AP:ak}{l:Nat}{H:ar}{s:mz}{p:Option gU}{f k:Nat}{tm:T AV}{d:Nat}{fn:b9}{lp:dZ}{vs:List AV}{u:T AV}{Q:bG->ar->Prop}
 (hl:H.get l=some (.loop s p f k tm d)) (y:AP.func f=some fn) (hk:nth fn.loops k=some lp) (hb:KX tm lp.params vs=some u)
 (h:WP AP ⟨some l,f⟩ lp.assign ⟨u,[],none,H⟩ (RB (WP AP ⟨some l,f⟩ lp.body) l Q)):∃e H',sm AP l vs H e H'/\Q e H':=by
 obtain⟨F,y⟩:=ak.xB y;obtain⟨e,st,o,n0,J⟩:=h.run;cases e with
 |normal =>
  obtain⟨N,x,o⟩:=bM.elim (m:=aG) o;obtain⟨e,z,⟨C,g⟩,n1,L⟩:=WP.run o;have key:∀e' H',Q e' H'->Gv l (e,z)=some (e',H') -> ∃e H',sm AP l vs H e H'/\Q e H':=by
   intro e' H' G he;refine⟨e',H',⟨max n0 n1+1,λ n j hn O=>?_⟩,G⟩;obtain⟨j,rfl⟩:∃i,j=i+1:=⟨j-1,by omega⟩
   have r:=J n j (by omega) (by omega);have t:=L n j (by omega) (by omega);simp only[wO]at r t;simp only[rounds,roundOf,hl,y,qm,hk,hb,exec,r,x,t,C,roundOf.noDefs,xq,he]
  cases e with
  |panic c=>exact key _ _ g rfl
  |normal=>obtain⟨w,q,g⟩:=bM.elim (m:=aG) g;exact key _ _ g (by simp[Gv,q])
  |exit id=>obtain⟨w,q,g⟩:=bM.elim (m:=aG) g;exact key _ _ g (by simp[Gv,q])
  |goto id=>obtain⟨w,q,g⟩:=bM.elim (m:=aG) g;exact key _ _ g (by simp[Gv,q])
  |ret=>obtain⟨w,q,g⟩:=bM.elim (m:=aG) g;exact key _ _ g (by simp[Gv,q])
 |exit _=>exact False.elim o
 |goto _=>exact False.elim o
 |ret=>exact False.elim o
 |panic _=>exact False.elim o
def CALL.Bm{AP:ak}{f:Nat}{vs:List AV}{H:ar}{e:bG}{H':ar}(h:CALL AP f vs H e H'):∃n,AP.call n f vs none H=some (e,none,H'):=by
 obtain⟨n,h⟩:=h;exact⟨n,h n (qg n)⟩
end
end Go.Am
namespace Go.Am
abbrev Env:=List (Nat×AV)
def lA(dst:Option Nat)(v:AV)(E:Env):Env:=match dst with
 |some d=>(d,v)::E
 |none=>E
def sK{α β:Type}(m:Bool)(o:Option (α×β))(K:Bool -> α -> β->Prop):Prop:=match o with
 |some a=>K aG a.1 a.2
 |none=>False
def LK{α:Type}(m:Bool)(o:Option α)(K:Bool -> α->Prop):Prop:=match o with
 |some a=>K m a
 |none=>False
def GS{α:Type}(a:α)(K:Bool -> α->Prop):LK true (some a) K=K true a:=propext j5
@[congr]def O8{α:Type}{m c:Bool}{o o':Option α}{K:Bool -> α->Prop}(hm:m=c)(h:o=o'):LK m o K=LK c o' K:=by subst hm;subst h;rfl
@[congr]def Mb{α β:Type}{m c:Bool}{o o':Option (α×β)}{K:Bool -> α -> β->Prop}(hm:m=c)(h:o=o'):sK m o K=sK c o' K:=by subst hm;subst h;rfl
def sK.intro{α β:Type}{m:Bool}{o:Option (α×β)}{K:Bool -> α -> β->Prop}{a:α}{b:β}(h:o=some (a,b))(hk:K aG a b):sK m o K:=by subst h;exact hk
noncomputable section
variable(AP:ak)
end
end Go.Am
namespace Go.Am
def xlg(n:Int):aj .i64 n=(n+9223372036854775808) % 18446744073709551616-9223372036854775808:=by
 simp[aj,IntKind.wrap,IntKind.bits,IntKind.signed];split<;>omega
def xb4(n:Int):aj .u64 n=n % 18446744073709551616:=by simp[aj,IntKind.wrap,IntKind.bits,IntKind.signed]
def jw{n:Int}(h:-9223372036854775808<=n)(c:n<9223372036854775808):aj .i64 n=n:=by rw[xlg];omega
def ZA{n:Int}(h:0<=n)(c:n<18446744073709551616):aj .u64 n=n:=by rw[xb4];omega
section
variable(k:IntKind)(a b:Int)
def K9(v:AV):Op.move [v]=some v:=rfl
def Lc(q:Bool)(a b:AV):Op.pick [.bool q,a,b]=some (cond q a b):=rfl
def OI:Op.bin .add [.int k a,.int k b]=some (.int k (aj k (a+b))):=by cases k<;>rfl
def QN:Op.bin .sub [.int k a,.int k b]=some (.int k (aj k (a-b))):=by cases k<;>rfl
def NV:Op.bin .mul [.int k a,.int k b]=some (.int k (aj k (a*b))):=by cases k<;>rfl
def NB(hb:b≠0):Op.bin .quo [.int k a,.int k b]=some (.int k (aj k (a.tdiv b))):=by
 have:tj b 0=false:=by rw[C9];simpa using hb
 cases k<;>simp[Op.bin,mV,dT,ta,jU,gq,this]
def tz(hb:b≠0):Op.bin .rem [.int k a,.int k b]=some (.int k (a.tmod b)):=by
 have:tj b 0=false:=by rw[C9];simpa using hb
 cases k<;>simp[Op.bin,mV,dT,ta,jU,gq,this]
def Qi:Op.bin .eql [.int k a,.int k b]=some (.bool (decide (a=b))):=by
 have:tj a b=decide (a=b):=by rw[C9];rfl
 cases k<;>simp[Op.bin,mV,dT,ta,jU,gq,this]
def N0:Op.bin .neq [.int k a,.int k b]=some (.bool (decide (a≠b))):=by
 have:tj a b=decide (a=b):=by rw[C9];rfl
 cases k<;>simp[Op.bin,mV,dT,ta,jU,gq,this]
def ON:Op.bin .lss [.int k a,.int k b]=some (.bool (decide (a<b))):=by
 cases k<;>simp[Op.bin,mV,dT,ta,jU,gq,Nb]
def Pw:Op.bin .leq [.int k a,.int k b]=some (.bool (decide (a<=b))):=by
 cases k<;>simp[Op.bin,mV,dT,ta,jU,gq,FI]
def NP:Op.bin .gtr [.int k a,.int k b]=some (.bool (decide (b<a))):=by
 cases k<;>simp[Op.bin,mV,dT,ta,jU,gq,Nb]
def Qa:Op.bin .geq [.int k a,.int k b]=some (.bool (decide (b<=a))):=by
 cases k<;>simp[Op.bin,mV,dT,ta,jU,gq,FI]
def Jp(k':IntKind):Op.wrap k [.int k' a]=some (.int k (aj k a)):=rfl
def PA(q:Bool):Op.un .not [.bool q]=some (.bool (!q)):=rfl
def xjk(a b:List UInt8):zL a b=decide (a=b):=by
 by_cases h:a=b
 .subst h;simp[Jw]
 .simp [Jw,h]
def Je(a b:List UInt8):Op.bin .eql [.str a,.str b]=some (.bool (decide (a=b))):=by
 simp only[Op.bin,mV,qM,xjk]
def Kr(a b:List UInt8):Op.bin .neq [.str a,.str b]=some (.bool (decide (a≠b))):=by
 simp[Op.bin,mV,qM,xjk]
def Bq(s:List UInt8):Op.fg [.str s]=some (.int .i64 s.length):=by simp[Op.fg,eP,HE]
def xkj(i:Nat)(l:List AV):Op.extract i [.tuple l]=l[i]?:=by simp[Op.extract,lS]
def AH(f n:Nat)(l:List AV):Op.bC f n l=some (.fn (.func f) (l.take n) (l.drop n)):=rfl
def xkl(t:Nat)(v:AV):Op.dp t [v]=some (.iface t v):=rfl
def xdj(off b o:Nat):Op.fieldAddr off [.ptr b o]=some (.ptr b (o+off)):=rfl
def zT(off:Nat)(l:List AV):Op.field off none [.agg l]=l[off]?:=by simp[Op.field,partAt,lS]
def KG(q:Bool):cM true (some (.bool q))=some q:=by cases q<;>rfl
def Fx(q:Bool):cM false (some (.bool q))=some (!q):=by cases q<;>rfl
def FF(b:Bool):cM b (some .undef)=some false:=rfl
end
structure Fr(W:Nat->Prop)(H H':ar):Prop where
 au:H.au<=H'.au
 ah:∀b,b<H.au -> ¬W b->H'.get b=H.get b
def Em:Nat->Prop:=λ _=>False
def On(b:Nat):Nat->Prop:=λ x=>x=b
def Fr.refl{W:Nat->Prop}(H:ar):Fr W H H:=⟨qg _,λ _ _ _=>rfl⟩
def Fr.trans{W W':Nat->Prop}{H H1 d:ar}(a:Fr W H H1)(b:Fr W' H1 d)(h:∀x,W' x->W x\/H.au<=x):Fr W H d :=
 ⟨xv a.au b.au,λ x f hw=>by
  rw[b.ah x (qj f a.au) (λ c=>(h x c).elim hw (λ q=>by omega)),a.ah x f hw]⟩
def Fr.em{W:Nat->Prop}{H H1 c:ar}(a:Fr W H H1)(b:Fr Em H1 c):Fr W H c:=a.trans b λ _ h=>h.elim
def Fr.mono{W W':Nat->Prop}{H H':ar}(a:Fr W H H')(h:∀x,x<H.au->W x->W' x):Fr W' H H':=⟨a.au,λ x c hw=>a.ah x c λ q=>hw (h x c q)⟩
def xx(H:ar)(o:bH):(H.alloc o).au=H.au+1:=rfl
def sT(H:ar)(b:Nat)(o:bH):(H.set b o).au=H.au:=rfl
def GH(H:ar)(b:Nat):(H.kill b).au=H.au:=rfl
def Fr.alloc{W:Nat->Prop}{H H1:ar}(a:Fr W H H1)(o:bH):Fr W H (H1.alloc o) :=
 ⟨Nat.le_succ_of_le a.au,λ x c hw=>by rw[ar.bJ,qo (by have:=a.au;omega),a.ah x c hw]⟩
def Fr.set{W:Nat->Prop}{H H1:ar}(a:Fr W H H1){b:Nat}(h:W b\/H.au<=b)(o:bH):Fr W H (H1.set b o) :=
 ⟨a.au,λ x c hw=>by rw[ar.aI,qo (by rintro rfl;exact h.elim hw (λ q=>by omega)),a.ah x c hw]⟩
def Fr.kill{W:Nat->Prop}{H H1:ar}(a:Fr W H H1){b:Nat}(h:W b\/H.au<=b):Fr W H (H1.kill b) :=
 ⟨a.au,λ x c hw=>by rw[ar.pU,qo (by rintro rfl;exact h.elim hw (λ q=>by omega)),a.ah x c hw]⟩
def qy{H:ar}{b:Nat}{c:List AV}{e:Nat}{fz:Nat×Nat}{ow:Bool}(h:H.get b=some (.row c e fz ow)):H.bT b=some c:=by simp[ar.bT,h]
def XW{H:ar}{b m s:Nat}{c:List AV}{e:Nat}{fz:Nat×Nat}(h:H.get b=some (.grown m s c e fz)):H.bT b=some c:=by simp[ar.bT,h]
def q6h{H H':ar}{b:Nat}(h:H'.get b=H.get b):H'.bT b=H.bT b:=by simp[ar.bT,h]
def Fr.cells{W:Nat->Prop}{H H':ar}(a:Fr W H H'){b:Nat}(hb:b<H.au)(hw:¬W b):H'.bT b=H.bT b:=q6h (a.ah b hb hw)
def x9{H:ar}{b:Nat}{c:List AV}(h:H.bT b=some c)(o:Nat):Op.ae [.ptr b o] H=c[o]?:=by simp[Op.ae,ar.ae,h,lS]
def rD{H:ar}{b:Nat}{c:List AV}(h:H.bT b=some c){o n:Nat}(hn:o+n<=c.length):Op.aq n [.ptr b o] H=some (.agg ((c.drop o).take n)):=by
 simp only[Op.aq,ar.aq,h,qm,u9];rw[qr (by omega)];rfl
def Sl(H:ar)(size:Nat)(v:AV)(n:Nat)(cells:List AV):Prop :=
 cells.length=n*size/\match v with
 | .nils=>n=0
 | .slice b o m c=>m=n/\n<=c/\(n=0\/b<H.au /\ ∃all,H.bT b=some all/\fF all o (n*size)=some cells)
 | .gslice b i m s alt k=>k=n/\s=size/\i+n<=m/\(n=0\/b<H.au /\ ∃all,H.bT b=some all/\fF all (i*size) (n*size)=some cells)
 | .eslice b=>n=0/\b<H.au
 |_=>False
def aH:AV->Nat
 | .slice b _ _ _=>b
 | .gslice b _ _ _ _ _=>b
 | .eslice b=>b
 |_=>0
def cF(size:Nat):AV->Nat->Nat
 | .slice _ o _ _,j=>o+j*size
 | .gslice _ i _ s _ _,j=>i*s+j*s
 |_,_=>0
def Sl.fj{H:ar}{size:Nat}{v:AV}{n:Nat}{cells:List AV}(h:Sl H size v n cells):fj v=some n:=by
 obtain⟨_,h⟩:=h;split at h
 .subst h;rfl
 .obtain ⟨rfl,_⟩:=h;rfl
 .obtain ⟨rfl,_⟩:=h;rfl
 .obtain ⟨rfl,_⟩:=h;rfl
 .exact h.elim
def Sl.len{H:ar}{size:Nat}{v:AV}{n:Nat}{cells:List AV}(h:Sl H size v n cells):Op.db [v]=some (.int .i64 n):=by
 obtain⟨_,h⟩:=h;split at h
 .subst h;rfl
 .obtain ⟨rfl,_⟩:=h;rfl
 .obtain ⟨rfl,_⟩:=h;rfl
 .obtain ⟨rfl,_⟩:=h;rfl
 .exact h.elim
def Ke{z:Int}{i n:Nat}(c:z=i)(h:i<n):within z n=some i:=by
 subst c;show cond (Nat.blt i n) (some i) none=some i;have:Nat.blt i n=true:=by simpa[tZ]using h
 rw[this];rfl
def LB{i j:Nat}(h:i≠j):Nat.beq i j=false:=by
 cases q:Nat.beq i j with
 |false=>rfl
 |true=>exact(h (wq q)).elim
def EW{i n:Nat}(h:i<n):Nat.blt i n=true:=by simpa[tZ]using h
def ve{i n:Nat}(h:i<=n):Nat.ble i n=true:=by simpa using h
def Sl.idx{H:ar}{size:Nat}{v:AV}{n:Nat}{cells:List AV}(h:Sl H size v n cells){i:Nat}(d:i<n){z:Int}(g:z=i)(k:IntKind) :
 Op.aO size [v,.int k z]=some (.ptr (aH v) (cF size v i)):=by
 obtain⟨hl,h⟩:=h;split at h
 .omega
 .rename_i b o m c;obtain⟨rfl,p,h⟩:=h;have f:=EW d;simp[Op.aO,Am.fj,Ke g d,elemAt,f,aH,cF]
 .rename_i b j m s alt k;obtain⟨rfl,rfl,hm,h⟩:=h;have f:=EW d;have l:=EW (show j+i<m by omega);simp[Op.aO,Am.fj,Ke g d,elemAt,f,l,aH,cF]
 .omega
 .exact h.elim
def SD{α:Type}{l r:List α}{o n:Nat}(h:fF l o n=some r):n<=l.length-o/\r=(l.drop o).take n:=by
 rw[u9]at h;split at h
 .rename_i hn;injection h with h;exact⟨hn,h.symm⟩
 .cases h
def Sl.at{H:ar}{size:Nat}{v:AV}{n:Nat}{cells:List AV}(g:0<size)(h:Sl H size v n cells){i:Nat}(p:i<n) :
 aH v<H.au /\ ∃all,H.bT (aH v)=some all/\cF size v i+size<=all.length /\ ∀j,j<size->all[cF size v i+j]? = cells[i*size+j]?:=by
 obtain⟨hl,h⟩:=h;have t:0<n*size:=Nat.mul_pos (by omega) g;have u:i*size+size<=n*size:=by rw[<-uU];exact jz _ p
 split at h
 .omega
 .rename_i b o m c;obtain⟨rfl,w,h⟩:=h;rcases h with h|⟨hb,all,d,f⟩
  .omega
  obtain⟨l,rfl⟩:=SD f;refine⟨hb,all,d,?_,λ j r=>?_⟩
  .simp only[cF];simp at hl;omega
  .simp only[cF];rw[yj,qr (by omega),yr];congr 1;omega
 .rename_i b q m s alt k;obtain⟨rfl,rfl,hm,h⟩:=h;rcases h with h|⟨hb,all,d,f⟩
  .omega
  obtain⟨l,rfl⟩:=SD f;refine⟨hb,all,d,?_,λ j r=>?_⟩
  .simp only[cF];simp at hl;omega
  .simp only[cF];rw[yj,qr (by omega),yr];congr 1;omega
 .omega
 .exact h.elim
def Sl.fr{H H':ar}{W:Nat->Prop}{size:Nat}{v:AV}{n:Nat}{cells:List AV}(h:Sl H size v n cells)(f:Fr W H H')(hw:n=0 \/ ¬W (aH v)):Sl H' size v n cells:=by
 obtain⟨hl,h⟩:=h;refine⟨hl,?_⟩;split at h
 .exact h
 .obtain ⟨d,g,c⟩:=h;refine⟨d,g,?_⟩;rcases c with c|⟨hb,all,c,i⟩
  .exact .inl c
  .rcases hw with hw|hw
   .exact .inl hw
   .exact .inr ⟨qj hb f.au,all,by rw[f.cells hb hw];exact c,i⟩
 .obtain ⟨d,g,j,c⟩:=h;refine⟨d,g,j,?_⟩;rcases c with c|⟨hb,all,c,i⟩
  .exact .inl c
  .rcases hw with hw|hw
   .exact .inl hw
   .exact .inr ⟨qj hb f.au,all,by rw[f.cells hb hw];exact c,i⟩
 .exact ⟨h.1,qj h.2 f.au⟩
 .exact h.elim
def Sl.em{H H':ar}{size:Nat}{v:AV}{n:Nat}{cells:List AV}(h:Sl H size v n cells)(f:Fr Em H H'):Sl H' size v n cells:=h.fr f (.inr id)
def Sl.first{H:ar}{size:Nat}{v:AV}{n:Nat}{cells:List AV}(h:Sl H size v n cells):firstCells H size n v=some cells:=by
 obtain⟨hl,h⟩:=h;split at h
 .subst h;simp at hl;subst hl;rfl
 .rename_i b o m c;obtain⟨rfl,j,h⟩:=h;rcases h with rfl|⟨hb,all,d,f⟩
  .simp at hl;subst hl;rfl
  .by_cases hn:m=0
   .subst hn;simp at hl;subst hl;rfl
   .have:Nat.beq m 0=false:=LB hn;simp only[firstCells,this,zj,ar.aq,d,qm,f]
 .rename_i b i m s alt k;obtain⟨rfl,rfl,hm,h⟩:=h;rcases h with rfl|⟨hb,all,d,f⟩
  .simp at hl;subst hl;rfl
  .by_cases hn:k=0
   .subst hn;simp at hl;subst hl;rfl
   .have:Nat.beq k 0=false:=LB hn;have g:=EW (show i<m by omega);simp[firstCells,this,g,ar.aq,d,f]
 .obtain ⟨rfl,_⟩:=h;simp at hl;subst hl;rfl
 .exact h.elim
def dU{α:Type}(enc:α->List AV)(size:Nat)(H:ar)(v:AV)(xs:List α):Prop:=Sl H size v xs.length (xs.flatMap enc)
section
variable{α:Type}{enc:α->List AV}{size:Nat}{H H':ar}{v:AV}{xs:List α}
def dU.len(h:dU enc size H v xs):Op.db [v]=some (.int .i64 xs.length):=Sl.len h
def dU.fr{W:Nat->Prop}(h:dU enc size H v xs)(f:Fr W H H')(hw:¬W (aH v)):dU enc size H' v xs:=Sl.fr h f (.inr hw)
def dU.em(h:dU enc size H v xs)(f:Fr Em H H'):dU enc size H' v xs:=Sl.em h f
def IK(hs:∀x,(enc x).length=size):∀(xs:List α){i:Nat}{x:α},xs[i]? = some x -> ∀{j:Nat},j<size->(xs.flatMap enc)[i*size+j]? = (enc x)[j]?
 |[],i,x,h,j,hj=>by simp at h
 |y::ys,0,x,h,j,hj=>by
  simp at h;subst h;rw[js,je (by rw[hs];omega)];simp
 |y::ys,i+1,x,h,j,hj=>by
  simp only[zr]at h;rw[js,zh (by rw[hs,uU];omega),hs,<-IK hs ys h hj];congr 1;rw[uU];omega
def EE{i:Nat}{x:α}(h:xs[i]? = some x):i<xs.length:=(qk.1 h).1
def dU.idx(h:dU enc size H v xs){i:Nat}{x:α}(c:xs[i]? = some x){z:Int}(d:z=i)(k:IntKind):Op.aO size [v,.int k z]=some (.ptr (aH v) (cF size v i)) :=
 Sl.idx h (EE c) d k
def dU.ae(hs:∀x,(enc x).length=size)(h:dU enc size H v xs){i:Nat}{x:α}(d:xs[i]? = some x){j:Nat}(c:j<size):Op.ae [.ptr (aH v) (cF size v i+j)] H=(enc x)[j]?:=by
 obtain⟨_,all,f,l,g⟩:=Sl.at (by omega) h (EE d);rw[x9 f,g j c,IK hs xs d c]
def dU.kP(hs:∀x,(enc x).length=size)(h:dU enc size H v xs){i:Nat}{x:α}(d:xs[i]? = some x)(c:0<size):Op.ae [.ptr (aH v) (cF size v i)] H=(enc x)[0]?:=h.ae hs d c
def dU.aq(hs:∀x,(enc x).length=size)(d:0<size)(h:dU enc size H v xs){i:Nat}{x:α}(f:xs[i]? = some x):Op.aq size [.ptr (aH v) (cF size v i)] H=some (.agg (enc x)):=by
 obtain⟨_,all,g,l,m⟩:=Sl.at d h (EE f);rw[rD g l];congr 2;refine jy λ j=>?_
 by_cases c:j<size
 .rw [yj,qr c,yr,m j c,IK hs xs f c]
 .rw [zz (by simp;omega),zz (by rw[hs];omega)]
end
def Own(H:ar)(e size:Nat)(v:AV)(n:Nat)(cells:List AV):Prop :=
 cells.length=n*size/\(n=0/\(v=.nils \/ ∃b,v=.slice b 0 0 0/\b<H.au) \/ ∃b,v=.gslice b 0 n size 0 n/\b<H.au/\H.get b=some (.grown n size cells e (0,0)))
def aW(v:AV):Nat->Prop:=λ x=>v≠ .nils/\x=aH v
def Own.nil(H:ar)(e size:Nat):Own H e size .nils 0 []:=⟨by simp,.inl ⟨rfl,.inl rfl⟩⟩
def Own.sl{H:ar}{e size:Nat}{v:AV}{n:Nat}{cells:List AV}(h:Own H e size v n cells):Sl H size v n cells:=by
 obtain⟨hl,⟨rfl,rfl|⟨b,rfl,hb⟩⟩|⟨b,rfl,c,d⟩⟩:=h
 .exact ⟨hl,rfl⟩
 .exact ⟨hl,rfl,qg _,.inl rfl⟩
 .refine ⟨hl,rfl,rfl,by omega,.inr ⟨c,cells,XW d,?_⟩⟩;rw[u9,qr (by simp[hl])];simp[<-hl]
def Own.fr{H H':ar}{W:Nat->Prop}{e size:Nat}{v:AV}{n:Nat}{cells:List AV}(h:Own H e size v n cells)(f:Fr W H H')(hw:∀x,aW v x -> ¬W x):Own H' e size v n cells:=by
 obtain⟨hl,⟨c,h|⟨b,rfl,hb⟩⟩|⟨b,rfl,d,g⟩⟩:=h
 .exact ⟨hl,.inl ⟨c,.inl h⟩⟩
 .exact ⟨hl,.inl ⟨c,.inr ⟨b,rfl,qj hb f.au⟩⟩⟩
 .exact ⟨hl,.inr ⟨b,rfl,qj d f.au,by rw[f.ah b d (hw b ⟨by simp,rfl⟩)];exact g⟩⟩
def Own.em{H H':ar}{e size:Nat}{v:AV}{n:Nat}{cells:List AV}(h:Own H e size v n cells)(f:Fr Em H H'):Own H' e size v n cells:=h.fr f λ _ _ h=>h
def Own.lt{H:ar}{e size:Nat}{v:AV}{n:Nat}{cells:List AV}(h:Own H e size v n cells):∀x,aW v x->x<H.au:=by
 rintro x ⟨c,rfl⟩;obtain⟨hl,⟨d,h|⟨b,rfl,hb⟩⟩|⟨b,rfl,c,f⟩⟩:=h
 .exact (c h).elim
 .exact hb
 .exact c
def Sl.one{H:ar}{size:Nat}{v:AV}{n:Nat}{cells:List AV}(h:Sl H size v n cells):av v=true:=by
 obtain⟨_,h⟩:=h;cases v<;>first|rfl|exact h.elim
def Rk{n bytes:Nat}(c:n*bytes<=140737488355328)(d:n<=140737488355328):fits n bytes=true:=by
 simp[fits,c,d]
def ZF{H:ar}{e size bytes:Nat}{v:AV}{n:Nat}{cells:List AV}(h:Own H e size v n cells){x:AV}{k:Nat}{new:List AV}(q:Sl H size x k new)(g:aJ new=true)(hs:0<size)
 (w:(n+k)*bytes<=140737488355328) (o:n+k<=140737488355328) {K:Bool->AV->ar->Prop} {m:Bool}
 (hk:∀r H',Own H' e size r (n+k) (cells++new)->Fr (aW v) H H'->(∀b,aW r b->aW v b\/H.au<=b)->K aG r H'):sK m (Op.append e size bytes [v,x] H) K:=by
 have c:=Rk w o;have hlen:new.length=k*size:=q.1;have f:=EW hs;have l:∀n,Nat.beq n n=true:=λ n=>by simp
 simp only[Op.append,q.fj,q.first,qm,g,xq];obtain⟨hl,⟨rfl,rfl|⟨b,rfl,hb⟩⟩|⟨b,rfl,t,s⟩⟩:=h
 .simp only[wv,jv]at hl;subst hl
  by_cases d:k=0
  .subst d;simp at hlen;subst hlen;exact hk .nils H (Own.nil H e size) (Fr.refl H) λ b hb=>.inl hb
  .have i:Nat.beq k 0=false:=LB d;simp only[cV,i,zj,j4]at c⊢;simp only[c,f,jo,xq,di,sK];refine hk _ _ ⟨by simpa using hlen,.inr ⟨H.au,by simp,by rw[xx];omega,?_⟩⟩ ((Fr.refl H).alloc _) λ b hb=>.inr (by rw[hb.2];exact qg _);rw[ar.bJ,qr rfl];simp
 .simp only[wv,jv]at hl;subst hl
  by_cases d:k=0
  .subst d;simp at hlen;subst hlen;simp only[cV,vh,ve (qg 0),xq,l,sK];exact hk _ H ⟨by simp,.inl ⟨rfl,.inr ⟨b,rfl,hb⟩⟩⟩ (Fr.refl H) λ b hb=>.inl hb
  .have i:Nat.beq k 0=false:=LB d;have j:Nat.ble k 0=false:=by cases p:Nat.ble k 0 with|false=>rfl|true=>rw[rX]at p;omega
   have u:firstCells H size 0 (.slice b 0 0 0)=some []:=rfl;simp only[cV,j4,j,zj]at c⊢;simp only[c,ve (xy k),f,jo,xq,u,qm,oE,zx,di,sK];refine hk _ _ ⟨by simpa using hlen,.inr ⟨H.au,by simp,by rw[xx];omega,?_⟩⟩ ((Fr.refl H).alloc _) λ b hb=>.inr (by rw[hb.2];exact qg _);rw[ar.bJ,qr rfl];simp
 .by_cases d:k=0
  .subst d;simp at hlen;subst hlen;simp only[cV,Nat.beq,xq,j4,ve (qg n),sK];refine hk _ _ ⟨by simpa using hl,.inr ⟨b,rfl,t,by simpa using s⟩⟩ (Fr.refl H) λ b hb=>.inl hb
  .have i:Nat.beq k 0=false:=LB d;have j:Nat.ble (0+n+k) n=false:=by cases p:Nat.ble (0+n+k) n with|false=>rfl|true=>rw[rX]at p;omega
   simp only[cV,i,zj,l,j4,ve (qg n),f,jo,xq]at j⊢;simp only[j,zj,c,xq,s,l,jo,Nat.beq,ve (xy (n*size)),di,sK];refine hk _ _ ⟨by simp[hl,hlen,yg],.inr ⟨H.au,by simp[GH],by rw[xx,GH];omega,?_⟩⟩ (((Fr.refl H).kill (.inl ⟨by simp,rfl⟩)).alloc _) λ b hb=>.inr (by rw[hb.2];exact qg _);rw[ar.bJ,GH,qr rfl,oE]
def XA(e n:Nat)(zero:List AV)(v:AV)(f:zero.length=n)(d:v.cells.length=n):Op.buildSlice e 1 zero [(0,n)] [v]=some (.row v.cells e (0,0) true,Op.sliceTo 1 1):=by
 have c:∀n,Nat.beq n n=true:=λ n=>by simp
 simp only[Op.buildSlice,fq,oE,zf,iP,HE,d,c,xq,Eg,j4,f,qr (qg n),yu,zx,qm];rw[jf (by omega)];simp
def Al{H:ar}{size e:Nat}{cells:List AV}(c:cells.length=size):Sl (H.alloc (.row cells e (0,0) true)) size (Op.sliceTo 1 1 H.au) 1 cells:=by
 refine⟨by simp[c],rfl,qg 1,.inr ⟨by rw[xx];omega,cells,qy (by rw[ar.bJ,qr rfl]),?_⟩⟩;rw[u9,qr (by simp[c])];simp[<-c]
def Hk{H:ar}{e size bytes:Nat}{v:AV}{n:Nat}{cells:List AV}(h:Own H e size v n cells){zero:List AV}{x:AV}(t:zero.length=size)(l:x.cells.length=size)(d:aJ x.cells=true)(hs:0<size)
 (s:(n+1)*bytes<=140737488355328) (i:n+1<=140737488355328) {K:bH->(Nat->AV)->Bool->AV->ar->Prop} {m:Bool}
 (hk:∀f H',Own H' e size f (n+1) (cells++x.cells)->Fr (aW v) H H'->(∀b,aW f b->aW v b\/H.au<=b)->K (.row x.cells e (0,0) true) (Op.sliceTo 1 1) aG f H') :
 sK m (Op.buildSlice e 1 zero [(0,size)] [x]) λ g o mk=>sK g (Op.append e size bytes [v,mk H.au] (H.alloc o)) (K o mk):=by
 rw[XA e size zero x t l];have c:Fr Em H (H.alloc (.row x.cells e (0,0) true)):=(Fr.refl H).alloc _;refine sK.intro rfl ?_;refine ZF (m:=aG) (h.em c) (Al l) d hs s i λ f H' p j r=>hk f H' p ?_ λ b hb=>?_
 .exact ⟨xv c.au j.au,λ b hb hw=>by rw[j.ah b (qj hb c.au) hw,c.ah b hb (λ q=>q)]⟩
 .exact (r b hb).imp id λ q=>xv c.au q
def Jz.intro{W:St->cB->Prop}{ah:Option (List Nat)}{st:St}{Q:cB}(I:Nat->St->Prop)(n:Nat)(d:I n st)
 (h:∀n st,I n st->W (jZ ah st) λ e c=>match e with
  | .normal=>∃m,m<n/\I m c
  |e=>Q e c):Jz W ah st Q:=⟨I,⟨n,d⟩,h⟩
end Go.Am
namespace Go.Am
def Hl(H:ar)(tm:T AV)(t:Nat)(rs:List dX):dQ H tm (.tmp t::rs)=(tm.get t).bind λ v=>(dQ H tm rs).bind λ vs=>some (v::vs):=rfl
def xk0(H:ar)(tm:T AV)(t:Nat)(rs:List dX):dQ H tm (.kD t::rs)=(((tm.get t).bind λ v=>Op.ae [v] H)).bind λ v=>(dQ H tm rs).bind λ vs=>some (v::vs):=by
 simp only[dQ,Mu];congr 1;cases tm.get t with
 |none=>rfl
 |some v=>cases v<;>rfl
def xk1(H:ar)(tm:T AV)(n t:Nat)(rs:List dX):dQ H tm (.cw n t::rs)=(((tm.get t).bind λ v=>Op.aq n [v] H)).bind λ v=>(dQ H tm rs).bind λ vs=>some (v::vs):=by
 simp only[dQ,Mu];congr 1;cases tm.get t with
 |none=>rfl
 |some v=>cases v<;>rfl
def Uu(v:AV):iT [v]=v:=rfl
def VW:iT []=.tuple []:=rfl
def TF(a b:AV)(l:List AV):iT (a::b::l)=.tuple (a::b::l):=rfl
def Qw(b:Nat):Op.ptrTo b=.ptr b 0:=rfl
def CC(t:aQ)(x y:AV)(H:ar)(q:Bool)(h:bj t x y=some q):Op.eq (.agg t) true [x,y] H=some (.bool (!q)):=by simp[Op.eq,Ig,h]
def yW(t:aQ)(x y:AV)(H:ar)(q:Bool)(h:bj t x y=some q):Op.eq (.agg t) false [x,y] H=some (.bool q):=by simp[Op.eq,Ig,h]
structure ic where
 kind:Int
 time:Int
 core:Int
 block:Int
 V9:Int
 lane:Int
 addr:Int
 value:Int
 code:Int
deriving DecidableEq
def ic.enc(x:ic):List AV:=[.int .i64 x.kind,.int .i64 x.time,.int .i64 x.core,.int .i64 x.block,.int .i64 x.V9,.int .i64 x.lane,.int .i64 x.addr,.int .u64 x.value,.int .i64 x.code]
def ic.len(x:ic):x.enc.length=9:=rfl
def j1(a b:Int):tj a b=decide (a=b):=by rw[C9];rfl
end Go.Am
namespace Go.Am
def T.wH{α:Type}(v c:Option α):∀(p:List Bool)(t:T α),T.ft v p (T.ft c p t)=T.ft v p t
 |[],t=>rfl
 |b::p,t=>by cases b<;>simp[T.ft,T.l,T.r,T.val,T.wH v c p]
def Il(H:ar)(o o':bH):(H.alloc o).set H.au o'=H.alloc o':=by
 simp only[ar.alloc,ar.set,T.set,T.put,T.wH]
def xf(H:ar)(o:bH):(H.alloc o).get H.au=some o:=by rw[ar.bJ,qr rfl]
def bX(H:ar)(o:bH):∃Z,Z=H.alloc o/\Fr Em H Z/\Z.au=H.au+1/\Z.get H.au=some o:=⟨_,rfl,(Fr.refl H).alloc _,xx ..,xf ..⟩
def wy{H:ar}{b:Nat}(h:b<H.au)(o:bH):(H.alloc o).get b=H.get b:=by rw[ar.bJ,qo (by omega)]
def xc(H:ar)(b:Nat)(o:bH):(H.set b o).get b=some o:=by rw[ar.aI,qr rfl]
def yo{H:ar}{b c:Nat}(h:b≠c)(o:bH):(H.set b o).get c=H.get c:=by rw[ar.aI,qo h]
def ug{H:ar}{b:Nat}{c:List AV}{e:Nat}(h:H.get b=some (.row c e (0,0) true)){o n:Nat}{v:AV}(d:v.cells.length=n)(hn:o+n<=c.length)(g:aJ v.cells=true) :
 Op.store n [.ptr b o,v] H=some (.undef,H.set b (.row (c.take o++v.cells++c.drop (o+n)) e (0,0) true)):=by
 have f:∀n,Nat.beq n n=true:=λ n=>by simp
 simp only[Op.store,HE,d,f,xq,ar.store,g,h];have:dY (0,0) o n=true:=by simp[dY]
 simp only[this,xq,Eg,d,qr hn,qm]
def q4z{H:ar}{b m s:Nat}{c:List AV}{e:Nat}(h:H.get b=some (.grown m s c e (0,0))){o n:Nat}{v:AV}(d:v.cells.length=n)(hn:o+n<=c.length)(g:aJ v.cells=true) :
 Op.store n [.ptr b o,v] H=some (.undef,H.set b (.grown m s (c.take o++v.cells++c.drop (o+n)) e (0,0))):=by
 have f:∀n,Nat.beq n n=true:=λ n=>by simp
 simp only[Op.store,HE,d,f,xq,ar.store,g,h];have:dY (0,0) o n=true:=by simp[dY]
 simp only[this,xq,Eg,d,qr hn,qm]
def Kd(H:ar)(c:List AV)(e:Nat)(fz:Nat×Nat)(ow:Bool)(o:Nat):Op.ae [.ptr H.au o] (H.alloc (.row c e fz ow))=c[o]?:=x9 (qy (xf H _)) o
def sI(H:ar)(c:List AV)(e:Nat)(fz:Nat×Nat)(ow:Bool)(n:Nat)(hn:c.length=n):Op.aq n [.ptr H.au 0] (H.alloc (.row c e fz ow))=some (.agg c):=by
 rw[rD (qy (xf H _)) (by omega)];simp[<-hn]
def a9{α:Type}(enc:α->List AV)(e size:Nat)(H:ar)(v:AV)(xs:List α):Prop:=Own H e size v xs.length (xs.flatMap enc)
structure zF{α:Type}(enc:α->List AV)(e size:Nat)(H0 H:ar)(v:AV)(xs:List α):Prop where
 own:a9 enc e size H v xs
 fr:Fr Em H0 H
 fresh:∀b,aW v b->H0.au<=b
section
variable{α:Type}{enc:α->List AV}{e size:Nat}{H0 H H':ar}{v:AV}{xs:List α}
def dU.one(h:dU enc size H v xs):av v=true:=Sl.one h
def zF.nil(H:ar):zF enc e size H H .nils ([]:List α):=⟨Own.nil H e size,Fr.refl H,λ b h=>(h.1 rfl).elim⟩
def zF.sl(h:zF enc e size H0 H v xs):dU enc size H v xs:=Own.sl h.own
def a9.sl(h:a9 enc e size H v xs):dU enc size H v xs:=Own.sl h
def zF.em(h:zF enc e size H0 H v xs)(f:Fr Em H H'):zF enc e size H0 H' v xs:=⟨Own.em h.own f,h.fr.em f,h.fresh⟩
def zF.len(h:zF enc e size H0 H v xs):Op.db [v]=some (.int .i64 xs.length):=h.sl.len
def zF.step(h:zF enc e size H0 H v xs){c:AV}{ys:List α}(d:a9 enc e size H' c ys)(f:Fr (aW v) H H')(g:∀b,aW c b->aW v b\/H.au<=b):zF enc e size H0 H' c ys :=
 ⟨d,h.fr.trans f λ x i=>.inr (h.fresh x i),λ b hb=>(g b hb).elim (h.fresh b) λ q=>xv h.fr.au q⟩
def PB{f:α->List AV}(hs:∀x,(f x).length=size):∀(xs:List α){i:Nat}{x:α},xs[i]? = some x -> ∀(y:α),(xs.set i y).flatMap f=(xs.flatMap f).take (i*size)++f y++(xs.flatMap f).drop (i*size+size)
 |[],i,x,h,y=>by simp at h
 |z::zs,0,x,h,y=>by
  simp at h;subst h;simp only[List.set_cons_zero,js,wv,yu,zx,j4];rw[yq (by rw[hs];omega),jf (by rw[hs];omega),zx]
 |z::zs,i+1,x,h,y=>by
  simp only[zr]at h;have c:(f z++zs.flatMap f).take ((i+1)*size)=f z++(zs.flatMap f).take (i*size):=by
   rw[show(i+1)*size=(f z).length+i*size from by rw[hs,uU];omega,Sz]
  have d:(f z++zs.flatMap f).drop ((i+1)*size+size)=(zs.flatMap f).drop (i*size+size):=by
   rw[show(i+1)*size+size=(f z).length+(i*size+size)from by rw[hs,uU];omega,QH]
  rw[List.set_cons_succ,js,js,PB hs zs h y,c,d];simp only[zm]
def Dg(hs:∀x,(enc x).length=size)(l:List α):(l.flatMap enc).length=l.length*size:=by
 induction l with
 |nil=>simp
 |cons a l ih=>rw[js,qv,hs,ih,z7,uU];omega
def xk6{L E:List AV}{c j:Nat}{u:AV}(i:E.length=size)(l:j<size)(hk:c+size<=L.length)(h:∀r,r<size->L[c+r]? = E[r]?) :
 L.take c++E.set j u++L.drop (c+size)=L.set (c+j) u:=by
 refine jy λ k=>?_;have g:(L.take c).length=c:=by rw[j9];omega
 rw[zm,List.getElem?_set];rcases xr k c with q|q
 .rw [je (by omega),yj,qr q,qo (by omega)]
 .rw [zh (by omega),g];obtain⟨r,rfl⟩:∃r,k=c+r:=⟨k-c,by omega⟩
  rw[show c+r-c=r from by omega];rcases xr r size with f|f
  .rw [je (by rw[xg];omega),List.getElem?_set]
   by_cases d:j=r
   .subst d;rw[qr rfl,qr rfl,qr (by omega),qr (by omega)]
   .rw [qo d,qo (by omega),h r f]
  .rw [zh (by rw[xg];omega),xg,yr,qo (by omega)];congr 1;omega
def a9.xU(hs:∀x,(enc x).length=size)(h:a9 enc e size H v xs){i:Nat}{x y:α}(c:xs[i]? = some x){j:Nat}(p:j<size){u:AV}(hu:av u=true)(q:enc y=(enc x).set j u) :
 ∃H',Op.store 1 [.ptr (aH v) (cF size v i+j),u] H=some (.undef,H')/\a9 enc e size H' v (xs.set i y)/\Fr (aW v) H H':=by
 obtain⟨hl,h|⟨b,rfl,g,l⟩⟩:=h
 .rw [jv.1 h.1]at c;simp at c
 .have m:=EE c;have hb:(i+1)*size<=xs.length*size:=jz _ m;rw[uU]at hb;have d:u.cells=[u]:=by cases u<;>first|rfl|cases hu
  have f:=q4z l (o:=i*size+j) (n:=1) (v:=u) (by rw[d];rfl) (by omega) (by rw[d,yn];simpa using hu);have ho:cF size (AV.gslice b 0 xs.length size 0 xs.length) i=i*size:=by simp[cF]
  rw[ho];refine⟨_,f,⟨?_,.inr ⟨b,?_,g,?_⟩⟩,(Fr.refl H).set (.inl ⟨by simp,rfl⟩) _⟩
  .rw [xg,Dg hs,xg]
  .rw [xg]
  .rw [xg,xc,PB hs xs c,q,d,xk6 (L:=xs.flatMap enc) (E:=enc x) (hs x) p (by omega) (λ r hr=>IK hs xs c hr),List.set_eq_take_append_cons_drop,qr (by omega)];simp
end
abbrev OR(c:List AV)(e:Nat):bH:=.row c e (0,0) true
end Go.Am
namespace Go.Am
def wW{k c d:Nat}{z:Int}(f:z=k)(h:k<=c)(kk:IntKind):bound (some (.int kk z)) d c=some k:=by
 subst f;show cond (Nat.ble k c) (some k) none=some k;rw[ve h];rfl
def Sl.from{H:ar}{size:Nat}{v:AV}{n:Nat}{cells:List AV}(h:Sl H size v n cells){k:Nat}(hk:k<=n){z:Int}(l:z=k)(kk:IntKind) :
 ∃p,Op.aL size [some 0,none,none] [v,.int kk z]=some p/\Sl H size p (n-k) (cells.drop (k*size))/\(p=.nils\/aH p=aH v):=by
 obtain⟨hl,h⟩:=h;have hlen:(cells.drop (k*size)).length=(n-k)*size:=by rw[ya,hl,Nat.sub_mul]
 have y:k*size<=n*size:=jz _ hk;have f:(n-k)*size=n*size-k*size:=Nat.sub_mul n k size;split at h
 .subst h;have:k=0:=by omega
  subst this;refine⟨.nils,?_,⟨hlen,rfl⟩,.inl rfl⟩;have j:bound none 0 0=some 0:=rfl;simp[Op.aL,arg,lS,eO,j,wW l (qg 0)]
 .rename_i b o m c;obtain⟨rfl,F,h⟩:=h;have g:∀d m,bound none d m=some d:=λ _ _=>rfl;refine⟨.slice b (cond (Nat.beq c k) o (o+k*size)) (m-k) (c-k),by simp[Op.aL,arg,lS,eO,g,wW l hk],⟨hlen,rfl,by omega,?_⟩,.inr rfl⟩;rcases h with h|⟨hb,all,r,t⟩
  .left;omega
  .by_cases he:c=k
   .left;omega
   .right;obtain⟨x,rfl⟩:=SD t;refine⟨hb,all,r,?_⟩;rw[LB he,zj,u9,qr (by omega),List.drop_take,IH];simp[f]
 .rename_i b i m s alt q;obtain⟨rfl,rfl,hm,h⟩:=h;have w:∀n,Nat.beq n n=true:=λ n=>by simp
  have g:∀d m,bound none d m=some d:=λ _ _=>rfl;have C:=ve (show q<=m-i by omega);have u:=ve (show i<=m by omega);refine⟨.gslice b (i+k) m s (cond (Nat.beq k 0) alt (i*s)) (q-k),by simp only[Op.aL,arg,lS,jp,qm,eO,g,wW l hk,w,u,C,jo,xq],⟨hlen,rfl,rfl,by omega,?_⟩,.inr rfl⟩;rcases h with h|⟨hb,all,r,t⟩
  .left;omega
  .right;obtain⟨x,rfl⟩:=SD t;refine⟨hb,all,r,?_⟩;rw[u9,qr (by rw[yg];omega),List.drop_take,IH,yg];simp[f]
 .rename_i b;obtain⟨rfl,hb⟩:=h;have:k=0:=by omega
  subst this;have j:bound none 0 0=some 0:=rfl;refine⟨.eslice b,?_,⟨hlen,rfl,hb⟩,.inr rfl⟩;simp[Op.aL,arg,lS,eO,j,wW l (qg 0)]
 .exact h.elim
section
variable{α:Type}{enc:α->List AV}{size:Nat}{H H':ar}{v:AV}{xs:List α}
def Va(hs:∀x,(enc x).length=size):∀(xs:List α)(k:Nat),(xs.flatMap enc).drop (k*size)=(xs.drop k).flatMap enc
 |[],k=>by simp
 |x::xs,0=>by simp
 |x::xs,k+1=>by
  rw[js,show(k+1)*size=(enc x).length+k*size from by rw[hs,uU];omega,QH,Va hs xs k];rfl
def qxt(hs:∀x,(enc x).length=size):∀(xs:List α)(k:Nat),(xs.flatMap enc).take (k*size)=(xs.take k).flatMap enc
 |[],k=>by simp
 |x::xs,0=>by simp
 |x::xs,k+1=>by
  rw[js,show(k+1)*size=(enc x).length+k*size from by rw[hs,uU];omega,Sz,qxt hs xs k];rfl
def dU.from(hs:∀x,(enc x).length=size)(h:dU enc size H v xs){k:Nat}(hk:k<=xs.length){z:Int}(i:z=k)(kk:IntKind) :
 ∃c,Op.aL size [some 0,none,none] [v,.int kk z]=some c/\dU enc size H c (xs.drop k)/\(c=.nils\/aH c=aH v):=by
 obtain⟨c,d,f,g⟩:=Sl.from h hk i kk
 refine⟨c,d,?_,g⟩;unfold dU;rw[ya,<-Va hs];exact f
def gE(enc:α->List AV)(e size:Nat)(H:ar)(v:AV)(xs:List α):Prop:=∃b,v=.slice b 0 xs.length xs.length/\b<H.au/\H.get b=some (.row (xs.flatMap enc) e (0,0) true)
def gE.sl{e:Nat}(hs:∀x,(enc x).length=size)(h:gE enc e size H v xs):dU enc size H v xs:=by
 obtain⟨b,rfl,c,d⟩:=h;refine⟨Dg hs xs,rfl,qg _,.inr ⟨c,_,qy d,?_⟩⟩;rw[u9,qr (by rw[Dg hs];omega),yi,zg (by rw[Dg hs];omega)]
def gE.fr{e:Nat}{W:Nat->Prop}(h:gE enc e size H v xs)(f:Fr W H H')(hw:¬W (aH v)):gE enc e size H' v xs:=by
 obtain⟨b,rfl,c,d⟩:=h;exact⟨b,rfl,qj c f.au,by rw[f.ah b c hw];exact d⟩
def gE.lt{e:Nat}(h:gE enc e size H v xs):aH v<H.au:=by
 obtain⟨b,rfl,c,d⟩:=h;exact c
def gE.xU{e:Nat}(hs:∀x,(enc x).length=size)(h:gE enc e size H v xs){i:Nat}{x y:α}(f:xs[i]? = some x){j:Nat}(p:j<size){u:AV}(hu:av u=true)(q:enc y=(enc x).set j u) :
 ∃H',Op.store 1 [.ptr (aH v) (cF size v i+j),u] H=some (.undef,H')/\gE enc e size H' v (xs.set i y)/\Fr (On (aH v)) H H':=by
 obtain⟨b,rfl,g,l⟩:=h;have m:=EE f;have hl:=Dg hs xs;have hb:(i+1)*size<=xs.length*size:=jz _ m;rw[uU]at hb;have c:u.cells=[u]:=by cases u<;>first|rfl|cases hu
 have d:=ug l (o:=i*size+j) (n:=1) (v:=u) (by rw[c];rfl) (by omega) (by rw[c,yn];simpa using hu);have ho:cF size (AV.slice b 0 xs.length xs.length) i=i*size:=by simp[cF]
 rw[ho];refine⟨_,d,⟨b,?_,g,?_⟩,(Fr.refl H).set (W:=On b) (.inl rfl) _⟩
 .rw [xg]
 .rw [xc,PB hs xs f,q,c,xk6 (L:=xs.flatMap enc) (E:=enc x) (hs x) p (by omega) (λ r hr=>IK hs xs f hr),List.set_eq_take_append_cons_drop,qr (by omega)];simp
end
def Py(e bytes:Nat)(z:List AV)(n:Nat)(k k':IntKind)(h:n*bytes<=140737488355328)(i:n<=140737488355328) :
 Op.mkSlice e bytes z [.int k n,.int k' n]=some (.row (fq n z) e (0,0) true,Op.sliceTo n n):=by
 have c:rP 0 (n:Int)=true:=by rw[FI];simp
 have d:rP (n:Int) n=true:=by rw[FI];simp
 have f:rP ((n:Int)*(bytes:Int)) 140737488355328=true:=by rw[FI];simp;omega
 have g:rP (n:Int) 140737488355328=true:=by rw[FI];simp;omega
 simp[Op.mkSlice,c,d,f,g]
end Go.Am
namespace Go.Am
def Zq{tm:T AV}{x:bI}{K K':AV->Prop}(h:EZ tm x K)(hk:∀v,K v->K' v):EZ tm x K':=by
 obtain⟨v,d,f⟩:=h.elim;cases x with
 |tmp t=>simp only[qY]at d;simp only[EZ,bM,d];exact hk v f
 |const c=>injection d with d;subst d;exact hk _ f
 |d9 c=>injection d with d;subst d;exact hk _ f
 |func c=>injection d with d;subst d;exact hk _ f
def HI{tm:T AV}:∀{l:List bI}{K K':List AV->Prop},pO tm l K->(∀v,K v->K' v)->pO tm l K'
 |[],K,K',h,hk=>hk _ h
 | .tmp t::xs,K,K',h,hk=>by
  simp only[pO]at h⊢;unfold bM at h⊢;split at h
  .exact HI h λ vs=>hk _
  .exact h.elim
 | .const v::xs,K,K',h,hk=>HI (l:=xs) h λ vs=>hk _
 | .d9 v::xs,K,K',h,hk=>HI (l:=xs) h λ vs=>hk _
 | .func v::xs,K,K',h,hk=>HI (l:=xs) h λ vs=>hk _
def EY{α:Type}{m:Bool}{o:Option α}{K K':α->Prop}(h:bM m o K)(hk:∀a,K a->K' a):bM m o K':=by
 cases o with
 |none=>exact h
 |some a=>exact hk a h
def q58{α β:Type}{m:Bool}{o:Option (α×β)}{K K':α -> β->Prop}(h:iK m o K)(hk:∀a b,K a b->K' a b):iK m o K':=by
 cases o with
 |none=>exact h
 |some a=>exact hk a.1 a.2 h
section
variable{AP:ak}
def SG{m:Bool}{f:lK}{vs:List AV}{H:ar}{K K':AV->ar->Prop}{E d:aE->ar->Prop}(h:nJ AP m f vs H K E)(hk:∀v H,K v H->K' v H)(he:∀c H,E c H->d c H):nJ AP m f vs H K' d:=by
 obtain⟨e,H',i,g⟩:=h;refine⟨e,H',i,?_⟩;cases e with
 |ret v=>exact hk _ _ g
 |panic c=>exact he _ _ g
def N9{d:Option (List Nat)}{tm:T AV}{aX:List aM}{up:Option aE}{Q Q':cB}(f:∀e st,Q e st->Q' e st)(c:aE)(H:ar)(h:yZ d tm aX up Q c H):yZ d tm aX up Q' c H:=by
 cases d with
 |none=>exact h
 |some ds=>exact f _ _ h
def xee{ctx:Ctx}{dst:Option Nat}{g:Option (List Nat)}{st:St}{Q Q':cB}{K K':St->Prop}{vs:List AV}{op:fE}(h:oe AP ctx dst g st Q K vs op)(d:∀e st,Q e st->Q' e st)(hk:∀st,K st->K' st):oe AP ctx dst g st Q' K' vs op:=by
 cases op with
 |pure f=>exact EY (m:=aG) h λ _=>hk _
 |read f=>exact EY (m:=aG) h λ _=>hk _
 |alloc f=>simp only[oe]at h⊢;exact q58 h λ _ _=>hk _
 |gH f=>simp only[oe]at h⊢;exact q58 h λ _ _=>hk _
 |gV f=>exact SG (m:=aG) h (λ _ _=>hk _) (N9 d)
 |gT =>
  simp only[oe,Mp]at h⊢;split at h
  .exact SG h (λ _ _=>hk _) (N9 d)
  .exact SG h (λ _ _=>hk _) (N9 d)
  .exact h.elim
 |invoke n =>
  simp only[oe,Mm]at h⊢;split at h
  .exact EY h λ _ q=>SG q (λ _ _=>hk _) (N9 d)
  .exact h.elim
 |recover =>
  simp only[oe,xC]at h⊢;split at h
  .refine ⟨h.1,?_⟩;have c:=h.2;split at c<;>exact hk _ c
  .exact h.elim
 |defer =>
  simp only[oe,Gb]at h⊢;refine⟨h.1,?_⟩;have c:=h.2;split at c
  .exact hk _ c
  .exact c.elim
 |panic =>
  simp only[oe,fZ]at h⊢;split at h
  .exact N9 d _ _ h
  .exact h.elim
def q9u{ctx:Ctx}{s:aN}{st:St}{Q Q':cB}{K K':St->Prop}(h:qC AP ctx s st Q K)(c:∀e st,Q e st->Q' e st)(hk:∀st,K st->K' st):qC AP ctx s st Q' K':=by
 obtain⟨gW,dst,guard,args,op,d⟩:=s;cases gW with
 |false =>
  cases guard with
  |none=>exact HI h λ _ q=>xee q c hk
  |some g =>
   refine EY (m:=aG) h λ w q=>?_;cases w with
   |true=>exact HI (K:=_) q λ _ q=>xee q c hk
   |false=>exact hk _ q
 |true =>
  cases guard with
  |none=>exact HI h λ _ q=>⟨q.1,hk _ q.2⟩
  |some g =>
   refine EY (m:=aG) h λ w q=>?_;cases w with
   |true=>exact HI (K:=_) q λ _ q=>⟨q.1,hk _ q.2⟩
   |false=>exact⟨q.1,hk _ q.2⟩
def tK{ctx:Ctx}:∀{l:List aN}{st:St}{Q Q':cB},nM AP ctx l st Q->(∀e st,Q e st->Q' e st)->nM AP ctx l st Q'
 |[],st,Q,Q',h,hq=>hq _ _ h
 |s::rest,st,Q,Q',h,hq=>q9u h hq λ d c=>tK c hq
def Nd{ctx:Ctx}{st:St}{k:Nat}{H0:ar}{aX:List aM}{d:Nat}{Q Q':cB}{v:AV}(h:mi AP ctx st k H0 aX d Q v)(i:∀e st,Q e st->Q' e st):mi AP ctx st k H0 aX d Q' v:=by
 unfold mi at h⊢;split at h
 .obtain ⟨e,H',j,g⟩:=h;refine⟨e,H',j,?_⟩;cases e with
  |panic c=>exact i _ _ g
  |ret v=>obtain⟨s,p,f,k,tm,d,l,m,o⟩:=g;exact⟨s,p,f,k,tm,d,l,m,i _ _ o⟩
 .exact h.elim
def pL{ctx:Ctx}:∀{c:ai}{st:St}{Q Q':cB},WP AP ctx c st Q->(∀e st,Q e st->Q' e st)->WP AP ctx c st Q'
 | .skip,st,Q,Q',h,hq=>hq _ _ h
 | .label _,st,Q,Q',h,hq=>hq _ _ h
 | .exit _,st,Q,Q',h,hq=>hq _ _ h
 | .goto _,st,Q,Q',h,hq=>hq _ _ h
 | .ret,st,Q,Q',h,hq=>hq _ _ h
 | .stuck,st,Q,Q',h,hq=>h.elim
 | .region l,st,Q,Q',h,hq=>tK h hq
 | .seq a b,st,Q,Q',h,hq=>pL (c:=a) h λ e i g=>by
  cases e with
  |normal=>exact pL (c:=b) g hq
  |exit _=>exact hq _ _ g
  |goto _=>exact hq _ _ g
  |ret=>exact hq _ _ g
  |panic _=>exact hq _ _ g
 | .cond c a b,st,Q,Q',h,hq=>Zq h λ v q=>EY (m:=aG) q λ w q=>by
  cases w with
  |true=>exact pL (c:=a) q hq
  |false=>exact pL (c:=b) q hq
 | .block id b,st,Q,Q',h,hq=>pL (c:=b) h λ e i g=>by cases e<;>exact hq _ _ g
 | .scope b,st,Q,Q',h,hq=>pL (c:=b) h λ e i g=>by
  cases e with
  |goto l=>exact⟨g.1,hq _ _ g.2⟩
  |normal=>exact hq _ _ g
  |exit _=>exact hq _ _ g
  |ret=>exact hq _ _ g
  |panic _=>exact hq _ _ g
 | .loop ah b,st,Q,Q',⟨I,h0,h⟩,hq=>⟨I,h0,λ n st j=>pL (c:=b) (h n st j) λ e i g=>by cases e<;>first|exact g|exact hq _ _ g⟩
 | .rangeFunc f k,st,Q,Q',h,hq=>Zq h λ v q=>by
  unfold IG at q⊢;split at q
  .exact Nd q hq
  .exact EY (m:=aG) q λ d q=>Nd q hq
def gn:aU->Prop
 | .exit _=>True
 | .goto _=>True
 | .ret=>True
 |_=>False
end
end Go.Am
namespace Go.Am
noncomputable section
abbrev aF:=aU->Env->List aM->ar->Prop
def lk(E:Env)(t:Nat):Option AV:=List.rec (motive:=λ _=>Option AV) none (λ p _ ih=>cond (Nat.beq p.1 t) (some p.2) ih) E
def B0(t:Nat):lk [] t=none:=rfl
def uO(k t:Nat)(v:AV)(E:Env):lk ((k,v)::E) t=if k=t then some v else lk E t:=by
 show cond (Nat.beq k t) (some v) (lk E t)=_;cases hb:Nat.beq k t with
 |true=>rw[qr (wq hb)];rfl
 |false=>rw[qo (Pz hb)];rfl
def bD(t:Nat)(l:List Nat):Bool:=List.rec (motive:=λ _=>Bool) false (λ x _ ih=>cond (Nat.beq x t) true ih) l
def fP(ks:List Nat)(E:Env)(tm:T AV):Prop:=∀t v,lk E t=some v->tm.get t=some v/\bD t ks=true
def vU:Env->Env->Prop
 |[],_=>True
 |(k,v)::r,E=>lk E k=some v/\vU r E
def G7(E:Env):vU [] E=True:=rfl
def zY(k:Nat)(v:AV)(r E:Env):vU ((k,v)::r) E=(lk E k=some v/\vU r E):=rfl
def vU.look:∀{A E:Env},vU A E -> ∀{t:Nat}{v:AV},lk A t=some v->lk E t=some v
 |[],E,_,t,v,h=>by cases h
 |(k,w)::r,E,h,t,v,hl=>by
  rw[uO]at hl;split at hl
  .rename_i e;subst e;injection hl with hl;subst hl;exact h.1
  .exact vU.look h.2 hl
def vU.sub{ks:List Nat}{A E:Env}(h:vU A E){tm:T AV}(he:fP ks E tm):fP ks A tm:=λ t v hl=>he t v (h.look hl)
def SS(A E:Env):Prop:=∀t v,lk A t=some v->lk E t=some v
def vU.ss{A E:Env}(h:vU A E):SS A E:=λ t v hl=>h.look hl
def SS.sub{ks:List Nat}{A E:Env}(h:SS A E){tm:T AV}(he:fP ks E tm):fP ks A tm:=λ t v hl=>he t v (h t v hl)
def B3{α:Type}(m:Bool)(o:Option α)(K:Bool -> α->Prop):Prop:=match o with
 |some a=>K m a
 |none=>False
def iW{α β:Type}(m:Bool)(o:Option (α×β))(K:Bool -> α -> β->Prop):Prop:=match o with
 |some a=>K m a.1 a.2
 |none=>False
def mG(m:Bool)(v:AV)(A B:Bool->Prop):Prop:=match v with
 | .bool q=>match q with
  |true=>A m
  |false=>B m
 |_=>False
def vR(m:Bool)(q:Bool)(A B:Bool->Prop):Prop:=match q with
 |true=>A m
 |false=>B m
def LV(m:Bool)(o o':Option AV)(K:Bool->Prop):Prop:=(∃v,o=some v/\o'=some v)/\K m
def A3(m:Bool)(e:Nat)(z:List AV)(H:ar)(K:Bool->AV->ar->Prop):Prop:=K m (.ptr H.au 0) (H.alloc (.row z e (0,0) true))
def JN{α:Type}(F:α->Prop)(K:α):Prop:=F K
def qX(m:Bool)(Q:aF)(e:aU)(E:Env)(D:List aM)(H:ar):Prop:=Q e E D H
def G2{α:Type}(a:α)(K:Bool -> α->Prop):B3 true (some a) K=K true a:=propext j5
def C7{α β:Type}(a:α)(b:β)(K:Bool -> α -> β->Prop):iW true (some (a,b)) K=K true a b:=propext j5
def B9(A B:Bool->Prop):mG true (.bool true) A B=A true:=propext j5
def xh4(A B:Bool->Prop):mG true (.bool false) A B=B true:=propext j5
def CL(A B:Bool->Prop):vR true true A B=A true:=propext j5
def xh5(A B:Bool->Prop):vR true false A B=B true:=propext j5
def C4(v:AV)(K:Bool->Prop):LV true (some v) (some v) K=K true:=propext ⟨λ h=>h.2,λ h=>⟨⟨v,rfl,rfl⟩,h⟩⟩
def O2(e:Nat)(z:List AV)(H:ar)(K:Bool->AV->ar->Prop):A3 true e z H K=K true (.ptr H.au 0) (H.alloc (.row z e (0,0) true)):=propext j5
def Ie{α:Type}(F:α->Prop)(K:α):JN F K=F K:=propext j5
def AB(Q:aF)(e:aU)(E:Env)(D:List aM)(H:ar):qX true Q e E D H=Q e E D H:=propext j5
@[congr]def P6{α:Type}{F:α->Prop}{K:α}:JN F K=JN F K:=rfl
@[congr]def Qz{α:Type}{m c:Bool}{o o':Option α}{K:Bool -> α->Prop}(hm:m=c)(h:o=o'):B3 m o K=B3 c o' K:=by subst hm;subst h;rfl
@[congr]def MJ{α β:Type}{m c:Bool}{o o':Option (α×β)}{K:Bool -> α -> β->Prop}(hm:m=c)(h:o=o'):iW m o K=iW c o' K:=by subst hm;subst h;rfl
@[congr]def M4{m c:Bool}{v d:AV}{A B:Bool->Prop}(hm:m=c)(h:v=d):mG m v A B=mG c d A B:=by subst hm;subst h;rfl
@[congr]def Mi{m c:Bool}{v d:Bool}{A B:Bool->Prop}(hm:m=c)(h:v=d):vR m v A B=vR c d A B:=by subst hm;subst h;rfl
@[congr]def MC{m c:Bool}{o o' p p':Option AV}{K:Bool->Prop}(hm:m=c)(h:o=o')(d:p=p'):LV m o p K=LV c o' p' K:=by subst hm;subst h;subst d;rfl
@[congr]def O0{m c:Bool}{e:Nat}{z d:List AV}{H H':ar}{K:Bool->AV->ar->Prop}(hm:m=c)(h:z=d)(f:H=H'):A3 m e z H K=A3 c e d H' K:=by subst hm;subst h;subst f;rfl
def B3.elim{α:Type}{m:Bool}{o:Option α}{K:Bool -> α->Prop}(h:B3 m o K):∃a,o=some a/\K m a:=by
 cases o with
 |none=>exact False.elim h
 |some a=>exact⟨a,rfl,h⟩
def iW.elim{α β:Type}{m:Bool}{o:Option (α×β)}{K:Bool -> α -> β->Prop}(h:iW m o K):∃a b,o=some (a,b)/\K m a b:=by
 cases o with
 |none=>exact False.elim h
 |some a=>exact⟨a.1,a.2,rfl,h⟩
def LK.elim{α:Type}{m:Bool}{o:Option α}{K:Bool -> α->Prop}(h:LK m o K):∃a,o=some a/\K m a:=by
 cases o with
 |none=>exact False.elim h
 |some a=>exact⟨a,rfl,h⟩
def B3.intro{α:Type}{m:Bool}{o:Option α}{K:Bool -> α->Prop}{a:α}(h:o=some a)(hk:K m a):B3 m o K:=by subst h;exact hk
def iW.intro{α β:Type}{m:Bool}{o:Option (α×β)}{K:Bool -> α -> β->Prop}{a:α}{b:β}(h:o=some (a,b))(hk:K m a b):iW m o K:=by subst h;exact hk
def mG.cases{m:Bool}{q:Bool}{A B:Bool->Prop}(c:q=true->A m)(d:q=false->B m):mG m (.bool q) A B:=by
 cases q with
 |true=>exact c rfl
 |false=>exact d rfl
def vR.cases{m:Bool}{q:Bool}{A B:Bool->Prop}(c:q=true->A m)(d:q=false->B m):vR m q A B:=by
 cases q with
 |true=>exact c rfl
 |false=>exact d rfl
def mG.elim{m:Bool}{v:AV}{A B:Bool->Prop}(h:mG m v A B):∃q,v=.bool q/\(match q with|true=>A m|false=>B m):=by
 unfold mG at h;split at h
 .exact ⟨_,rfl,h⟩
 .exact h.elim
section
variable(M:ak)
structure Kp where
 ah:List Nat
 cR:Bool
 named:List Nat
def dy(K:List Nat)(E L:Env):Env:=List.rec (motive:=λ _=>Env) E (λ p _ ih=>cond (bD p.1 K) (p::ih) ih) L
def rQ(ds:List Nat)(E:Env):Env:=List.rec (motive:=λ _=>Env) [] (λ p _ ih=>cond (bD p.1 ds) ih (p::ih)) E
def kV(L:Env):List Nat:=List.rec (motive:=λ _=>List Nat) [] (λ p _ ih=>p.1::ih) L
abbrev KR:=Bool->Env->Env->ar->Prop
def TV(E L R:Env)(t:Nat)(g:Bool)(K:Bool->Env->AV->Prop):Prop :=
 Option.rec (motive:=λ _=>Prop) (Option.rec (motive:=λ _=>Prop) (LK g (lk E t) λ g v=>K g ((t,v)::R) v) (λ v=>K g R v) (lk R t)) (λ v=>K g R v) (lk L t)
def xF(E L:Env)(l:List bI):Bool->Env->(Bool->Env->List AV->Prop)->Prop:=List.rec (motive:=λ _=>Bool->Env->(Bool->Env->List AV->Prop)->Prop) (λ g R K=>K g R [])
 (λ x _ ih g R K=>bI.casesOn x (λ t=>TV E L R t g λ g R v=>ih g R λ g R vs=>K g R (v::vs)) (λ v=>ih g R λ g R vs=>K g R (v::vs)) (λ b=>ih g R λ g R vs=>K g R (.ptr b 0::vs)) (λ f=>ih g R λ g R vs=>K g R (.fn (.func f) [] []::vs))) l
def C3(m:Bool)(f:lK)(vs:List AV)(H:ar)(K:Bool->AV->ar->Prop):Prop:=∃v H',ub M f vs H (.ret v) H'/\K m v H'
def P3(m:Bool)(X:aE->ar->Prop)(f:lK)(vs:List AV)(H:ar)(K:Bool->AV->ar->Prop):Prop:=∃e H',ub M f vs H e H'/\match e with
 | .ret v=>K m v H'
 | .panic c=>X c H'
@[congr]def QV{M:ak}{m d:Bool}{f f':lK}{vs c:List AV}{H H':ar}{K:Bool->AV->ar->Prop}(hm:m=d)(i:f=f')(h:vs=c)(g:H=H'):C3 M m f vs H K=C3 M d f' c H' K:=by subst hm;subst h;subst i;subst g;rfl
@[congr]def Qb{M:ak}{m d:Bool}{X:aE->ar->Prop}{f f':lK}{vs c:List AV}{H H':ar}{K:Bool->AV->ar->Prop}(hm:m=d)(i:f=f')(h:vs=c)(g:H=H'):P3 M m X f vs H K=P3 M d X f' c H' K:=by subst hm;subst h;subst i;subst g;rfl
def V3(m:Bool)(vs:List AV)(K:Bool->lK->List AV->Prop):Prop:=match vs with
 | .fn (.func g) first cap::args=>K m (.func g) (first++(args++cap))
 | .fn (.yield l) first []::args=>K m (.yield l) (first++args)
 |_=>False
@[congr]def N1{m d:Bool}{vs c:List AV}{K:Bool->lK->List AV->Prop}(hm:m=d)(h:vs=c):V3 m vs K=V3 d c K:=by subst hm;subst h;rfl
def Fp(g:Nat)(first cap args:List AV)(K:Bool->lK->List AV->Prop):V3 true (.fn (.func g) first cap::args) K=K true (.func g) (first++(args++cap)):=propext j5
def Ab(l:Nat)(first args:List AV)(K:Bool->lK->List AV->Prop):V3 true (.fn (.yield l) first []::args) K=K true (.yield l) (first++args):=propext j5
def N3(m:Bool)(name:String)(vs:List AV)(K:Bool->lK->List AV->Prop):Prop:=match vs with
 | .iface t v::args=>B3 m (M.jL t name) λ m g=>K m (.func g) (v::args)
 |_=>False
@[congr]def OU{M:ak}{m d:Bool}{name:String}{vs c:List AV}{K:Bool->lK->List AV->Prop}(hm:m=d)(h:vs=c):N3 M m name vs K=N3 M d name c K:=by subst hm;subst h;rfl
def BL(name:String)(t:Nat)(v:AV)(args:List AV)(K:Bool->lK->List AV->Prop):N3 M true name (.iface t v::args) K=B3 true (M.jL t name) λ m g=>K m (.func g) (v::args):=propext j5
def PX(ps:Option (List Nat))(ks:List Nat)(Q:aF)(E:Env)(D:List aM)(c:aE)(H:ar):Prop:=match ps with
 |some ds=>Q (.panic c) (rQ ds (rQ ks E)) D H
 |none=>False
def Dv(cR:Bool)(ps:Option (List Nat))(L:Env)(Q:aF)(E:Env)(D:List aM)(g:Bool)(f:lK)(vs:List AV)(H:ar)(K:Bool->AV->ar->Prop):Prop :=
 cond cR (P3 M g (PX ps (kV L) Q E D) f vs H K) (C3 M g f vs H K)
def uo(cR:Bool)(dst:Option Nat)(ps:Option (List Nat))(Q:aF)(E:Env)(D:List aM)(L R:Env)(H:ar)(K:KR)(g:Bool)(vs:List AV):fE->Prop
 | .pure f=>B3 g (f vs) λ g v=>K g (lA dst v L) R H
 | .read f=>B3 g (f vs H) λ g v=>K g (lA dst v L) R H
 | .alloc f=>iW g (f vs) λ g o mk=>K g (lA dst (mk H.au) L) R (H.alloc o)
 | .gH f=>iW g (f vs H) λ g v H=>K g (lA dst v L) R H
 | .gV f=>Dv M cR ps L Q E D g (.func f) vs H (λ g v H=>K g (lA dst v L) R H)
 | .gT=>V3 g vs λ g f vs=>Dv M cR ps L Q E D g f vs H (λ g v H=>K g (lA dst v L) R H)
 | .invoke name=>N3 M g name vs λ g f vs=>Dv M cR ps L Q E D g f vs H (λ g v H=>K g (lA dst v L) R H)
 | .panic=>cond cR (fZ vs H (PX ps (kV L) Q E D)) False
 |_=>False
def XJ(L E:Env)(d:Nat):Option AV:=Option.rec (motive:=λ _=>Option AV) (lk E d) (λ v=>some v) (lk L d)
def Rh(dst:Option Nat)(E L R:Env)(H:ar)(K:KR)(g:Bool)(vs:List AV):fE->Prop
 | .read f=>match dst with
  |some d=>LV g (f vs H) (XJ L E d) λ g=>K g L R H
  |none=>False
 |_=>False
def EO(cR:Bool)(s:aN)(Q:aF)(E:Env)(D:List aM)(K:KR):KR:=λ g L R H =>
 xF E L s.args g R λ g R vs=>match s.gW with
  |false=>uo M cR s.dst s.ct Q E D L R H K g vs s.op
  |true=>Rh s.dst E L R H K g vs s.op
def pK(cR:Bool)(Q:aF)(E:Env)(D:List aM)(K:KR)(l:List aN):KR:=List.rec (motive:=λ _=>KR) K (λ s _ ih=>EO M cR s Q E D ih) l
abbrev EI:=Option (Nat×Bool)×List aN
def rN:Option (Nat×Bool)->Option (Nat×Bool)->Bool
 |none,none=>true
 |some (t,b),some (u,c)=>cond (Nat.beq t u) (cond b c (!c)) false
 |_,_=>false
def HG(l:List aN):List EI:=List.rec (motive:=λ _=>List EI) [] (λ s _ ih=>List.casesOn (motive:=λ _=>List EI) ih [(s.guard,[s])] λ g r=>cond (rN g.1 s.guard) ((g.1,s::g.2)::r) ((s.guard,[s])::g::r)) l
def Kn(o:Option Nat)(t:Nat):Bool:=Option.rec (motive:=λ _=>Bool) false (λ d=>Nat.beq d t) o
def uj(t:Nat)(l:List aN):Bool:=List.rec (motive:=λ _=>Bool) true (λ s _ ih=>cond (Kn s.dst t) false (cond s.gW (cond s.dst.isSome ih false) ih)) l
def CT(n:Nat):Type:=Nat.rec (motive:=λ _=>Type) (ar->Prop) (λ _ T=>AV->T) n
def qD(n:Nat):(List AV->ar->Prop)->CT n:=Nat.rec (motive:=λ n=>(List AV->ar->Prop)->CT n) (λ f=>f []) (λ _ ih f v=>ih λ l=>f (v::l)) n
def pD(n:Nat):CT n->List AV->ar->Prop:=Nat.rec (motive:=λ n=>CT n->List AV->ar->Prop) (λ k _=>k) (λ _ ih k l=>List.casesOn (motive:=λ _=>ar->Prop) l (λ _=>False) λ v l=>ih (k v) l) n
def bn(l:List aN):List Nat->List Nat:=List.rec (motive:=λ _=>List Nat->List Nat) (λ acc=>acc) (λ s _ ih acc=>ih (cond s.gW acc (Option.rec (motive:=λ _=>List Nat) acc (λ d=>d::acc) s.dst))) l
def kJ(ks:List Nat)(L:Env):List AV->Env:=List.rec (motive:=λ _=>List AV->Env) (λ _=>L) (λ k _ ih l=>List.casesOn (motive:=λ _=>Env) l L λ v l=>(k,v)::ih l) ks
def qI(n:Nat):Env->List AV:=Nat.rec (motive:=λ _=>Env->List AV) (λ _=>[]) (λ _ ih L=>List.casesOn (motive:=λ _=>List AV) L [] λ p L=>p.2::ih L) n
def rH(n:Nat):List AV:=Nat.rec (motive:=λ _=>List AV) [] (λ _ ih=>.undef::ih) n
def Qm(cR:Bool)(Q:aF)(E:Env)(D:List aM)(x:EI)(K:KR):KR:=λ g L R H=>match x.1 with
 |none=>pK M cR Q E D K x.2 g L R H
 |some q=>cond (uj q.1 x.2) (TV E L R q.1 g λ g R v=>JN (α:=Bool->CT (cP (bn x.2 [])))
  (λ k=>B3 g (cM q.2 (some v)) λ g w=>vR g w (λ g=>pK M cR Q E D (λ g L _ H=>pD (cP (bn x.2 [])) (k g) (qI (cP (bn x.2 [])) L) H) x.2 g L R H) (λ g=>pD (cP (bn x.2 [])) (k g) (rH (cP (bn x.2 []))) H))
  (λ g=>qD (cP (bn x.2 [])) λ vs H=>K g (kJ (bn x.2 []) L vs) R H)) False
def wZ(cR:Bool)(Q:aF)(E:Env)(D:List aM)(K:KR)(l:List EI):KR:=List.rec (motive:=λ _=>KR) K (λ x _ ih=>Qm M cR Q E D x ih) l
def qE(cR:Bool)(Q:aF)(E:Env)(D:List aM)(l:List aN)(g:Bool)(H:ar)(K:KR):Prop:=wZ M cR Q E D K (HG l) g [] [] H
abbrev WX:=Bool->aF->Env->List aM->ar->Prop
def eG(X:WX)(Q:aF):aF:=λ e E D H=>match e with
 | .normal=>X true Q E D H
 |e=>Q e E D H
def eB(id:Nat)(Q:aF):aF:=λ e E D H=>match e with
 | .exit id'=>Q (cond (Nat.beq id id') .normal (.exit id')) E D H
 |e=>Q e E D H
def jN(b:ai)(Q:aF):aF:=λ e E D H=>match e with
 | .goto l=>El b l=false/\Q (.goto l) E D H
 |e=>Q e E D H
abbrev KT:=Nat->Env->List aM->ar->Prop
def LP3(I:KT)(n:Nat)(Q:aF):aF:=λ e E D H=>match e with
 | .normal=>∃m E',I m E' D H/\SS E' E/\m<n
 |e=>Q e E D H
def dg(X:WX)(Q:aF)(E:Env)(D:List aM)(H:ar):Prop :=
 ∃I:KT,(∃n E0,I n E0 D H/\SS E0 E) /\ ∀n E D H,I n E D H->X true (LP3 I n Q) E D H
def jC(ks:List Nat)(ctx:Ctx)(k:Nat)(E:Env)(D:List aM)(H:ar)(Q:aF)(v:AV):Prop :=
 ∀tm up,fP ks E tm->IG M ctx k ⟨tm,D,up,H⟩ (λ e st=>st.up=up/\st.tm=tm/\Q e E st.aX st.H) v
def OV(E:Env)(x:bI)(g:Bool)(K:Bool->AV->Prop):Prop:=match x with
 | .tmp t=>LK g (lk E t) K
 | .const v=>K g v
 | .d9 b=>K g (.ptr b 0)
 | .func f=>K g (.fn (.func f) [] [])
def CV(E L R:Env)(x:bI)(g:Bool)(K:Bool->AV->Prop):Prop:=match x with
 | .tmp t=>TV E L R t g λ g _ v=>K g v
 | .const v=>K g v
 | .d9 b=>K g (.ptr b 0)
 | .func f=>K g (.fn (.func f) [] [])
def W3(ctx:Ctx)(K:Kp):ai->Bool->aF->Env->List aM->ar->Prop
 | .skip,g,Q,E,D,H=>qX g Q .normal E D H
 | .label _,g,Q,E,D,H=>qX g Q .normal E D H
 | .exit id,g,Q,E,D,H=>qX g Q (.exit id) E D H
 | .goto l,g,Q,E,D,H=>qX g Q (.goto l) E D H
 | .ret,g,Q,E,D,H=>qX g Q .ret E D H
 | .stuck,_,_,_,_,_=>False
 | .region l,g,Q,E,D,H=>qE M K.cR Q E D l g H λ g L _ H=>qX g Q .normal (dy K.ah E L) D H
 | .seq a b,g,Q,E,D,H=>match a,b with
  | .region l,.cond c x y=>qE M K.cR Q E D l g H λ g L R H=>CV E L R c g λ g v=>mG g v (λ g=>W3 ctx K x g Q (dy K.ah E L) D H) (λ g=>W3 ctx K y g Q (dy K.ah E L) D H)
  | .region l,.seq (.cond c x y) r=>qE M K.cR Q E D l g H λ g L R H=>CV E L R c g λ g v=>mG g v (λ g=>W3 ctx K x g (eG (W3 ctx K r) Q) (dy K.ah E L) D H) (λ g=>W3 ctx K y g (eG (W3 ctx K r) Q) (dy K.ah E L) D H)
  | .region l,b=>qE M K.cR Q E D l g H λ g L _ H=>W3 ctx K b g Q (dy K.ah E L) D H
  |a,b=>W3 ctx K a g (eG (W3 ctx K b) Q) E D H
 | .cond c x y,g,Q,E,D,H=>OV E c g λ g v=>mG g v (λ g=>W3 ctx K x g Q E D H) (λ g=>W3 ctx K y g Q E D H)
 | .block id b,g,Q,E,D,H=>W3 ctx K b g (eB id Q) E D H
 | .scope b,g,Q,E,D,H=>W3 ctx K b g (jN b Q) E D H
 | .loop (some _) _,_,_,_,_,_=>False
 | .loop none b,g,Q,E,D,H=>dg (W3 ctx K b) Q E D H
 | .rangeFunc f k,g,Q,E,D,H=>OV E f g λ g v=>jC M K.ah ctx k E D H Q v
end
structure lC(E L R:Env)(tm:T AV):Prop where
 l:∀t v,lk L t=some v->tm.get t=some v
 r:∀t v,lk L t=none->lk R t=some v->tm.get t=some v
 e:∀t v,lk L t=none->lk E t=some v->tm.get t=some v
def lC.first{ks:List Nat}{E:Env}{tm:T AV}(h:fP ks E tm):lC E [] [] tm:=⟨λ _ _ h=>(by cases h),λ _ _ _ h=>(by cases h),λ t v _ c=>(h t v c).1⟩
def lC.put{E L R:Env}{tm:T AV}(h:lC E L R tm)(dst:Option Nat)(v:AV):lC E (lA dst v L) R (eh dst v tm):=by
 cases dst with
 |none=>exact h
 |some d =>
  show lC E ((d,v)::L) R (tm.set d v);refine⟨λ t w hw=>?_,λ t w hn hw=>?_,λ t w hn hw=>?_⟩
  .rw [uO]at hw;rw[T.aI];split at hw
   .rename_i e;rw[qr e];exact hw
   .rename_i e;rw[qo e];exact h.l t w hw
  .rw [uO]at hn;rw[T.aI];split at hn
   .cases hn
   .rename_i e;rw[qo e];exact h.r t w hn hw
  .rw [uO]at hn;rw[T.aI];split at hn
   .cases hn
   .rename_i e;rw[qo e];exact h.e t w hn hw
def TV.elim{E L R:Env}{t:Nat}{g:Bool}{K:Bool->Env->AV->Prop}{tm:T AV}(hr:lC E L R tm)(h:TV E L R t g K):∃v d,tm.get t=some v/\lC E L d tm/\K g d v:=by
 unfold TV at h;cases hl:lk L t with
 |some v=>rw[hl]at h;exact⟨v,R,hr.l t v hl,hr,h⟩
 |none =>
  rw[hl]at h;cases c:lk R t with
  |some v=>rw[c]at h;exact⟨v,R,hr.r t v hl c,hr,h⟩
  |none =>
   rw[c]at h;obtain⟨v,f,h⟩:=LK.elim h;refine⟨v,_,hr.e t v hl f,⟨hr.l,λ u w hn hw=>?_,hr.e⟩,h⟩;rw[uO]at hw;split at hw
   .rename_i e;subst e;injection hw with hw;subst hw;exact hr.e t v hl f
   .exact hr.r u w hn hw
def Ml{tm:T AV}:∀{l:List bI}{vs:List AV}{K:List AV->Prop},lM tm l=some vs->K vs->pO tm l K
 |[],vs,K,h,hk=>by injection h with h;subst h;exact hk
 |x::xs,vs,K,h,hk=>by
  simp only[lM,qd]at h;obtain⟨v,d,ws,f,g⟩:=h;injection g with g;subst g
  cases x with
  |tmp t=>exact bM.intro (m:=aG) d (Ml f hk)
  |const c=>injection d with d;subst d;exact Ml (K:=λ vs=>K (c::vs)) f hk
  |d9 c=>injection d with d;subst d;exact Ml (K:=λ vs=>K (_::vs)) f hk
  |func c=>injection d with d;subst d;exact Ml (K:=λ vs=>K (_::vs)) f hk
def xF.elim{E L:Env}{tm:T AV}{g:Bool}:∀{l:List bI}{R:Env}{K:Bool->Env->List AV->Prop},lC E L R tm->xF E L l g R K -> ∃vs j,lM tm l=some vs/\lC E L j tm/\K g j vs
 |[],R,K,hr,h=>⟨[],R,rfl,hr,h⟩
 | .tmp t::xs,R,K,hr,h=>by
  obtain⟨v,o,m,i,h⟩:=TV.elim hr (show TV E L R t g (λ g R v=>xF E L xs g R λ g R vs=>K g R (v::vs))from h);obtain⟨vs,d,f,c,h⟩:=xF.elim i h;exact⟨v::vs,d,by simp[lM,qY,m,f],c,h⟩
 | .const v::xs,R,K,hr,h=>by
  obtain⟨vs,d,f,c,h⟩:=xF.elim (l:=xs) hr h;exact⟨v::vs,d,by simp[lM,qY,f],c,h⟩
 | .d9 v::xs,R,K,hr,h=>by
  obtain⟨vs,d,f,c,h⟩:=xF.elim (l:=xs) hr h;exact⟨_,d,by simp[lM,qY,f],c,h⟩
 | .func v::xs,R,K,hr,h=>by
  obtain⟨vs,d,f,c,h⟩:=xF.elim (l:=xs) hr h;exact⟨_,d,by simp[lM,qY,f],c,h⟩
def R5(ds:List Nat):∀(E:Env)(t:Nat),lk (rQ ds E) t=if bD t ds then none else lk E t
 |[],t=>by simp[rQ,B0]
 |(k,v)::r,t=>by
  show lk (cond (bD k ds) (rQ ds r) ((k,v)::rQ ds r)) t=_;cases hm:bD k ds with
  |true =>
   rw[xq,R5 ds r,uO]
   by_cases e:k=t
   .subst e;rw[hm];rfl
   .rw [qo e]
  |false =>
   rw[zj,uO,R5 ds r,uO]
   by_cases e:k=t
   .subst e;rw[hm];simp
   .rw [qo e,qo e]
def Zd:∀(L:Env)(t:Nat),bD t (kV L)=false->lk L t=none
 |[],t,_=>rfl
 |(k,v)::r,t,h=>by
  have h:cond (Nat.beq k t) true (bD t (kV r))=false:=h;rw[uO];cases hb:Nat.beq k t with
  |true=>rw[hb]at h;cases h
  |false=>rw[hb,zj]at h;rw[qo (Pz hb)];exact Zd r t h
def xe6{t:Nat}:∀{l:List Nat},t∈l->bD t l=true
 |x::r,h=>by
  show cond (Nat.beq x t) true (bD t r)=true;cases hb:Nat.beq x t with
  |true=>rfl
  |false =>
   rw[zj];rcases jg.1 h with e|h
   .exact (Pz hb e.symm).elim
   .exact xe6 h
def m8:∀(ds:List Nat)(tm:T AV)(t:Nat),t∉ds->(forget ds tm).get t=tm.get t
 |[],tm,t,_=>rfl
 |d::ds,tm,t,h=>by
  show(forget ds (tm.put d none)).get t=_;rw[m8 ds _ t (λ q=>h (vw _ q)),T.jP,qo (λ e=>h (by rw[e];exact I1 ..))]
def QQ(ks:List Nat)(Q:aF)(up:Option aE):cB:=λ e st=>st.up=up /\ ∃E',fP ks E' st.tm/\Q e E' st.aX st.H
section
variable{M:ak}{ctx:Ctx}{cR:Bool}{Q:aF}{E:Env}{D:List aM}{up:Option aE}
def PX.HH{Z:cB}(hp:∀c tm H g,(∀t v,lk g t=some v->tm.get t=some v/\lk E t=some v)->Q (.panic c) g D H->Z (.panic c) ⟨tm,D,up,H⟩){f:Option (List Nat)}{L R:Env}{tm:T AV}(hr:lC E L R tm){c:aE}{H:ar}(h:PX f (kV L) Q E D c H):yZ f tm D up Z c H:=by
 cases f with
 |none=>exact h
 |some ds =>
  refine hp _ _ _ _ (λ t v d=>?_) h;rw[R5,R5]at d;split at d
  .cases d
  .rename_i i;split at d
   .cases d
   .rename_i j;rw[m8 ds tm t (λ q=>i (xe6 q))];exact⟨hr.e t v (Zd L t (by simpa using j)) d,d⟩
def Dv.wI{Z:cB}(hp:∀c tm H l,(∀t v,lk l t=some v->tm.get t=some v/\lk E t=some v)->Q (.panic c) l D H->Z (.panic c) ⟨tm,D,up,H⟩){j:Option (List Nat)}{L R:Env}{tm:T AV}(hr:lC E L R tm){g:Bool}{f:lK}{vs:List AV}{H:ar}{K:Bool->AV->ar->Prop}{K':AV->ar->Prop}
 (h:Dv M cR j L Q E D g f vs H K) (hk:∀v H,K g v H->K' v H):nJ M aG f vs H K' (yZ j tm D up Z):=by
 cases cR with
 |false =>
  obtain⟨v,H',i,d⟩:=(show C3 M g f vs H K from h)
  exact⟨_,H',i,hk _ _ d⟩
 |true =>
  obtain⟨e,H',i,d⟩:=(show P3 M g (PX j (kV L) Q E D) f vs H K from h)
  refine⟨_,H',i,?_⟩;cases e with
  |ret v=>exact hk _ _ d
  |panic c=>exact PX.HH hp hr d
def EO.body{Z:cB}(hp:∀c tm H y,(∀t v,lk y t=some v->tm.get t=some v/\lk E t=some v)->Q (.panic c) y D H->Z (.panic c) ⟨tm,D,up,H⟩){s:aN}{K:KR}{g:Bool}{L R R0:Env}{tm:T AV}{H:ar}(hr:lC E L R tm)(u:lC E L R0 tm)(h:EO M cR s Q E D K g L R H){KK:St->Prop}
 (F:∀r z j H',(s.gW=true/\r=L/\j=tm \/ ∃v,s.gW=false/\r=lA s.dst v L/\j=eh s.dst v tm)->lC E r z j->lC E r R0 j->K g r z H'->KK ⟨j,D,up,H'⟩) :
 match s.gW with
 |false=>pO tm s.args λ vs=>oe M ctx s.dst s.ct ⟨tm,D,up,H⟩ Z KK vs s.op
 |true=>pO tm s.args λ vs=>Pj s.dst ⟨tm,D,up,H⟩ vs s.op/\KK ⟨tm,D,up,H⟩:=by
 obtain⟨gW,dst,guard,args,op,x⟩:=s;obtain⟨vs,q,C,i,h⟩:=xF.elim hr h;cases gW with
 |true =>
  refine Ml C ?_;have h:Rh dst E L q H K g vs op:=h;cases op with
  |read f =>
   cases dst with
   |none=>exact h.elim
   |some d =>
    have h:LV g (f vs H) (XJ L E d) (λ g=>K g L q H):=h;obtain⟨⟨v,G,p⟩,h⟩:=h;refine⟨?_,F L q tm H (.inl ⟨rfl,rfl,rfl⟩) i u h⟩;refine bM.intro (m:=aG) G (bM.intro (m:=aG) (a:=v) ?_ rfl);unfold XJ at p;cases hl:lk L d with
    |some w=>rw[hl]at p;injection p with p;subst p;exact hr.l d w hl
    |none=>rw[hl]at p;exact hr.e d v hl p
  |_=>exact h.elim
 |false =>
  have put:∀v H',K g (lA dst v L) q H'->KK ⟨eh dst v tm,D,up,H'⟩:=λ v H' hk=>F _ q _ H' (.inr ⟨v,rfl,rfl,rfl⟩) (i.put dst v) (u.put dst v) hk;refine Ml C ?_;have h:uo M cR dst x Q E D L q H K g vs op:=h;cases op with
  |pure f=>simp only[uo]at h;obtain⟨v,e,h⟩:=B3.elim h;exact bM.intro (m:=aG) e (put _ _ h)
  |read f=>simp only[uo]at h;obtain⟨v,e,h⟩:=B3.elim h;exact bM.intro (m:=aG) e (put _ _ h)
  |alloc f=>simp only[uo]at h;simp only[oe];obtain⟨o,mk,e,h⟩:=iW.elim h;exact iK.intro (m:=aG) e (put _ _ h)
  |gH f=>simp only[uo]at h;simp only[oe];obtain⟨v,H',e,h⟩:=iW.elim h;exact iK.intro (m:=aG) e (put _ _ h)
  |gV f=>exact Dv.wI hp i h λ v H' hk=>put v H' hk
  |gT =>
   simp only[uo,V3]at h;simp only[oe,Mp];split at h
   .exact Dv.wI hp i h λ v H' hk=>put v H' hk
   .exact Dv.wI hp i h λ v H' hk=>put v H' hk
   .exact h.elim
  |invoke n =>
   simp only[uo,N3]at h;simp only[oe,Mm];split at h
   .obtain ⟨f,e,h⟩:=B3.elim h;exact bM.intro (m:=aG) e (Dv.wI hp i h λ v H' hk=>put v H' hk)
   .exact h.elim
  |recover=>exact False.elim h
  |defer=>exact False.elim h
  |panic =>
   cases cR with
   |false=>exact False.elim h
   |true =>
    have h:fZ vs H (PX x (kV L) Q E D):=h;show fZ vs H (yZ x tm D up Z);unfold fZ at h⊢;split at h
    .exact PX.HH hp i h
    .exact h.elim
def Ni(g:Option (Nat×Bool))(l:List aN):Prop:=∀s∈l,s.guard=g
def pK.free{Z:cB}(hp:∀c tm H f,(∀t v,lk f t=some v->tm.get t=some v/\lk E t=some v)->Q (.panic c) f D H->Z (.panic c) ⟨tm,D,up,H⟩){K:KR}{g:Bool}{R0:Env}{rest:List aN}(i:∀L R tm H,lC E L R tm->lC E L R0 tm->K g L R H->nM M ctx rest ⟨tm,D,up,H⟩ Z) :
 ∀{l:List aN}{L R:Env}{tm:T AV}{H:ar},Ni none l->lC E L R tm->lC E L R0 tm->pK M cR Q E D K l g L R H->nM M ctx (l++rest) ⟨tm,D,up,H⟩ Z
 |[],L,R,tm,H,_,hr,hr0,h=>i _ _ _ _ hr hr0 h
 |s::l,L,R,tm,H,hg,hr,hr0,h=>by
  rw[Ir,VA];have hs:s.guard=none:=hg s (I1 ..);have:=EO.body hp (ctx:=ctx) (up:=up) (KK:=λ d=>nM M ctx (l++rest) d Z) hr hr0 (show EO M cR s Q E D (pK M cR Q E D K l) g L R H from h)
   λ r u q H' _ m o p=>pK.free hp i (λ x j=>hg x (vw _ j)) m o p
  obtain⟨gW,dst,guard,args,op,w⟩:=s;subst hs;cases gW<;>exact this
def W8:∀(n:Nat)(f:List AV->ar->Prop)(l:List AV)(H:ar),l.length=n->pD n (qD n f) l H=f l H
 |0,f,[],H,_=>rfl
 |n+1,f,v::l,H,h=>W8 n (λ l=>f (v::l)) l H (by simpa using h)
 |0,f,_::_,H,h=>by cases h
 |n+1,f,[],H,h=>by cases h
def DD{α:Type}(l:List α):cP l=l.length:=by
 induction l with
 |nil=>rfl
 |cons x l ih=>show cP l+1=_;rw[ih];rfl
def um:∀(ks:List Nat)(L:Env)(vs:List AV),vs.length=ks.length->qI ks.length (kJ ks L vs)=vs
 |[],L,[],_=>rfl
 |k::ks,L,v::vs,h=>by
  show v::qI ks.length (kJ ks L vs)=_;rw[um ks L vs (by simpa using h)]
 |[],L,_::_,h=>by cases h
 |_::_,L,[],h=>by cases h
def A0:∀n,(rH n).length=n
 |0=>rfl
 |n+1=>by show(rH n).length+1=_;rw[A0 n]
def pK.under{Z:cB}(hp:∀c tm H C,(∀t v,lk C t=some v->tm.get t=some v/\lk E t=some v)->Q (.panic c) C D H->Z (.panic c) ⟨tm,D,up,H⟩){K:KR}{g:Bool}{R0:Env}{rest:List aN}{t:Nat}{b:Bool}{v:AV}(hw:cM b (some v)=some true){kf:List Nat}{L0:Env}(F:∀vs R tm H,vs.length=kf.length->lC E (kJ kf L0 vs) R tm->lC E (kJ kf L0 vs) R0 tm->K g (kJ kf L0 vs) R H->nM M ctx rest ⟨tm,D,up,H⟩ Z) :
 ∀{l:List aN}{acc:List Nat}{us:List AV}{L R:Env}{tm:T AV}{H:ar},bn l acc=kf->us.length=acc.length->L=kJ acc L0 us->Ni (some (t,b)) l->uj t l=true->tm.get t=some v->lC E L R tm->lC E L R0 tm->pK M cR Q E D K l g L R H->nM M ctx (l++rest) ⟨tm,D,up,H⟩ Z
 |[],acc,us,L,R,tm,H,f,e2,e3,_,_,_,hr,hr0,h=>by
  have f:acc=kf:=f;subst f;subst e3;exact F _ _ _ _ e2 hr hr0 h
 |s::l,acc,us,L,R,tm,H,f,e2,e3,hg,ho,ht,hr,hr0,h=>by
  rw[Ir,VA];have hs:s.guard=some (t,b):=hg s (I1 ..);have ho:cond (Kn s.dst t) false (cond s.gW (cond s.dst.isSome (uj t l) false) (uj t l))=true:=ho;have o:Kn s.dst t=false:=by cases q:Kn s.dst t with
   |true=>rw[q]at ho;cases ho
   |false=>rfl
  rw[o,zj]at ho;have y:uj t l=true:=by
   cases j:s.gW with
   |false=>rw[j]at ho;exact ho
   |true=>rw[j]at ho;cases o:s.dst.isSome with
    |true=>rw[o]at ho;exact ho
    |false=>rw[o]at ho;cases ho
  have:=EO.body hp (ctx:=ctx) (up:=up) (KK:=λ z=>nM M ctx (l++rest) z Z) hr hr0 (show EO M cR s Q E D (pK M cR Q E D K l) g L R H from h)
   λ J W V H' G O S U=>by
    have f:bn l (cond s.gW acc (Option.rec (motive:=λ _=>List Nat) acc (λ d=>d::acc) s.dst))=kf:=f;obtain⟨i,p,r⟩:∃i,i.length=(cond s.gW acc (Option.rec (motive:=λ _=>List Nat) acc (λ d=>d::acc) s.dst)).length/\J=kJ (cond s.gW acc (Option.rec (motive:=λ _=>List Nat) acc (λ d=>d::acc) s.dst)) L0 i:=by
     rcases G with⟨j,rfl,_⟩|⟨w,j,rfl,_⟩
     .rw [j];exact⟨us,e2,e3⟩
     .rw [j];cases s.dst with
      |none=>exact⟨us,e2,e3⟩
      |some d=>exact⟨w::us,by simpa using e2,by rw[e3];rfl⟩
    exact pK.under hp hw F f p r (λ x N=>hg x (vw _ N)) y (by
     rcases G with⟨_,_,rfl⟩|⟨w,_,_,rfl⟩
     .exact ht
     .cases u:s.dst with
      |none=>exact ht
      |some d =>
       rw[u]at o;show(tm.set d w).get t=_;rw[T.aI,qo (Pz o)];exact ht) O S U
  obtain⟨gW,dst,guard,args,op,Y⟩:=s;subst hs;have e:cM b (tm.get t)=some true:=by rw[ht];exact hw
  cases gW with
  |false=>exact bM.intro (m:=aG) e this
  |true=>exact bM.intro (m:=aG) e this
def pK.over{Z:cB}{R0:Env}{rest:List aN}{t:Nat}{b:Bool}{v:AV}(hw:cM b (some v)=some false){kf:List Nat}{L0:Env}{H:ar}(j:∀tm,lC E (kJ kf L0 (rH kf.length)) R0 tm->nM M ctx rest ⟨tm,D,up,H⟩ Z) :
 ∀{l:List aN}{acc:List Nat}{tm:T AV},bn l acc=kf->Ni (some (t,b)) l->uj t l=true->tm.get t=some v->lC E (kJ acc L0 (rH acc.length)) R0 tm->nM M ctx (l++rest) ⟨tm,D,up,H⟩ Z
 |[],acc,tm,c,_,_,_,hr0=>by
  have c:acc=kf:=c;subst c;exact j _ hr0
 |s::l,acc,tm,c,hg,ho,ht,hr0=>by
  rw[Ir,VA];have hs:s.guard=some (t,b):=hg s (I1 ..);have ho:cond (Kn s.dst t) false (cond s.gW (cond s.dst.isSome (uj t l) false) (uj t l))=true:=ho;have o:Kn s.dst t=false:=by cases q:Kn s.dst t with
   |true=>rw[q]at ho;cases ho
   |false=>rfl
  rw[o,zj]at ho;have e:cM b (tm.get t)=some false:=by rw[ht];exact hw
  have h:Ni (some (t,b)) l:=λ x p=>hg x (vw _ p);have c:bn l (cond s.gW acc (Option.rec (motive:=λ _=>List Nat) acc (λ d=>d::acc) s.dst))=kf:=c;cases i:s.gW with
  |true =>
   rw[i]at ho c;cases g:s.dst.isSome with
   |false=>rw[g]at ho;cases ho
   |true =>
    rw[g]at ho;have:=pK.over hw j c h ho ht hr0;obtain⟨gW,dst,guard,args,op,r⟩:=s;subst hs;subst i;exact bM.intro (m:=aG) e ⟨g,this⟩
  |false =>
   rw[i]at ho c;have:=pK.over hw j (tm:=eh s.dst .undef tm) c h ho (by
    cases f:s.dst with
     |none=>exact ht
     |some d =>
      rw[f]at o;show(tm.set d _).get t=_;rw[T.aI,qo (Pz o)];exact ht) (by
    have:=hr0.put s.dst .undef;cases f:s.dst with
     |none=>rw[f]at this;exact this
     |some d=>rw[f]at this;exact this)
   obtain⟨gW,dst,guard,args,op,r⟩:=s;subst hs;subst i;exact bM.intro (m:=aG) e this
def BF{a b:Option (Nat×Bool)}(h:rN a b=true):a=b:=by
 cases a with
 |none=>cases b with
  |none=>rfl
  |some _=>cases h
 |some p=>cases b with
  |none=>cases h
  |some q =>
   obtain⟨t,x⟩:=p;obtain⟨u,y⟩:=q;have h:cond (Nat.beq t u) (cond x y (!y)) false=true:=h;cases hb:Nat.beq t u with
   |false=>rw[hb]at h;cases h
   |true =>
    rw[hb]at h;rw[wq hb];cases x<;>cases y<;>first|rfl|cases h
def Cl:∀(l:List aN),(HG l).flatMap (·.2)=l /\ ∀x∈HG l,Ni x.1 x.2
 |[]=>⟨rfl,λ x c=>by cases c⟩
 |s::l=>by
  obtain⟨f,h⟩:=Cl l;have e:HG (s::l)=List.casesOn (motive:=λ _=>List EI) (HG l) [(s.guard,[s])] λ g r=>cond (rN g.1 s.guard) ((g.1,s::g.2)::r) ((s.guard,[s])::g::r):=rfl;rw[e];cases hg:HG l with
  |nil =>
   rw[hg]at f;exact⟨by simpa using f,λ x c=>by simp at c;subst c;intro y d;simp at d;subst d;rfl⟩
  |cons g r =>
   rw[hg]at f h;show(cond (rN g.1 s.guard) ((g.1,s::g.2)::r) ((s.guard,[s])::g::r)).flatMap _=_ /\ ∀x∈cond (rN g.1 s.guard) ((g.1,s::g.2)::r) ((s.guard,[s])::g::r),_;cases hs:rN g.1 s.guard with
   |true =>
    refine⟨by simpa using f,λ x c=>?_⟩;rcases jg.1 c with rfl|c
    .intro y d;rcases jg.1 d with rfl|d
     .exact (BF hs).symm
     .exact h g (I1 ..) y d
    .exact h x (vw _ c)
   |false =>
    refine⟨by simpa using f,λ x c=>?_⟩;rcases jg.1 c with rfl|c
    .intro y d;simp at d;subst d;rfl
    .exact h x c
def wZ.OT{Z:cB}(hp:∀c tm H o,(∀t v,lk o t=some v->tm.get t=some v/\lk E t=some v)->Q (.panic c) o D H->Z (.panic c) ⟨tm,D,up,H⟩){K:KR}{g:Bool}(p:∀L R tm H,lC E L R tm->K g L R H->Z .normal ⟨tm,D,up,H⟩):∀{gs:List EI}{L R:Env}{tm:T AV}{H:ar},(∀x∈gs,Ni x.1 x.2)->lC E L R tm->wZ M cR Q E D K gs g L R H ->
 nM M ctx (gs.flatMap (·.2)) ⟨tm,D,up,H⟩ Z
 |[],L,R,tm,H,_,hr,h=>p _ _ _ _ hr h
 |x::gs,L,R,tm,H,hg,hr,h=>by
  rw[js];have m:∀L R tm H,lC E L R tm->wZ M cR Q E D K gs g L R H->nM M ctx (gs.flatMap (·.2)) ⟨tm,D,up,H⟩ Z:=λ L R tm H hr h=>wZ.OT hp p (λ x i=>hg x (vw _ i)) hr h;have i:=hg x (I1 ..);obtain⟨q,l⟩:=x;cases q with
  |none=>exact pK.free hp (R0:=R) (λ L R tm H s _ j=>m L R tm H s j) i hr hr (show pK M cR Q E D (wZ M cR Q E D K gs) l g L R H from h)
  |some q =>
   obtain⟨t,b⟩:=q;cases ho:uj t l with
   |false =>
    have h:cond (uj t l) _ False:=h;rw[ho]at h;exact h.elim
   |true =>
    have h:cond (uj t l) _ False:=h;rw[ho,xq]at h;obtain⟨v,d,r,f,h⟩:=TV.elim hr h;have kl:cP (bn l [])=(bn l []).length:=DD _;have h:B3 g (cM b (some v)) λ g w=>vR g w (λ g=>pK M cR Q E D (λ g u _ H=>pD (cP (bn l [])) (qD (cP (bn l [])) λ vs H=>wZ M cR Q E D K gs g (kJ (bn l []) L vs) d H) (qI (cP (bn l [])) u) H) l g L d H)
     (λ g=>pD (cP (bn l [])) (qD (cP (bn l [])) λ vs H=>wZ M cR Q E D K gs g (kJ (bn l []) L vs) d H) (rH (cP (bn l []))) H):=h
    obtain⟨w,hw,h⟩:=B3.elim h;cases w with
    |true =>
     refine pK.under hp (R0:=d) hw (kf:=bn l []) (L0:=L) (λ vs R tm H q s z j=>?_) (acc:=[]) (us:=[]) rfl rfl rfl i ho r f f h;rw[kl,um _ _ _ q,W8 _ _ _ _ q]at j;exact m _ d tm H z j
    |false =>
     have h:pD (cP (bn l [])) (qD (cP (bn l [])) λ vs H=>wZ M cR Q E D K gs g (kJ (bn l []) L vs) d H) (rH (cP (bn l []))) H:=h;rw[kl,W8 _ _ _ _ (A0 _)]at h;exact pK.over hw (kf:=bn l []) (L0:=L) (λ tm y=>m _ d tm H y h) (acc:=[]) rfl i ho r f
def qE.OT{Z:cB}(hp:∀c tm H d,(∀t v,lk d t=some v->tm.get t=some v/\lk E t=some v)->Q (.panic c) d D H->Z (.panic c) ⟨tm,D,up,H⟩){l:List aN}{g:Bool}{H:ar}{K:KR}{tm:T AV}{ks:List Nat}(he:fP ks E tm)(h:qE M cR Q E D l g H K)(j:∀L R tm H,lC E L R tm->K g L R H->Z .normal ⟨tm,D,up,H⟩):nM M ctx l ⟨tm,D,up,H⟩ Z:=by
 obtain⟨f,i⟩:=Cl l;have:=wZ.OT hp (ctx:=ctx) j i (lC.first he) h
 rwa [f]at this
end
end
end Go.Am
namespace Go.Am
noncomputable section
variable{M:ak}{ctx:Ctx}{K:Kp}
def Vk(ks:List Nat)(E:Env):∀(L:Env)(t:Nat)(v:AV),bD t ks=true->lk (dy ks E L) t=some v->lk L t=some v\/lk L t=none/\lk E t=some v
 |[],t,v,_,h=>.inr ⟨rfl,h⟩
 |(k,w)::r,t,v,ht,h=>by
  have h:lk (cond (bD k ks) ((k,w)::dy ks E r) (dy ks E r)) t=some v:=h;rw[uO];cases hm:bD k ks with
  |true =>
   rw[hm,xq,uO]at h;split at h
   .rename_i e;rw[qr e];exact .inl h
   .rename_i e;rw[qo e];exact Vk ks E r t v ht h
  |false =>
   rw[hm,zj]at h
   by_cases e:k=t
   .subst e;rw[hm]at ht;cases ht
   .rw [qo e];exact Vk ks E r t v ht h
def Yq(ks:List Nat)(E:Env)(c:∀t v,lk E t=some v->bD t ks=true):∀(L:Env)(t:Nat)(v:AV),lk (dy ks E L) t=some v->bD t ks=true
 |[],t,v,h=>c t v h
 |(k,w)::r,t,v,h=>by
  have h:lk (cond (bD k ks) ((k,w)::dy ks E r) (dy ks E r)) t=some v:=h;cases hm:bD k ks with
  |true =>
   rw[hm,xq,uO]at h;split at h
   .rename_i e;subst e;exact hm
   .exact Yq ks E c r t v h
  |false=>rw[hm,zj]at h;exact Yq ks E c r t v h
def lC.ah{E L R:Env}{tm:T AV}(h:lC E L R tm){ks:List Nat}(d:∀t v,lk E t=some v->bD t ks=true):fP ks (dy ks E L) tm:=λ t v c=>by
 have hm:=Yq ks E d L t v c;refine⟨?_,hm⟩;rcases Vk ks E L t v hm c with q|⟨f,g⟩
 .exact h.l t v q
 .exact h.e t v f g
def fP.keys{ks:List Nat}{E:Env}{tm:T AV}(h:fP ks E tm):∀t v,lk E t=some v->bD t ks=true:=λ t v c=>(h t v c).2
def fP.cR{ks:List Nat}{E d:Env}{tm c:T AV}(h:fP ks E tm)(f:∀t v,lk d t=some v->c.get t=some v/\lk E t=some v):fP ks d c:=λ t v g=>⟨(f t v g).1,(h t v (f t v g).2).2⟩
def TV.cv{E L R:Env}{x:bI}{g:Bool}{P:Bool->AV->Prop}{tm:T AV}(hr:lC E L R tm)(h:CV E L R x g P):∃v,qY tm x=some v/\P g v:=by
 cases x with
 |tmp t=>obtain⟨v,_,c,_,d⟩:=TV.elim hr (show TV E L R t g (λ g _ v=>P g v)from h);exact⟨v,c,d⟩
 |const v=>exact⟨v,rfl,h⟩
 |d9 v=>exact⟨_,rfl,h⟩
 |func v=>exact⟨_,rfl,h⟩
def OV.elim{ks:List Nat}{E:Env}{x:bI}{g:Bool}{P:Bool->AV->Prop}{tm:T AV}(hr:fP ks E tm)(h:OV E x g P):∃v,qY tm x=some v/\P g v:=by
 cases x with
 |tmp t=>obtain⟨v,c,d⟩:=LK.elim (show LK g (lk E t) P from h);exact⟨v,(hr t v c).1,d⟩
 |const v=>exact⟨v,rfl,h⟩
 |d9 v=>exact⟨_,rfl,h⟩
 |func v=>exact⟨_,rfl,h⟩
def q9r{tm:T AV}{x:bI}{v:AV}{P:AV->Prop}(h:qY tm x=some v)(hp:P v):EZ tm x P:=by
 cases x with
 |tmp t=>exact bM.intro (m:=aG) h hp
 |const c=>injection h with h;subst h;exact hp
 |d9 c=>injection h with h;subst h;exact hp
 |func c=>injection h with h;subst h;exact hp
def mG.wp{a b:ai}{g:Bool}{v:AV}{A B:Bool->Prop}{tm:T AV}{c:bI}{st:St}{Q:cB}(d:qY st.tm c=some v)(h:mG g v A B)(ha:A g->WP M ctx a st Q)(hb:B g->WP M ctx b st Q):WP M ctx (.cond c a b) st Q:=by
 obtain⟨q,rfl,h⟩:=h.elim;refine q9r d ?_;cases q with
 |true=>exact ha h
 |false=>exact hb h
def eR:ai->Nat
 | .seq a b=>eR a+eR b+1
 | .cond _ a b=>eR a+eR b+1
 | .block _ b=>eR b+1
 | .loop _ b=>eR b+1
 | .scope b=>eR b+1
 |_=>0
def W3.wp:∀(n:Nat)(c:ai),eR c<=n -> ∀{g:Bool}{Q:aF}{E:Env}{D:List aM}{H:ar}{tm:T AV}{up:Option aE},W3 M ctx K c g Q E D H->fP K.ah E tm->WP M ctx c ⟨tm,D,up,H⟩ (QQ K.ah Q up):=by
 intro n
 induction n with
 |zero =>
  intro c s g Q E D H tm up h he;cases c with
  |skip=>exact⟨rfl,E,he,h⟩
  |label _=>exact⟨rfl,E,he,h⟩
  |exit _=>exact⟨rfl,E,he,h⟩
  |goto _=>exact⟨rfl,E,he,h⟩
  |ret=>exact⟨rfl,E,he,h⟩
  |stuck=>exact False.elim h
  |region l=>exact qE.OT (λ c F H' j p i=>⟨rfl,j,he.cR p,i⟩) he (show qE M K.cR Q E D l g H _ from h) λ L R tm H hr hk=>⟨rfl,_,hr.ah he.keys,hk⟩
  |rangeFunc f k =>
   obtain⟨v,t,h⟩:=OV.elim he (show OV E f g _ from h);exact q9r t (by
    have:=h tm up he;unfold IG at this⊢;split
    .rename_i hr;rw[hr]at this;exact Nd this λ e st⟨p,i,o⟩=>⟨p,E,by rw[i];exact he,o⟩
    .rename_i l hr;rw[hr]at this;exact EY (m:=aG) this λ d q=>Nd q λ e st⟨p,i,o⟩=>⟨p,E,by rw[i];exact he,o⟩)
  |seq _ _=>simp[eR]at s
  |cond _ _ _=>simp[eR]at s
  |block _ _=>simp[eR]at s
  |loop _ _=>simp[eR]at s
  |scope _=>simp[eR]at s
 |succ n ih =>
  intro c s g Q E D H tm up h he;have u:∀{a b:ai}{tm:T AV}{H:ar},eR b<=n->WP M ctx a ⟨tm,D,up,H⟩ (QQ K.ah (eG (W3 M ctx K b) Q) up)->WP M ctx a ⟨tm,D,up,H⟩ (Ai (WP M ctx b) (QQ K.ah Q up)):=λ{a b tm H}hb h=>pL h λ e st⟨p,j,i,o⟩=>by
   obtain⟨F,D',V,H'⟩:=st;subst p;cases e with
   |normal=>exact ih b hb o i
   |exit _=>exact⟨rfl,j,i,o⟩
   |goto _=>exact⟨rfl,j,i,o⟩
   |ret=>exact⟨rfl,j,i,o⟩
   |panic _=>exact⟨rfl,j,i,o⟩
  have w:∀{c:bI}{x y:ai}{E:Env}{tm:T AV}{v:AV}{g:Bool}{Q:aF}{H:ar},eR x<=n->eR y<=n->qY tm c=some v->fP K.ah E tm->mG g v (λ g=>W3 M ctx K x g Q E D H) (λ g=>W3 M ctx K y g Q E D H)->WP M ctx (.cond c x y) ⟨tm,D,up,H⟩ (QQ K.ah Q up) :=
   λ{c x y E tm v g Q H}hx hy t he h=>mG.wp (tm:=tm) (st:=⟨tm,D,up,H⟩) t h (λ h=>ih x hx h he) (λ h=>ih y hy h he)
  cases c with
  |seq a b =>
   have z:eR a+eR b<=n:=by simp only[eR]at s;omega
   have gen:W3 M ctx K a g (eG (W3 M ctx K b) Q) E D H->WP M ctx (.seq a b) ⟨tm,D,up,H⟩ (QQ K.ah Q up):=λ h=>u (a:=a) (b:=b) (by omega) (ih a (by omega) h he);have oA:∀(l:List aN)(S:KR),a=.region l->qE M K.cR Q E D l g H S->(∀L R tm H,lC E L R tm->S g L R H->WP M ctx b ⟨tm,D,up,H⟩ (QQ K.ah Q up))->WP M ctx (.seq a b) ⟨tm,D,up,H⟩ (QQ K.ah Q up):=λ l S e h' hk=>by
    subst e;exact qE.OT (Z:=Ai (WP M ctx b) (QQ K.ah Q up)) (λ c F H' j p i=>⟨rfl,j,he.cR p,i⟩) he h' hk
   cases a with
   |region l =>
    have plain:(qE M K.cR Q E D l g H λ g L _ H=>W3 M ctx K b g Q (dy K.ah E L) D H)->WP M ctx (.seq (.region l) b) ⟨tm,D,up,H⟩ (QQ K.ah Q up):=λ h=>oA l _ rfl h λ L R tm H hr hk=>ih b (by omega) hk (hr.ah he.keys);cases b with
    |cond c x y =>
     have U:eR x+eR y+1<=n:=by simp only[eR]at z;omega
     refine oA l _ rfl h λ L R tm H hr hk=>?_;obtain⟨v,t,hk⟩:=TV.cv hr hk;exact w (by omega) (by omega) t (hr.ah he.keys) hk
    |seq b1 r =>
     cases b1 with
     |cond c x y =>
      have U:eR x+eR y+1+eR r+1<=n:=by simp only[eR]at z;omega
      refine oA l _ rfl h λ L R tm H hr hk=>?_;obtain⟨v,t,hk⟩:=TV.cv hr hk;exact u (by omega) (w (by omega) (by omega) t (hr.ah he.keys) hk)
     |_=>exact plain h
    |_=>exact plain h
   |_=>exact gen h
  |cond c x y =>
   have z:eR x+eR y<=n:=by simp only[eR]at s;omega
   obtain⟨v,t,h⟩:=OV.elim he (show OV E c g _ from h);exact w (by omega) (by omega) t he h
  |block id b =>
   have hb:eR b<=n:=by simp only[eR]at s;omega
   exact pL (c:=b) (ih b hb (show W3 M ctx K b g (eB id Q) E D H from h) he) λ e st⟨p,j,i,o⟩=>by cases e<;>exact⟨p,j,i,o⟩
  |scope b =>
   have hb:eR b<=n:=by simp only[eR]at s;omega
   refine pL (c:=b) (ih b hb (show W3 M ctx K b g (jN b Q) E D H from h) he) λ e st⟨p,j,i,o⟩=>?_;cases e with
   |goto l=>exact⟨o.1,p,j,i,o.2⟩
   |normal=>exact⟨p,j,i,o⟩
   |exit _=>exact⟨p,j,i,o⟩
   |ret=>exact⟨p,j,i,o⟩
   |panic _=>exact⟨p,j,i,o⟩
  |loop ah b =>
   have hb:eR b<=n:=by simp only[eR]at s;omega
   cases ah with
   |some _=>exact False.elim h
   |none =>
    obtain⟨I,⟨n0,W,h0,hs⟩,C⟩:=(show dg (W3 M ctx K b) Q E D H from h)
    refine⟨λ n st=>st.up=up /\ ∃j,fP K.ah j st.tm/\I n j st.aX st.H,⟨n0,rfl,W,hs.sub he,h0⟩,λ n st⟨p,j,i,o⟩=>?_⟩;obtain⟨F,D',V,H'⟩:=st;subst p;refine pL (c:=b) (ih b hb (C n j D' H' o) i) λ e st⟨G,O,J,N⟩=>?_;cases e with
    |normal=>obtain⟨m,Y,q1,q2,q3⟩:=N;exact⟨m,q3,G,Y,q2.sub J,q1⟩
    |exit _=>exact⟨G,O,J,N⟩
    |goto _=>exact⟨G,O,J,N⟩
    |ret=>exact⟨G,O,J,N⟩
    |panic _=>exact⟨G,O,J,N⟩
  |skip=>exact⟨rfl,E,he,h⟩
  |label _=>exact⟨rfl,E,he,h⟩
  |exit _=>exact⟨rfl,E,he,h⟩
  |goto _=>exact⟨rfl,E,he,h⟩
  |ret=>exact⟨rfl,E,he,h⟩
  |stuck=>exact False.elim h
  |region l=>exact ih _ (xy _) h he
  |rangeFunc f k=>exact ih _ (xy _) h he
def iX(E:Env)(H:ar):List dX->(List AV->Prop)->Prop
 |[],P=>P []
 | .tmp t::rs,P=>LK true (lk E t) λ _ v=>iX E H rs λ vs=>P (v::vs)
 | .kD a::rs,P=>LK true (lk E a) λ _ v=>B3 true (Op.ae [v] H) λ _ v=>iX E H rs λ vs=>P (v::vs)
 | .cw n a::rs,P=>LK true (lk E a) λ _ v=>B3 true (Op.aq n [v] H) λ _ v=>iX E H rs λ vs=>P (v::vs)
def my(M:ak)(rs:List dX)(E:Env)(Q:bG->ar->Prop):List aM->Option aE->ar->Prop
 |[],none,H=>iX E H rs λ l=>Q (.ret (iT l)) H
 |[],some c,H=>Q (.panic c) H
 | .iY b::ds,m,H=>H.get b=some (.deferred (some []))/\my M rs E Q ds m (H.set b (.deferred none))
 | .fn (.func f) args::ds,m,H=>∃v up' H',i6 M f args (some (m.getD [])) H (.ret v) (some up') H'/\bM aG (mL m up') λ m'=>my M rs E Q ds m' H'
 | .fn (.yield _) _::_,_,_=>False
def iX.elim{ks:List Nat}{E:Env}{tm:T AV}(he:fP ks E tm){H:ar}:∀{rs:List dX}{P:List AV->Prop},iX E H rs P -> ∃l,dQ H tm rs=some l/\P l
 |[],P,h=>⟨[],rfl,h⟩
 | .tmp t::rs,P,h=>by
  obtain⟨v,c,h⟩:=LK.elim (show LK true (lk E t) _ from h);obtain⟨l,d,h⟩:=iX.elim he h;exact⟨v::l,by rw[Hl,(he t v c).1,d];rfl,h⟩
 | .kD t::rs,P,h=>by
  obtain⟨v,c,h⟩:=LK.elim (show LK true (lk E t) _ from h);obtain⟨w,d,h⟩:=B3.elim h;obtain⟨l,f,h⟩:=iX.elim he h;exact⟨w::l,by rw[xk0,(he t v c).1,qm,d,qm,f];rfl,h⟩
 | .cw n t::rs,P,h=>by
  obtain⟨v,c,h⟩:=LK.elim (show LK true (lk E t) _ from h);obtain⟨w,d,h⟩:=B3.elim h;obtain⟨l,f,h⟩:=iX.elim he h;exact⟨w::l,by rw[xk1,(he t v c).1,qm,d,qm,f];rfl,h⟩
def my.RN{ks:List Nat}{E:Env}{tm:T AV}(he:fP ks E tm){rs:List dX}{Q:bG->ar->Prop}:∀{D:List aM}{m:Option aE}{H:ar},my M rs E Q D m H->xT M rs tm Q D m H
 |[],none,H,h=>by obtain⟨l,d,g⟩:=iX.elim he h;exact bM.intro (m:=aG) d g
 |[],some c,H,h=>h
 | .iY b::ds,m,H,⟨d,g⟩=>⟨d,my.RN he g⟩
 | .fn (.func f) args::ds,m,H,⟨v,up',H',d,g⟩=>⟨v,up',H',d,EY g λ i h=>my.RN he h⟩
 | .fn (.yield _) _::_,_,_,h=>h
def eY(M:ak)(rs:List dX)(Q:bG->ar->Prop):aF:=λ e E D H=>match e with
 | .normal=>my M rs E Q D none H
 | .ret=>my M rs E Q D none H
 | .panic c=>my M rs E Q D (some c) H
 |_=>False
def ET(M:ak)(f:Nat)(vs:List AV)(H:ar)(Q:bG->ar->Prop):Prop:=∃e H',CALL M f vs H e H'/\Q e H'
def uz(Q:AV->ar->Prop)(e:bG)(H:ar):Prop:=match e with
 | .ret v=>Q v H
 | .panic _=>False
def zd(M:ak)(f:Nat)(vs:List AV)(H:ar)(Q:AV->ar->Prop):Prop:=ET M f vs H (uz Q)
def zd.elim{f:Nat}{vs:List AV}{H:ar}{Q:AV->ar->Prop}(h:zd M f vs H Q):∃v H',CALL M f vs H (.ret v) H'/\Q v H':=by
 obtain⟨e,H',d,c⟩:=h;cases e with
 |ret v=>exact⟨v,H',d,c⟩
 |panic _=>exact c.elim
def zd.intro{f:Nat}{vs:List AV}{H:ar}{Q:AV->ar->Prop}{v:AV}{H':ar}(h:CALL M f vs H (.ret v) H')(c:Q v H'):zd M f vs H Q:=⟨_,H',h,c⟩
def zd.mono{f:Nat}{vs:List AV}{H:ar}{Q Q':AV->ar->Prop}(h:zd M f vs H Q)(g:∀v H',Q v H'->Q' v H'):zd M f vs H Q':=by
 obtain⟨v,H',c,d⟩:=h.elim;exact⟨_,H',c,g _ _ d⟩
def C3.q{m:Bool}{f:Nat}{vs:List AV}{H:ar}{R:AV->ar->Prop}{P:Bool->AV->ar->Prop}(h:zd M f vs H R)(hk:∀v H',R v H'->P m v H'):C3 M m (.func f) vs H P:=by
 obtain⟨v,H',c,d⟩:=h.elim;exact⟨v,H',c,hk v H' d⟩
def C3.ret{m:Bool}{f:Nat}{vs:List AV}{H:ar}{P:Bool->AV->ar->Prop}{v:AV}{H':ar}(h:CALL M f vs H (.ret v) H')(hk:P m v H'):C3 M m (.func f) vs H P:=⟨v,H',h,hk⟩
def C3.yE{m:Bool}{l:Nat}{vs:List AV}{H:ar}{P:Bool->AV->ar->Prop}{v:AV}{H':ar}(h:sm M l vs H (.ret v) H')(hk:P m v H'):C3 M m (.yield l) vs H P:=⟨v,H',h,hk⟩
def P3.q{m:Bool}{X:aE->ar->Prop}{f:Nat}{vs:List AV}{H:ar}{R:bG->ar->Prop}{P:Bool->AV->ar->Prop}(h:ET M f vs H R)(hk:∀v H',R (.ret v) H'->P m v H')(i:∀c H',R (.panic c) H'->X c H'):P3 M m X (.func f) vs H P:=by
 obtain⟨e,H',g,d⟩:=h;refine⟨e,H',g,?_⟩;cases e with
 |ret v=>exact hk _ _ d
 |panic c=>exact i _ _ d
def jO:Nat->List AV->Env
 |_,[]=>[]
 |i,v::vs=>(i,v)::jO (i+1) vs
def jJ:Nat->Nat->List Nat->Bool
 |_,0,_=>true
 |i,n+1,ks=>bD i ks && jJ (i+1) n ks
def q6d:∀(vs:List AV)(i t:Nat)(tm:T AV),(jE i vs tm).get t=if i<=t then(match vs[t-i]? with|some v=>some v|none=>tm.get t)else tm.get t
 |[],i,t,tm=>by simp[jE]
 |v::vs,i,t,tm=>by
  rw[jE,q6d vs (i+1) t,T.aI]
  by_cases h:i=t
  .subst h;simp;intro h;omega
  .by_cases c:i<=t
   .have e:t-i=(t-(i+1))+1:=by omega
    rw[qr (show i+1<=t by omega),qr c,qo h,e,zr]
   .rw [qo (by omega),qo c,qo h]
def xj5:∀(vs:List AV)(i t:Nat)(v:AV),lk (jO i vs) t=some v->i<=t/\vs[t-i]? = some v
 |[],i,t,v,h=>by cases h
 |w::vs,i,t,v,h=>by
  rw[jO,uO]at h;split at h
  .rename_i e;subst e;injection h with h;subst h;simp
  .obtain ⟨d,c⟩:=xj5 vs (i+1) t v h;refine⟨by omega,?_⟩;have e:t-i=(t-(i+1))+1:=by omega
   rw[e,zr,c]
def qc:∀(n i:Nat)(ks:List Nat),jJ i n ks=true -> ∀t,i<=t->t<i+n->bD t ks=true
 |0,i,ks,_,t,h1,h2=>by omega
 |n+1,i,ks,h,t,h1,h2=>by
  simp only[jJ,xt]at h
  by_cases e:i=t
  .subst e;exact h.1
  .exact qc n (i+1) ks h.2 t (by omega) (by omega)
def TA{ks:List Nat}{vs:List AV}(h:jJ 0 vs.length ks=true):fP ks (jO 0 vs) (jE 0 vs .nil):=λ t v d=>by
 obtain⟨_,c⟩:=xj5 vs 0 t v d;rw[HU]at c;refine⟨by rw[q6d,qr (xy _),HU,c],qc _ 0 ks h t (xy _) ?_⟩;rw[j4];exact(qk.1 c).1
structure Fn3 where
 n:Nat
 F:b9
 K:Kp
def pre:ai->List ai
 | .seq a b=>.seq a b::jS (pre a) (pre b)
 | .cond c a b=>.cond c a b::jS (pre a) (pre b)
 | .block i b=>.block i b::pre b
 | .loop k b=>.loop k b::pre b
 | .scope b=>.scope b::pre b
 |c=>[c]
def part(c:ai)(k:Nat):ai:=Option.rec (motive:=λ _=>ai) .stuck (λ c=>c) (nth (pre c) k)
def dk:ai->Nat
 | .seq a b=>dk a+dk b+1
 | .cond _ a b=>dk a+dk b+1
 | .block _ b=>dk b+1
 | .loop _ b=>dk b+1
 | .scope b=>dk b+1
 |_=>1
def GO:∀(c:ai),(pre c).length=dk c
 | .seq a b=>by simp[pre,dk,oE,GO a,GO b]
 | .cond _ a b=>by simp[pre,dk,oE,GO a,GO b]
 | .block _ b=>by simp[pre,dk,GO b]
 | .loop _ b=>by simp[pre,dk,GO b]
 | .scope b=>by simp[pre,dk,GO b]
 | .skip=>rfl
 | .label _=>rfl
 | .exit _=>rfl
 | .goto _=>rfl
 | .ret=>rfl
 | .stuck=>rfl
 | .region _=>rfl
 | .rangeFunc _ _=>rfl
def Uz(c:ai):∃l,pre c=c::l:=by cases c<;>exact⟨_,rfl⟩
def Ve{α:Type}:∀(l:List α)(i:Nat),nth l i=l[i]?
 |[],i=>rfl
 |x::l,0=>rfl
 |x::l,i+1=>by rw[zr,<-Ve l i];rfl
def K3:∀(r:ai)(k:Nat)(c:ai),(pre r)[k]? = some c -> ∃l,(pre r).drop k=pre c++l:=by
 intro r
 induction r with
 |seq a b iha ihb =>
  intro k c h;cases k with
  |zero=>simp[pre]at h;subst h;exact⟨[],by simp⟩
  |succ k =>
   simp only[pre,oE,zr]at h;simp only[pre,oE,JD]
   by_cases hk:k<(pre a).length
   .rw [je hk]at h;obtain⟨l,hl⟩:=iha k c h;exact⟨l++pre b,by rw[yq (by omega),hl,zm]⟩
   .rw [zh (by omega)]at h;obtain⟨l,hl⟩:=ihb _ c h;refine⟨l,?_⟩;rw[AQ,jf (by omega),zx,hl]
 |cond x a b iha ihb =>
  intro k c h;cases k with
  |zero=>simp[pre]at h;subst h;exact⟨[],by simp⟩
  |succ k =>
   simp only[pre,oE,zr]at h;simp only[pre,oE,JD]
   by_cases hk:k<(pre a).length
   .rw [je hk]at h;obtain⟨l,hl⟩:=iha k c h;exact⟨l++pre b,by rw[yq (by omega),hl,zm]⟩
   .rw [zh (by omega)]at h;obtain⟨l,hl⟩:=ihb _ c h;refine⟨l,?_⟩;rw[AQ,jf (by omega),zx,hl]
 |block i b ih =>
  intro k c h;cases k with
  |zero=>simp[pre]at h;subst h;exact⟨[],by simp⟩
  |succ k=>simp only[pre,zr]at h;simpa only[pre,JD]using ih k c h
 |loop i b ih =>
  intro k c h;cases k with
  |zero=>simp[pre]at h;subst h;exact⟨[],by simp⟩
  |succ k=>simp only[pre,zr]at h;simpa only[pre,JD]using ih k c h
 |scope b ih =>
  intro k c h;cases k with
  |zero=>simp[pre]at h;subst h;exact⟨[],by simp⟩
  |succ k=>simp only[pre,zr]at h;simpa only[pre,JD]using ih k c h
 |_ =>
  intro k c h;cases k with
  |zero=>simp[pre]at h;subst h;exact⟨[],by simp[pre]⟩
  |succ k=>simp[pre]at h
def xbe{r:ai}{k:Nat}{c:ai}(h:(pre r)[k]? = some c):part r k=c:=by
 unfold part;rw[Ve,h]
def Zy{r:ai}{k:Nat}{c:ai}(h:part r k=c)(m:c≠ .stuck):∀(j:Nat)(d:ai),(pre c)[j]? = some d->part r (k+j)=d:=λ j d f=>by
 have i:(pre r)[k]? = some c:=by
  unfold part at h;rw[Ve]at h;cases g:(pre r)[k]? with
  |none=>rw[g]at h;exact(m h.symm).elim
  |some x=>rw[g]at h;exact congrArg some h
 obtain⟨l,hl⟩:=K3 r k c i;refine xbe ?_;rw[<-yr,hl,je (qk.1 f).1,f]
def Bb(c:ai):(pre c)[0]? = some c:=by obtain⟨l,h⟩:=Uz c;rw[h];rfl
def FL{r:ai}{k:Nat}{c a b:ai}(h:part r k=c)(d:c≠ .stuck)(e:∃x l,pre c=x::(pre a++l)):part r (k+1)=a:=by
 obtain⟨x,l,e⟩:=e;obtain⟨f,e'⟩:=Uz a;exact Zy h d 1 a (by rw[e,e'];rfl)
def ME{r:ai}{k:Nat}{c a b:ai}(h:part r k=c)(d:c≠ .stuck)(e:∃x,pre c=x::(pre a++pre b)):part r (k+1+dk a)=b:=by
 obtain⟨x,e⟩:=e;obtain⟨f,e'⟩:=Uz b;rw[vz];exact Zy h d (1+dk a) b (by rw[e,Nat.add_comm,zr,zh (by rw[GO];exact qg _),GO,Nat.sub_self,e'];rfl)
def U(M:ak)(ctx:Ctx)(K:Kp)(X:Nat->WX):ai->Nat->WX
 | .skip,_,g,Q,E,D,H=>qX g Q .normal E D H
 | .label _,_,g,Q,E,D,H=>qX g Q .normal E D H
 | .exit id,_,g,Q,E,D,H=>qX g Q (.exit id) E D H
 | .goto l,_,g,Q,E,D,H=>qX g Q (.goto l) E D H
 | .ret,_,g,Q,E,D,H=>qX g Q .ret E D H
 | .stuck,_,_,_,_,_,_=>False
 | .region l,_,g,Q,E,D,H=>qE M K.cR Q E D l g H λ g L _ H=>qX g Q .normal (dy K.ah E L) D H
 | .seq a b,k,g,Q,E,D,H=>match a,b with
  | .region l,.cond c x y=>qE M K.cR Q E D l g H λ g L R H=>CV E L R c g λ g v=>mG g v (λ g=>(Bool.rec (motive:=λ _=>WX) (U M ctx K X x (k+3)) (X (k+3)) (bD (k+3) K.named)) g Q (dy K.ah E L) D H) (λ g=>(Bool.rec (motive:=λ _=>WX) (U M ctx K X y (k+3+dk x)) (X (k+3+dk x)) (bD (k+3+dk x) K.named)) g Q (dy K.ah E L) D H)
  | .region l,.seq (.cond c x y) r=>qE M K.cR Q E D l g H λ g L R H=>CV E L R c g λ g v=>mG g v (λ g=>(Bool.rec (motive:=λ _=>WX) (U M ctx K X x (k+4)) (X (k+4)) (bD (k+4) K.named)) g (eG (Bool.rec (motive:=λ _=>WX) (U M ctx K X r (k+4+dk x+dk y)) (X (k+4+dk x+dk y)) (bD (k+4+dk x+dk y) K.named)) Q) (dy K.ah E L) D H)
   (λ g=>(Bool.rec (motive:=λ _=>WX) (U M ctx K X y (k+4+dk x)) (X (k+4+dk x)) (bD (k+4+dk x) K.named)) g (eG (Bool.rec (motive:=λ _=>WX) (U M ctx K X r (k+4+dk x+dk y)) (X (k+4+dk x+dk y)) (bD (k+4+dk x+dk y) K.named)) Q) (dy K.ah E L) D H)
  | .region l,b=>qE M K.cR Q E D l g H λ g L _ H=>(Bool.rec (motive:=λ _=>WX) (U M ctx K X b (k+2)) (X (k+2)) (bD (k+2) K.named)) g Q (dy K.ah E L) D H
  |a,b=>(Bool.rec (motive:=λ _=>WX) (U M ctx K X a (k+1)) (X (k+1)) (bD (k+1) K.named)) g (eG (Bool.rec (motive:=λ _=>WX) (U M ctx K X b (k+1+dk a)) (X (k+1+dk a)) (bD (k+1+dk a) K.named)) Q) E D H
 | .cond c x y,k,g,Q,E,D,H=>OV E c g λ g v=>mG g v (λ g=>(Bool.rec (motive:=λ _=>WX) (U M ctx K X x (k+1)) (X (k+1)) (bD (k+1) K.named)) g Q E D H) (λ g=>(Bool.rec (motive:=λ _=>WX) (U M ctx K X y (k+1+dk x)) (X (k+1+dk x)) (bD (k+1+dk x) K.named)) g Q E D H)
 | .block id b,k,g,Q,E,D,H=>(Bool.rec (motive:=λ _=>WX) (U M ctx K X b (k+1)) (X (k+1)) (bD (k+1) K.named)) g (eB id Q) E D H
 | .scope b,k,g,Q,E,D,H=>(Bool.rec (motive:=λ _=>WX) (U M ctx K X b (k+1)) (X (k+1)) (bD (k+1) K.named)) g (jN b Q) E D H
 | .loop (some _) _,_,_,_,_,_,_=>False
 | .loop none b,k,g,Q,E,D,H=>dg (Bool.rec (motive:=λ _=>WX) (U M ctx K X b (k+1)) (X (k+1)) (bD (k+1) K.named)) Q E D H
 | .rangeFunc f n,_,g,Q,E,D,H=>OV E f g λ g v=>jC M K.ah ctx n E D H Q v
def UZ(r:ai):∀(n:Nat)(c:ai),dk c<=n -> ∀k,part r k=c->U M ctx K (λ j=>W3 M ctx K (part r j)) c k=W3 M ctx K c:=by
 intro n
 induction n with
 |zero=>intro c h;cases c<;>simp[dk]at h
 |succ n ih =>
  intro c h k hk;have sub:∀(d:ai)(j:Nat),dk d<=n->part r j=d->Bool.rec (motive:=λ _=>WX) (U M ctx K (λ j=>W3 M ctx K (part r j)) d j) (W3 M ctx K (part r j)) (bD j K.named)=W3 M ctx K d:=λ d j w u=>by
   cases bD j K.named with
   |true=>show W3 M ctx K (part r j)=_;rw[u]
   |false=>exact ih d w j u
  have pl:=@FL r;have F:=@ME r;cases c with
  |seq a b =>
   have e:pre (.seq a b)=.seq a b::(pre a++pre b):=by simp[pre,oE]
   have ha:=FL (b:=b) hk (by simp) ⟨_,_,e⟩;have hb:=ME hk (by simp) ⟨_,e⟩;have hs:dk a+dk b<=n:=by simp only[dk]at h;omega
   have gen:(Bool.rec (motive:=λ _=>WX) (U M ctx K (λ j=>W3 M ctx K (part r j)) a (k+1)) (W3 M ctx K (part r (k+1))) (bD (k+1) K.named))=W3 M ctx K a/\(Bool.rec (motive:=λ _=>WX) (U M ctx K (λ j=>W3 M ctx K (part r j)) b (k+1+dk a)) (W3 M ctx K (part r (k+1+dk a))) (bD (k+1+dk a) K.named))=W3 M ctx K b :=
    ⟨sub a _ (by omega) ha,sub b _ (by omega) hb⟩
   cases a with
   |region l =>
    have plain:(Bool.rec (motive:=λ _=>WX) (U M ctx K (λ j=>W3 M ctx K (part r j)) b (k+2)) (W3 M ctx K (part r (k+2))) (bD (k+2) K.named))=W3 M ctx K b:=sub b _ (by omega) hb;cases b with
    |cond c x y =>
     have f:pre (.cond c x y)=.cond c x y::(pre x++pre y):=by simp[pre,oE]
     have o:=FL (b:=y) hb (by simp) ⟨_,_,f⟩;have s:=ME hb (by simp) ⟨_,f⟩;have p:dk x+dk y+1<=n:=by simp only[dk]at hs;omega
     have s1:=sub x (k+3) (by omega) o;have s2:=sub y (k+3+dk x) (by omega) s;funext g Q E D H;simp only[U,W3,s1,s2]
    |seq b1 q =>
     cases b1 with
     |cond c x y =>
      have t:pre (.seq (.cond c x y) q)=.seq (.cond c x y) q::(pre (.cond c x y)++pre q):=by simp[pre,oE]
      have f:pre (.cond c x y)=.cond c x y::(pre x++pre y):=by simp[pre,oE]
      have m:=FL (b:=q) hb (by simp) ⟨_,_,t⟩;have z:=ME hb (by simp) ⟨_,t⟩;have o:=FL (b:=y) m (by simp) ⟨_,_,f⟩;have s:=ME m (by simp) ⟨_,f⟩;have p:dk x+dk y+1+dk q+1<=n:=by simp only[dk]at hs;omega
      have s1:=sub x (k+4) (by omega) o;have s2:=sub y (k+4+dk x) (by omega) s;have C:=sub q (k+4+dk x+dk y) (by omega) (by rw[<-z];simp only[dk];congr 1;omega);funext g Q E D H;simp only[U,W3,s1,s2,C]
     |_=>funext g Q E D H;simp only[U,W3]at plain⊢;simp only[plain]
    |_=>funext g Q E D H;simp only[U,W3]at plain⊢;simp only[plain]
   |_=>funext g Q E D H;simp only[U,W3]at gen⊢;simp only[gen.1,gen.2]
  |cond c x y =>
   have f:pre (.cond c x y)=.cond c x y::(pre x++pre y):=by simp[pre,oE]
   have o:=FL (b:=y) hk (by simp) ⟨_,_,f⟩;have s:=ME hk (by simp) ⟨_,f⟩;have p:dk x+dk y<=n:=by simp only[dk]at h;omega
   have s1:=sub x (k+1) (by omega) o;have s2:=sub y (k+1+dk x) (by omega) s;funext g Q E D H;simp only[U,W3,s1,s2]
  |block i b =>
   have s1:=sub b (k+1) (by simp only[dk]at h;omega) (FL (b:=b) hk (by simp) ⟨.block i b,[],by simp[pre]⟩);funext g Q E D H;simp only[U,W3,s1]
  |scope b =>
   have s1:=sub b (k+1) (by simp only[dk]at h;omega) (FL (b:=b) hk (by simp) ⟨.scope b,[],by simp[pre]⟩);funext g Q E D H;simp only[U,W3,s1]
  |loop i b =>
   have s1:=sub b (k+1) (by simp only[dk]at h;omega) (FL (b:=b) hk (by simp) ⟨.loop i b,[],by simp[pre]⟩);funext g Q E D H;cases i with
   |none=>simp only[U,W3,s1]
   |some _=>rfl
  |_=>funext g Q E D H;rfl
def Nr:∃F:ak->Ctx->Kp×ai->WX,F=λ M ctx p=>W3 M ctx p.1 p.2:=⟨_,rfl⟩
def W:ak->Ctx->Kp×ai->WX:=Classical.choose Nr
def kS(M:ak)(ctx:Ctx)(p:Kp×ai):W M ctx p=W3 M ctx p.1 p.2:=congrFun (congrFun (congrFun (Classical.choose_spec Nr) M) ctx) p
def funcAt(P:Program)(n:Nat):b9:=Option.rec (motive:=λ _=>b9) ⟨[],.stuck,[]⟩ (λ f=>f) ((aV P).func n)
def jM(F:b9)(i:Nat):dZ:=Option.rec (motive:=λ _=>dZ) ⟨[],.stuck,.stuck⟩ (λ l=>l) (nth F.loops i)
def Du{M:ak}{ctx:Ctx}{K:Kp}{r:ai}{k:Nat}{g:Bool}{Q:aF}{E:Env}{D:List aM}{H:ar}{R:Prop}(h:U M ctx K (λ j=>W M ctx (K,part r j)) (part r k) k g Q E D H=R):W M ctx (K,part r k) g Q E D H=R:=by
 rw[<-h];have e:(λ j=>W M ctx (K,part r j))=λ j=>W3 M ctx K (part r j):=by funext j;exact kS ..
 rw[e,UZ (M:=M) (ctx:=ctx) (K:=K) r _ (part r k) (qg _) k rfl,kS]
abbrev uu:AV:=.undef
def QZ(c:ai):part c 0=c:=xbe (Bb c)
def ZB{α β:Type}{a b:α}{x y:β}(h:(a,x)=(b,y)):a=b/\x=y:=by injection h with c d;exact⟨c,d⟩
def NH{M:ak}{f:Nat}{fn:b9}(o:M.func f=some fn){ks:Kp}{vs:List AV}(hk:jJ 0 vs.length ks.ah=true){H:ar}{Q:bG->ar->Prop}
 (h:W M ⟨none,f⟩ (ks,part fn.body 0) true (eY M fn.results Q) (jO 0 vs) [] H):ET M f vs H Q:=by
 rw[kS,QZ]at h;refine q6g o (pL (W3.wp (eR fn.body) fn.body (qg _) (up:=none) h (TA hk)) λ e st⟨g,i,l,d⟩=>?_);obtain⟨tm,D,up,H'⟩:=st;have g:up=none:=g;subst g;have mono:∀{m:Option aE},my M fn.results i Q D m H'->xT M fn.results tm (λ e H=>(none:Option aE)=none/\Q e H) D m H':=λ{m}h=>by
  have j:my M fn.results i (λ e H=>(none:Option aE)=none/\Q e H) D m H':=by
   have e:(λ e H=>(none:Option aE)=none/\Q e H)=Q:=by funext e H;simp
   rw[e];exact h
  exact my.RN l j
 cases e with
 |normal=>exact mono d
 |ret=>exact mono d
 |panic c=>exact mono d
 |exit _=>exact d.elim
 |goto _=>exact d.elim
section
variable(E:Env)(H:ar)(K:Bool->AV->Prop)(K2:Bool->AV->ar->Prop)(A B:Bool->Prop)
def Lz(E:Env)(n:Nat)(K:Bool->AV->Prop):Prop:=LK true (lk E n) K
def Ly(g:Bool)(E:Env)(n:Nat)(K:Bool->AV->Prop):Prop:=LK g (lk E n) K
def Fl(g:Bool)(i:Nat)(a:AV)(H:ar)(K:Bool->AV->Prop):Prop:=B3 g (Op.fieldAddr i [a]) λ g x=>B3 g (Op.ae [x] H) K
def Nf(g:Bool)(i:Nat)(a:AV)(H:ar)(K:Bool->AV->Prop):Prop:=B3 g (Op.nilCheck [a]) λ g x=>Fl g i x H K
def Fs(g:Bool)(i:Nat)(a b:AV)(H:ar)(K:Bool->AV->ar->Prop):Prop:=B3 g (Op.fieldAddr i [a]) λ g x=>iW g (Op.store 1 [x,b] H) K
def Ns(g:Bool)(i:Nat)(a b:AV)(H:ar)(K:Bool->AV->ar->Prop):Prop:=B3 g (Op.nilCheck [a]) λ g x=>Fs g i x b H K
def Xl(g:Bool)(a b:AV)(H:ar)(K:Bool->AV->Prop):Prop:=B3 g (Op.aO 1 [a,b]) λ g x=>B3 g (Op.ae [x] H) K
def Xs(g:Bool)(a b c:AV)(H:ar)(K:Bool->AV->ar->Prop):Prop:=B3 g (Op.aO 1 [a,b]) λ g x=>iW g (Op.store 1 [x,c] H) K
def Bn(g:Bool)(o:BinOp)(a b:AV)(K:Bool->AV->Prop):Prop:=B3 g (Op.bin o [a,b]) K
def Cb(g:Bool)(o:BinOp)(a b:AV)(A B:Bool->Prop):Prop:=B3 g (Op.bin o [a,b]) λ g v=>mG g v A B
def Gt(g:Bool)(M:ak)(c:Ctx)(p:Kp×ai)(Q:aF)(E:Env)(D:List aM)(H:ar):Prop:=qX g (eG (W M c p) Q) .normal E D H
def XV(n:Nat):Lz E n K=LK true (lk E n) K:=propext j5
def Wq(n:Nat):Ly true E n K=LK true (lk E n) K:=propext j5
def Yc(i:Nat)(a:AV):Fl true i a H K=B3 true (Op.fieldAddr i [a]) λ g x=>B3 g (Op.ae [x] H) K:=propext j5
def Ww(i:Nat)(a:AV):Nf true i a H K=B3 true (Op.nilCheck [a]) λ g x=>Fl g i x H K:=propext j5
def V8(i:Nat)(a b:AV):Fs true i a b H K2=B3 true (Op.fieldAddr i [a]) λ g x=>iW g (Op.store 1 [x,b] H) K2:=propext j5
def Uc(i:Nat)(a b:AV):Ns true i a b H K2=B3 true (Op.nilCheck [a]) λ g x=>Fs g i x b H K2:=propext j5
def Vc(a b:AV):Xl true a b H K=B3 true (Op.aO 1 [a,b]) λ g x=>B3 g (Op.ae [x] H) K:=propext j5
def TR(a b c:AV):Xs true a b c H K2=B3 true (Op.aO 1 [a,b]) λ g x=>iW g (Op.store 1 [x,c] H) K2:=propext j5
def TN(o:BinOp)(a b:AV):Bn true o a b K=B3 true (Op.bin o [a,b]) K:=propext j5
def Uw(o:BinOp)(a b:AV):Cb true o a b A B=B3 true (Op.bin o [a,b]) λ g v=>mG g v A B:=propext j5
def VO(M:ak)(c:Ctx)(p:Kp×ai)(Q:aF)(D:List aM):Gt true M c p Q E D H=qX true (eG (W M c p) Q) .normal E D H:=propext j5
end
end
end Go.Am
namespace Go.Am
end Go.Am
namespace Go.Am
section
variable{M:ak}{ctx:Ctx}{cR:Bool}{Q Q':aF}{E:Env}{D:List aM}
def S6{α:Type}{m:Bool}{o:Option α}{K K':Bool -> α->Prop}(h:B3 m o K)(hk:∀a,K m a->K' m a):B3 m o K':=by
 cases o with
 |none=>exact h
 |some a=>exact hk a h
def xea{α β:Type}{m:Bool}{o:Option (α×β)}{K K':Bool -> α -> β->Prop}(h:iW m o K)(hk:∀a b,K m a b->K' m a b):iW m o K':=by
 cases o with
 |none=>exact h
 |some a=>exact hk a.1 a.2 h
def xh6{α:Type}{m:Bool}{o:Option α}{K K':Bool -> α->Prop}(h:LK m o K)(hk:∀a,K m a->K' m a):LK m o K':=by
 cases o with
 |none=>exact h
 |some a=>exact hk a h
def YE{m:Bool}{v:AV}{A B c d:Bool->Prop}(h:mG m v A B)(ha:A m->c m)(hb:B m->d m):mG m v c d:=by
 obtain⟨q,rfl,h⟩:=h.elim;cases q with
 |true=>exact ha h
 |false=>exact hb h
def Yp{L R:Env}{t:Nat}{g:Bool}{K K':Bool->Env->AV->Prop}(h:TV E L R t g K)(hk:∀R v,K g R v->K' g R v):TV E L R t g K':=by
 unfold TV at h⊢;cases hl:lk L t with
 |some v=>rw[hl]at h;exact hk _ _ h
 |none =>
  rw[hl]at h;cases c:lk R t with
  |some v=>rw[c]at h;exact hk _ _ h
  |none=>rw[c]at h;exact xh6 h λ v q=>hk _ _ q
def xh9{x:bI}{g:Bool}{K K':Bool->AV->Prop}(h:OV E x g K)(hk:∀v,K g v->K' g v):OV E x g K':=by
 cases x with
 |tmp t=>simp only[OV]at h⊢;exact xh6 h hk
 |const v=>exact hk _ h
 |d9 b=>exact hk _ h
 |func f=>exact hk _ h
def Fc{L R:Env}{x:bI}{g:Bool}{K K':Bool->AV->Prop}(h:CV E L R x g K)(hk:∀v,K g v->K' g v):CV E L R x g K':=by
 cases x with
 |tmp t=>simp only[CV]at h⊢;exact Yp h λ _ v=>hk v
 |const v=>exact hk _ h
 |d9 b=>exact hk _ h
 |func f=>exact hk _ h
def PV{L:Env}{g:Bool}:∀{l:List bI}{R:Env}{K K':Bool->Env->List AV->Prop},xF E L l g R K->(∀R vs,K g R vs->K' g R vs)->xF E L l g R K'
 |[],R,K,K',h,hk=>hk _ _ h
 | .tmp t::xs,R,K,K',h,hk=>Yp (K:=λ g R v=>xF E L xs g R λ g R vs=>K g R (v::vs)) (K':=λ g R v=>xF E L xs g R λ g R vs=>K' g R (v::vs)) h λ R v q=>PV (K:=λ g R vs=>K g R (v::vs)) (K':=λ g R vs=>K' g R (v::vs)) q λ R vs=>hk _ _
 | .const v::xs,R,K,K',h,hk=>PV (l:=xs) (K:=λ g R vs=>K g R (v::vs)) (K':=λ g R vs=>K' g R (v::vs)) h λ R vs=>hk _ _
 | .d9 v::xs,R,K,K',h,hk=>PV (l:=xs) (K:=λ g R vs=>K g R (.ptr v 0::vs)) (K':=λ g R vs=>K' g R (.ptr v 0::vs)) h λ R vs=>hk _ _
 | .func v::xs,R,K,K',h,hk=>PV (l:=xs) (K:=λ g R vs=>K g R (.fn (.func v) [] []::vs)) (K':=λ g R vs=>K' g R (.fn (.func v) [] []::vs)) h λ R vs=>hk _ _
def ZU(f:∀e E D H,Q e E D H->Q' e E D H){d:Option (List Nat)}{ks:List Nat}{c:aE}{H:ar}(h:PX d ks Q E D c H):PX d ks Q' E D c H:=by
 cases d with
 |none=>exact h
 |some _=>exact f _ _ _ _ h
def Q8(l:∀e E D H,Q e E D H->Q' e E D H){j:Option (List Nat)}{L:Env}{g:Bool}{f:lK}{vs:List AV}{H:ar}{K K':Bool->AV->ar->Prop}(h:Dv M cR j L Q E D g f vs H K)(hk:∀v H,K g v H->K' g v H):Dv M cR j L Q' E D g f vs H K':=by
 cases cR with
 |false=>obtain⟨v,H',i,d⟩:=h;exact⟨v,H',i,hk _ _ d⟩
 |true =>
  obtain⟨e,H',i,d⟩:=h;refine⟨e,H',i,?_⟩;cases e with
  |ret v=>exact hk _ _ d
  |panic c=>exact ZU l d
def Cy(c:∀e E D H,Q e E D H->Q' e E D H){s:aN}{K K':KR}{g:Bool}{L R:Env}{H:ar}(h:EO M cR s Q E D K g L R H)(hk:∀L R H,K g L R H->K' g L R H):EO M cR s Q' E D K' g L R H:=by
 refine PV (show xF E L s.args g R _ from h) λ R vs h=>?_;obtain⟨gW,dst,guard,args,op,i⟩:=s;cases gW with
 |true =>
  have h:Rh dst E L R H K g vs op:=h;show Rh dst E L R H K' g vs op;cases op with
  |read f =>
   cases dst with
   |none=>exact h
   |some d=>exact⟨h.1,hk _ _ _ h.2⟩
  |_=>exact h
 |false =>
  have h:uo M cR dst i Q E D L R H K g vs op:=h;show uo M cR dst i Q' E D L R H K' g vs op;cases op with
  |pure f=>simp only[uo]at h⊢;exact S6 h λ a=>hk _ _ _
  |read f=>simp only[uo]at h⊢;exact S6 h λ a=>hk _ _ _
  |alloc f=>simp only[uo]at h⊢;exact xea h λ a b=>hk _ _ _
  |gH f=>simp only[uo]at h⊢;exact xea h λ a b=>hk _ _ _
  |gV f=>exact Q8 c h λ v H=>hk _ _ _
  |gT =>
   simp only[uo,V3]at h⊢;split at h
   .exact Q8 c h λ v H=>hk _ _ _
   .exact Q8 c h λ v H=>hk _ _ _
   .exact h.elim
  |invoke n =>
   simp only[uo,N3]at h⊢;split at h
   .exact S6 h λ a q=>Q8 c q λ v H=>hk _ _ _
   .exact h.elim
  |recover=>exact h
  |defer=>exact h
  |panic =>
   cases cR with
   |false=>exact h
   |true =>
    have h:fZ vs H (PX i (kV L) Q E D):=h;show fZ vs H (PX i (kV L) Q' E D);unfold fZ at h⊢;split at h
    .exact ZU c h
    .exact h.elim
def Un(c:∀e E D H,Q e E D H->Q' e E D H){K K':KR}{g:Bool}(hk:∀L R H,K g L R H->K' g L R H):∀{l:List aN}{L R:Env}{H:ar},pK M cR Q E D K l g L R H->pK M cR Q' E D K' l g L R H
 |[],L,R,H,h=>hk _ _ _ h
 |s::l,L,R,H,h=>Cy c (show EO M cR s Q E D (pK M cR Q E D K l) g L R H from h) λ L R H=>Un c hk
def T7:∀(n:Nat){f f':List AV->ar->Prop},(∀vs H,f vs H->f' vs H) -> ∀(l:List AV)(H:ar),pD n (qD n f) l H->pD n (qD n f') l H
 |0,f,f',hf,l,H,h=>hf [] H h
 |n+1,f,f',hf,[],H,h=>h
 |n+1,f,f',hf,v::l,H,h=>T7 n (f:=λ l=>f (v::l)) (f':=λ l=>f' (v::l)) (λ vs H=>hf _ _) l H h
def Cd(f:∀e E D H,Q e E D H->Q' e E D H){x:EI}{K K':KR}{g:Bool}(hk:∀L R H,K g L R H->K' g L R H){L R:Env}{H:ar}(h:Qm M cR Q E D x K g L R H):Qm M cR Q' E D x K' g L R H:=by
 obtain⟨q,l⟩:=x;cases q with
 |none=>exact Un f hk (show pK M cR Q E D K l g L R H from h)
 |some q =>
  cases ho:uj q.1 l with
  |false =>
   have h:cond (uj q.1 l) _ False:=h;rw[ho]at h;exact h.elim
  |true =>
   have h:cond (uj q.1 l) _ False:=h;rw[ho,xq]at h;show cond (uj q.1 l) _ False;rw[ho,xq];refine Yp h λ c v h=>?_;have h:B3 g (cM q.2 (some v)) λ g w=>vR g w (λ g=>pK M cR Q E D (λ g d _ H=>pD (cP (bn l [])) (qD (cP (bn l [])) λ vs H=>K g (kJ (bn l []) L vs) c H) (qI (cP (bn l [])) d) H) l g L c H)
    (λ g=>pD (cP (bn l [])) (qD (cP (bn l [])) λ vs H=>K g (kJ (bn l []) L vs) c H) (rH (cP (bn l []))) H):=h
   refine S6 (K':=λ g w=>vR g w (λ g=>pK M cR Q' E D (λ g d _ H=>pD (cP (bn l [])) (qD (cP (bn l [])) λ vs H=>K' g (kJ (bn l []) L vs) c H) (qI (cP (bn l [])) d) H) l g L c H)
    (λ g=>pD (cP (bn l [])) (qD (cP (bn l [])) λ vs H=>K' g (kJ (bn l []) L vs) c H) (rH (cP (bn l []))) H)) h λ w h=>?_
   cases w with
   |true=>exact Un f (λ d R H h=>T7 _ (λ vs H=>hk _ _ _) _ _ h) (show pK M cR Q E D _ l g L c H from h)
   |false=>exact T7 _ (λ vs H=>hk _ _ _) _ _ h
def Rt(c:∀e E D H,Q e E D H->Q' e E D H){l:List aN}{K K':KR}{g:Bool}(hk:∀L R H,K g L R H->K' g L R H){H:ar}(h:qE M cR Q E D l g H K):qE M cR Q' E D l g H K':=by
 unfold qE at h⊢;generalize HG l=gs at h⊢;generalize([]:Env)=L at h⊢;have key:∀(gs:List EI)(L R:Env)(H:ar),wZ M cR Q E D K gs g L R H->wZ M cR Q' E D K' gs g L R H:=by
  intro gs
  induction gs with
  |nil=>exact λ L R H h=>hk _ _ _ h
  |cons x gs ih=>exact λ L R H h=>Cd c ih (show Qm M cR Q E D x (wZ M cR Q E D K gs) g L R H from h)
 exact key gs L L H h
def FE{K:Kp}:∀(n:Nat)(c:ai),eR c<=n -> ∀{g:Bool}{Q Q':aF}{E:Env}{D:List aM}{H:ar},(∀e E D H,Q e E D H->Q' e E D H)->W3 M ctx K c g Q E D H->W3 M ctx K c g Q' E D H:=by
 intro n
 induction n with
 |zero =>
  intro c j g Q Q' E D H i h;cases c with
  |region l=>exact Rt i (λ L R H h=>i _ _ _ _ h) h
  |rangeFunc f k =>
   have h:OV E f g λ g v=>jC M K.ah ctx k E D H Q v:=h;show OV E f g λ g v=>jC M K.ah ctx k E D H Q' v;have key:∀v,jC M K.ah ctx k E D H Q v->jC M K.ah ctx k E D H Q' v:=λ v h tm up he=>by
    have:=h tm up he;unfold IG at this⊢;split
    .rename_i hr;rw[hr]at this;exact Nd this λ e st⟨p,u,w⟩=>⟨p,u,i _ _ _ _ w⟩
    .rename_i l hr;rw[hr]at this;exact EY (m:=aG) this λ d q=>Nd q λ e st⟨p,u,w⟩=>⟨p,u,i _ _ _ _ w⟩
   exact xh9 h key
  |skip=>exact i _ _ _ _ h
  |label _=>exact i _ _ _ _ h
  |exit _=>exact i _ _ _ _ h
  |goto _=>exact i _ _ _ _ h
  |ret=>exact i _ _ _ _ h
  |stuck=>exact h
  |seq _ _=>simp[eR]at j
  |cond _ _ _=>simp[eR]at j
  |block _ _=>simp[eR]at j
  |loop _ _=>simp[eR]at j
  |scope _=>simp[eR]at j
 |succ n ih =>
  intro c j g Q Q' E D H i h;have C:∀{b:ai},eR b<=n -> ∀e E D H,eG (W3 M ctx K b) Q e E D H->eG (W3 M ctx K b) Q' e E D H:=λ hb e E D H h=>by
   cases e with
   |normal=>exact ih _ hb i h
   |_=>exact i _ _ _ _ h
  cases c with
  |seq a b =>
   have o:eR a+eR b<=n:=by simp only[eR]at j;omega
   have gen:W3 M ctx K a g (eG (W3 M ctx K b) Q) E D H->W3 M ctx K a g (eG (W3 M ctx K b) Q') E D H:=λ h=>ih a (by omega) (C (by omega)) h;cases a with
   |region l =>
    have plain:(qE M K.cR Q E D l g H λ g L _ H=>W3 M ctx K b g Q (dy K.ah E L) D H)->qE M K.cR Q' E D l g H λ g L _ H=>W3 M ctx K b g Q' (dy K.ah E L) D H:=λ h=>Rt i (λ L R H h=>ih b (by omega) i h) h;have cv:∀{L R:Env}{c:bI}{A B s t:Bool->Prop},CV E L R c g (λ g v=>mG g v A B)->(A g->s g)->(B g->t g)->CV E L R c g (λ g v=>mG g v s t):=λ{L R c A B s t}h ha hb=>by
     exact Fc h λ v h=>YE h ha hb
    cases b with
    |cond c x y =>
     have z:eR x+eR y+1<=n:=by simp only[eR]at o;omega
     exact Rt i (λ L R H h=>cv h (ih x (by omega) i) (ih y (by omega) i)) h
    |seq b1 r =>
     cases b1 with
     |cond c x y =>
      have z:eR x+eR y+1+eR r+1<=n:=by simp only[eR]at o;omega
      exact Rt i (λ L R H h=>cv h (ih x (by omega) (C (by omega))) (ih y (by omega) (C (by omega)))) h
     |_=>exact plain h
    |_=>exact plain h
   |_=>exact gen h
  |cond c x y =>
   have o:eR x+eR y<=n:=by simp only[eR]at j;omega
   have h:OV E c g λ g v=>mG g v (λ g=>W3 M ctx K x g Q E D H) (λ g=>W3 M ctx K y g Q E D H):=h;exact xh9 (K':=λ g v=>mG g v (λ g=>W3 M ctx K x g Q' E D H) (λ g=>W3 M ctx K y g Q' E D H)) h λ v h=>YE h (ih x (by omega) i) (ih y (by omega) i)
  |block id b =>
   have hb:eR b<=n:=by simp only[eR]at j;omega
   exact ih b hb (λ e E D H h=>by cases e<;>exact i _ _ _ _ h) h
  |scope b =>
   have hb:eR b<=n:=by simp only[eR]at j;omega
   exact ih b hb (λ e E D H h=>by cases e<;>first|exact i _ _ _ _ h|exact⟨h.1,i _ _ _ _ h.2⟩) h
  |loop ah b =>
   have hb:eR b<=n:=by simp only[eR]at j;omega
   cases ah with
   |some _=>exact h
   |none =>
    obtain⟨I,F,p⟩:=h;exact⟨I,F,λ n E D H G=>ih b hb (λ e E D H h=>by cases e<;>first|exact h|exact i _ _ _ _ h) (p n E D H G)⟩
  |_=>exact ih _ (xy _) i h
end
def W.mono{M:ak}{ctx:Ctx}{p:Kp×ai}{g:Bool}{Q Q':aF}{E:Env}{D:List aM}{H:ar}(h:W M ctx p g Q E D H)(c:∀e E D H,Q e E D H->Q' e E D H):W M ctx p g Q' E D H:=by
 rw[kS]at h⊢;exact FE _ p.2 (qg _) c h
end Go.Am
namespace Go.Am
universe u
noncomputable section
variable(X:WX)(Q:aF)(E:Env)(D:List aM)(H:ar)(I:KT)(n:Nat)
def xb9:eG X Q .normal E D H=X true Q E D H:=propext j5
def AX:eG X Q .ret E D H=Q .ret E D H:=propext j5
def xib(l:Nat):eG X Q (.exit l) E D H=Q (.exit l) E D H:=propext j5
def xic(l:Nat):eG X Q (.goto l) E D H=Q (.goto l) E D H:=propext j5
def xf4(c:aE):eG X Q (.panic c) E D H=Q (.panic c) E D H:=propext j5
def xb5(i:Nat):eB i Q .normal E D H=Q .normal E D H:=propext j5
def CM(i:Nat):eB i Q .ret E D H=Q .ret E D H:=propext j5
def xhy(i l:Nat):eB i Q (.goto l) E D H=Q (.goto l) E D H:=propext j5
def xft(i:Nat)(c:aE):eB i Q (.panic c) E D H=Q (.panic c) E D H:=propext j5
def xhx(i l:Nat):eB i Q (.exit l) E D H=if i=l then Q .normal E D H else Q (.exit l) E D H:=by
 show Q (cond (Nat.beq i l) .normal (.exit l)) E D H=_
 by_cases h:i=l
 .subst h;simp
 .rw [qo h,LB h];rfl
section
variable(M:ak)(rs:List dX)(Q:bG->ar->Prop)(P:List AV->Prop)(R:AV->ar->Prop)
def BN:eY M rs Q .ret E [] H=iX E H rs λ l=>Q (.ret (iT l)) H:=propext j5
def xb8:eY M rs Q .normal E [] H=iX E H rs λ l=>Q (.ret (iT l)) H:=propext j5
def xfy(c:aE):eY M rs Q (.panic c) E [] H=Q (.panic c) H:=propext j5
def CH:iX E H [] P=P []:=propext j5
def CJ(t:Nat):iX E H (.tmp t::rs) P=LK true (lk E t) λ _ v=>iX E H rs λ vs=>P (v::vs):=propext j5
def xf2(t:Nat):iX E H (.kD t::rs) P=LK true (lk E t) λ _ v=>B3 true (Op.ae [v] H) λ _ v=>iX E H rs λ vs=>P (v::vs):=propext j5
def xf3(n t:Nat):iX E H (.cw n t::rs) P=LK true (lk E t) λ _ v=>B3 true (Op.aq n [v] H) λ _ v=>iX E H rs λ vs=>P (v::vs):=propext j5
def Hu(v:AV):uz R (.ret v) H=R v H:=propext j5
end
def HX:((0:Nat):Int)=0:=rfl
def zw(l:List AV):AV.cells (.agg l)=l:=rfl
def xix(k:IntKind)(n:Int):AV.cells (.int k n)=[.int k n]:=rfl
def xgc(b:Bool):AV.cells (.bool b)=[.bool b]:=rfl
def xi0(s:List UInt8):AV.cells (.str s)=[.str s]:=rfl
def xiz(b o:Nat):AV.cells (.ptr b o)=[.ptr b o]:=rfl
def Jx(I:Nat->Env->ar->Prop)(D:List aM)(n:Nat)(Q:aF):aF:=λ e E D' H=>match e with
 | .normal=>D'=D /\ ∃m E',I m E' H/\vU E' E/\m<n
 |e=>Q e E D' H
def dg.intro{M:ak}{ctx:Ctx}{p:Kp×ai}{Q:aF}{E:Env}{D:List aM}{H:ar}(I:Nat->Env->ar->Prop)(j:∃n d,I n d H/\vU d E)(h:∀n E H,I n E H->W M ctx p true (Jx I D n Q) E D H):dg (W M ctx p) Q E D H:=by
 obtain⟨n,d,l,o⟩:=j;refine⟨λ n E D' H=>D'=D/\I n E H,⟨n,d,⟨rfl,l⟩,o.ss⟩,λ n E D' H⟨e,r⟩=>?_⟩;subst e;refine W.mono (h n E H r) λ e E g H f=>?_;cases e with
 |normal=>obtain⟨q,m,i,a,b,c⟩:=f;exact⟨m,i,⟨q,a⟩,b.ss,c⟩
 |_=>exact f
def Qe(P:Env->List aM->ar->Prop)(Q:aF):aF:=λ e E D H=>match e with
 | .normal=>P E D H
 |e=>Q e E D H
def xfz(P:Env->List aM->ar->Prop)(Q:aF)(E:Env)(D:List aM)(H:ar):Qe P Q .normal E D H=P E D H:=propext j5
def FK(P:Env->List aM->ar->Prop)(Q:aF)(E:Env)(D:List aM)(H:ar):Qe P Q .ret E D H=Q .ret E D H:=propext j5
def D9(P:Env->List aM->ar->Prop)(Q:aF)(E:Env)(D:List aM)(H:ar)(l:Nat):Qe P Q (.exit l) E D H=Q (.exit l) E D H:=propext j5
def LN(X:WX)(Q:aF):Nat->Env->List aM->ar->Prop
 |0,_,_,_=>False
 |n+1,E,D,H=>X true (Qe (LN X Q n) Q) E D H
def F1(X:WX)(Q:aF)(n:Nat)(E:Env)(D:List aM)(H:ar):LN X Q (n+1) E D H=X true (Qe (LN X Q n) Q) E D H:=propext j5
def xf0(I:Nat->Env->ar->Prop)(D:List aM)(n:Nat)(Q:aF)(E:Env)(H:ar):Jx I D n Q .normal E D H = ∃m c,I m c H/\vU c E/\m<n:=propext ⟨λ h=>h.2,λ h=>⟨rfl,h⟩⟩
def Gi(I:Nat->Env->ar->Prop)(D D':List aM)(n:Nat)(Q:aF)(E:Env)(H:ar):Jx I D n Q .ret E D' H=Q .ret E D' H:=propext j5
def Cu(I:Nat->Env->ar->Prop)(D D':List aM)(n:Nat)(Q:aF)(E:Env)(H:ar)(l:Nat):Jx I D n Q (.exit l) E D' H=Q (.exit l) E D' H:=propext j5
def DU(I:Nat->Env->ar->Prop)(D D':List aM)(n:Nat)(Q:aF)(E:Env)(H:ar)(l:Nat):Jx I D n Q (.goto l) E D' H=Q (.goto l) E D' H:=propext j5
def xh7(I:Nat->Env->ar->Prop)(D D':List aM)(n:Nat)(Q:aF)(E:Env)(H:ar)(c:aE):Jx I D n Q (.panic c) E D' H=Q (.panic c) E D' H:=propext j5
def sw{α:Sort u}(b:Bool)(x y:α):α:=cond b x y
@[congr]def Oi{α:Sort u}{b c:Bool}{x y:α}(h:b=c):sw b x y=sw c x y:=by rw[h]
def QR{α:Sort u}(x y:α):sw true x y=x:=rfl
def OK{α:Sort u}(x y:α):sw false x y=y:=rfl
def Ib{α:Sort u}(p:Prop)[Decidable p](x y:α):(if p then x else y)=sw (decide p) x y:=by by_cases h:p<;>simp[h,sw]
def QD(k t:Nat)(v:AV)(E:Env):lk ((k,v)::E) t=sw (decide (k=t)) (some v) (lk E t):=(uO ..).trans (Ib ..)
def FU(Q:aF)(E:Env)(D:List aM)(H:ar)(i l:Nat):eB i Q (.exit l) E D H=sw (decide (i=l)) (Q .normal E D H) (Q (.exit l) E D H):=(xhx ..).trans (Ib ..)
def XR(α:Type)(h:Decidable True)(x y:α):@ite α True h x y=x:=qr trivial
def Vo(α:Type)(h:Decidable False)(x y:α):@ite α False h x y=y:=qo id
def N7(h:Decidable True)(x y:Prop):@ite Prop True h x y=x:=qr trivial
def NM(h:Decidable False)(x y:Prop):@ite Prop False h x y=y:=qo id
def OS:=And.intro @GS<|And.intro @G2<|And.intro @C7<|And.intro B9<|And.intro xh4<|And.intro CL<|And.intro xh5<|And.intro C4<|And.intro O2<|And.intro @Ie<|And.intro AB <|
 And.intro Fp<|And.intro Ab<|And.intro BL<|And.intro QD<|And.intro B0<|And.intro zY<|And.intro G7 <|
 And.intro xb9<|And.intro AX<|And.intro xib<|And.intro xic<|And.intro xf4<|And.intro xb5<|And.intro CM<|And.intro xhy<|And.intro xft<|And.intro FU <|
 And.intro xfz<|And.intro FK<|And.intro D9<|And.intro F1<|And.intro xf0<|And.intro Gi<|And.intro Cu<|And.intro DU<|And.intro xh7<|And.intro BN<|And.intro xb8<|And.intro xfy<|And.intro CH<|And.intro CJ<|And.intro xf2<|And.intro xf3 <|
 And.intro Hu<|And.intro XV<|And.intro Wq<|And.intro Yc<|And.intro Ww<|And.intro V8<|And.intro Uc<|And.intro Vc<|And.intro TR<|And.intro TN<|And.intro Uw<|And.intro VO<|And.intro VW<|And.intro Uu TF
def NL:=And.intro XR<|And.intro Vo<|And.intro N7<|And.intro NM<|And.intro @QR.{1}<|And.intro @OK.{1}<|And.intro @QR.{0}<|And.intro @OK.{0}<|And.intro K9<|And.intro Lc<|And.intro @OI<|And.intro @QN<|And.intro @NV<|And.intro @Qi<|And.intro @N0<|And.intro @ON<|And.intro @Pw<|And.intro @NP<|And.intro @Qa<|And.intro @Jp<|And.intro PA <|
 And.intro Je<|And.intro Kr<|And.intro Bq<|And.intro AH<|And.intro xkl<|And.intro xdj<|And.intro zT<|And.intro KG<|And.intro Fx<|And.intro FF<|And.intro Qw <|
 And.intro zw<|And.intro xix<|And.intro xgc<|And.intro xi0<|And.intro xiz<|And.intro @decide_true<|And.intro @JG<|And.intro Bool.not_true<|And.intro Bool.not_false<|And.intro not_true_eq_false<|And.intro not_false_eq_true<|And.intro @ne_eq.{1}<|And.intro Df<|And.intro rk<|And.intro false_and<|And.intro and_false <|
 And.intro @xq.{1}<|And.intro @zj.{1}<|And.intro @qm.{0,0}<|And.intro vh<|And.intro j4<|And.intro @jp.{0}<|And.intro @zr.{0}<|And.intro @zx.{0} @Ir.{0}
def Qu:type_of% HX/\type_of% OS/\type_of% NL:=⟨HX,OS,NL⟩
section
variable{α:Type}{enc:α->List AV}{e size:Nat}{H0 H H':ar}{v:AV}{xs:List α}
def sK.to3{α β:Type}{m g:Bool}{o:Option (α×β)}{K:Bool -> α -> β->Prop}(h:sK m o λ _ a b=>K g a b):iW g o K:=by
 cases o with
 |none=>exact False.elim h
 |some a=>exact h
def tN{H:ar}{e size bytes:Nat}{v:AV}{n:Nat}{cells:List AV}(h:Own H e size v n cells){x:AV}{k:Nat}{new:List AV}(i:Sl H size x k new)(c:aJ new=true)(hs:0<size)
 (g:(n+k)*bytes<=140737488355328) (d:n+k<=140737488355328) {K:Bool->AV->ar->Prop} {m:Bool}
 (hk:∀f H',Own H' e size f (n+k) (cells++new)->Fr (aW v) H H'->(∀b,aW f b->aW v b\/H.au<=b)->K m f H'):iW m (Op.append e size bytes [v,x] H) K :=
 sK.to3 (m:=m) (ZF h i c hs g d hk)
def mO{H:ar}{e size bytes:Nat}{v:AV}{n:Nat}{cells:List AV}(h:Own H e size v n cells){zero:List AV}{x:AV}(q:zero.length=size)(p:x.cells.length=size)(c:aJ x.cells=true)(hs:0<size)
 (l:(n+1)*bytes<=140737488355328) (f:n+1<=140737488355328) {K:bH->(Nat->AV)->Bool->AV->ar->Prop} {m:Bool}
 (hk:∀i H',Own H' e size i (n+1) (cells++x.cells)->Fr (aW v) H H'->(∀b,aW i b->aW v b\/H.au<=b)->K (.row x.cells e (0,0) true) (Op.sliceTo 1 1) m i H') :
 iW m (Op.buildSlice e 1 zero [(0,size)] [x]) λ g o mk=>iW g (Op.append e size bytes [v,mk H.au] (H.alloc o)) (K o mk):=by
 have:=Hk (m:=m) h q p c hs l f (K:=λ o mk _ v H=>K o mk m v H) hk;obtain⟨o,mk,j,d⟩:∃o mk,Op.buildSlice e 1 zero [(0,size)] [x]=some (o,mk)/\sK true (Op.append e size bytes [v,mk H.au] (H.alloc o)) (λ _ v H=>K o mk m v H):=by
  unfold sK at this;split at this
  .rename_i a ha;exact⟨a.1,a.2,ha,this⟩
  .exact this.elim
 refine iW.intro j ?_;unfold sK at d;split at d
 .rename_i a ha;exact iW.intro (a:=a.1) (b:=a.2) ha d
 .exact d.elim
end
end
def qn(b o:Nat):Op.nilCheck [.ptr b o]=some (.ptr b o):=rfl
def xe(i:Nat)(l:List AV):Op.extract i [.tuple l]=l[i]?:=xkj i l
end Go.Am
namespace Go.Am
def IW:List bI->Option Nat
 |[.tmp t]=>some t
 |_=>none
def JK(s:aN):Option Nat:=match s.op,s.gW,s.guard,s.dst with
 | .defer,false,none,none=>IW s.args
 |_,_,_,_=>none
def E9:List aN->Option (List aN×Nat×List aN)
 |[]=>none
 |s::r=>match JK s with
  |some t=>some ([],t,r)
  |none=>(E9 r).map λ q=>(s::q.1,q.2.1,q.2.2)
def rG:ai->Option (ai×Nat×ai)
 | .region l=>(E9 l).map λ q=>(.region q.1,q.2.1,.region q.2.2)
 | .seq a b=>match rG a with
  |some q=>some (q.1,q.2.1,.seq q.2.2 b)
  |none=>(rG b).map λ q=>(.seq a q.1,q.2.1,q.2.2)
 |_=>none
noncomputable def xW(c:ai):ai:=Option.rec (motive:=λ _=>ai) .stuck (λ q=>q.1) (rG c)
noncomputable def vP(c:ai):ai:=Option.rec (motive:=λ _=>ai) .stuck (λ q=>q.2.2) (rG c)
section
variable{M:ak}{ctx:Ctx}
def DX(W:St->cB->Prop)(t:Nat)(st:St)(Q:cB):Prop:=∃g first cap,st.tm.get t=some (.fn (.func g) first cap)/\W ⟨st.tm,.fn (.func g) (first++cap)::st.aX,st.up,st.H⟩ Q
def Dj{s:aN}{st:St}{Q Q':cB}{K:St->Prop}(h:∀c st,Q (.panic c) st=Q' (.panic c) st):qC M ctx s st Q K=qC M ctx s st Q' K:=by
 have e:∀d tm aX up,yZ d tm aX up Q=yZ d tm aX up Q':=λ d tm aX up=>by
  funext c H;cases d with
  |none=>rfl
  |some ds=>exact h _ _
 have o:∀dst d vs op,oe M ctx dst d st Q K vs op=oe M ctx dst d st Q' K vs op:=λ dst d vs op=>by
  cases op<;>simp only[oe,e]
 unfold qC;simp only[o]
def xi3(hr:ctx.round=none):∀{l l1 l2:List aN}{t:Nat},E9 l=some (l1,t,l2) -> ∀{st:St}{Q:cB},nM M ctx l1 st (Ai (DX (nM M ctx l2) t) Q)->nM M ctx l st Q
 |s::r,l1,l2,t,h,st,Q,w=>by
  unfold E9 at h;cases c:JK s with
  |some t' =>
   rw[c]at h;injection h with h;injection h with o h;injection h with p x
   subst o;subst p;subst x;obtain⟨gW,dst,guard,args,op,z⟩:=s;unfold JK at c;split at c
   .rename_i f i j u;subst f;subst i;subst j;subst u;unfold IW at c;split at c
    .rename_i e;simp only at e;subst e;injection c with c;subst c
     obtain⟨g,first,cap,o,p⟩:=w;exact bM.intro (m:=aG) o ⟨hr,p⟩
    .cases c
   .cases c
  |none =>
   rw[c]at h;obtain⟨q,y,e⟩:=xk.1 h;injection e with f e;injection e with i j
   subst f;subst i;subst j;have w:qC M ctx s st (Ai (DX (nM M ctx q.2.2) q.2.1) Q) λ d=>nM M ctx q.1 d (Ai (DX (nM M ctx q.2.2) q.2.1) Q):=w;rw[Dj (Q:=Ai (DX (nM M ctx q.2.2) q.2.1) Q) (Q':=Q) (λ _ _=>rfl)]at w;exact q9u w (λ _ _ h=>h) λ d h=>xi3 hr y h
def T0(hr:ctx.round=none):∀{c x y:ai}{t:Nat},rG c=some (x,t,y) -> ∀{st:St}{Q:cB},WP M ctx x st (Ai (DX (WP M ctx y) t) Q)->WP M ctx c st Q
 | .region l,x,y,t,h,st,Q,w=>by
  unfold rG at h;obtain⟨q,i,e⟩:=xk.1 h;injection e with d e;injection e with f g
  subst d;subst f;subst g;exact xi3 hr i w
 | .seq a b,x,y,t,h,st,Q,w=>by
  unfold rG at h;cases ha:rG a with
  |some q =>
   rw[ha]at h;injection h with h;injection h with m h;injection h with o p
   subst m;subst o;subst p;refine T0 hr (c:=a) ha (pL w λ e j h=>?_);cases e with
   |normal=>exact h
   |_=>exact h
  |none =>
   rw[ha]at h;obtain⟨q,i,e⟩:=xk.1 h;injection e with d e;injection e with f g
   subst d;subst f;subst g;show WP M ctx a st (Ai (WP M ctx b) Q);refine pL (show WP M ctx a st (Ai (WP M ctx q.1) (Ai (DX (WP M ctx q.2.2) q.2.1) Q))from w) λ e j h=>?_;cases e with
   |normal=>exact T0 hr (c:=b) i h
   |_=>exact h
end
def Aj(M:ak)(ctx:Ctx)(p:Kp×ai)(t:Nat)(Q:aF):aF:=λ e E D H=>match e with
 | .normal=>LK true (lk E t) λ _ v=>∃g first cap,v=.fn (.func g) first cap/\W M ctx p true Q E (.fn (.func g) (first++cap)::D) H
 |e=>Q e E D H
def xb7{M:ak}{ctx:Ctx}{p:Kp×ai}{t:Nat}{Q:aF}{E:Env}{D:List aM}{H:ar}:Aj M ctx p t Q .normal E D H=LK true (lk E t) λ _ v=>∃g first cap,v=.fn (.func g) first cap/\W M ctx p true Q E (.fn (.func g) (first++cap)::D) H:=rfl
def xeb{M:ak}{ctx:Ctx}{p:Kp×ai}{t:Nat}{Q:aF}{E:Env}{D:List aM}{H:ar}:Aj M ctx p t Q .ret E D H=Q .ret E D H:=rfl
def MI{M:ak}{rs:List dX}{ks:List Nat}{Q:bG->ar->Prop}{up:Option aE}{e:aU}{st:St}(h:QQ ks (eY M rs Q) up e st):U3 M rs (λ e u H=>u=up/\Q e H) e st:=by
 obtain⟨f,g,j,d⟩:=h;obtain⟨tm,D,u,H'⟩:=st;have f:u=up:=f;subst f;have mono:∀{m:Option aE},my M rs g Q D m H'->xT M rs tm (λ e H=>u=u/\Q e H) D m H':=λ{m}h=>by
  have i:my M rs g (λ e H=>u=u/\Q e H) D m H':=by
   have e:(λ e H=>u=u/\Q e H)=Q:=by funext e H;simp
   rw[e];exact h
  exact my.RN j i
 cases e with
 |normal=>exact mono d
 |ret=>exact mono d
 |panic c=>exact mono d
 |exit _=>exact d.elim
 |goto _=>exact d.elim
def Ga{M:ak}{f:Nat}{fn:b9}(u:M.func f=some fn){p ky:Kp}(hk:p.ah=ky.ah){t:Nat}(s:rG fn.body=some (xW fn.body,t,vP fn.body)){vs:List AV}(r:jJ 0 vs.length p.ah=true){H:ar}{Q:bG->ar->Prop}
 (h:W M ⟨none,f⟩ (p,part (xW fn.body) 0) true (Aj M ⟨none,f⟩ (ky,part (vP fn.body) 0) t (eY M fn.results Q)) (jO 0 vs) [] H):ET M f vs H Q:=by
 rw[kS,QZ]at h;refine q6g u (T0 rfl s (pL (W3.wp (eR (xW fn.body)) _ (qg _) (up:=none) h (TA r)) λ e st h=>?_));cases e with
 |normal =>
  obtain⟨d,i,j,l⟩:=h;obtain⟨tm,D,up,H'⟩:=st;have d:up=none:=d;subst d;obtain⟨v,w,g,first,cap,rfl,q⟩:=LK.elim (m:=true) (o:=lk i t) (K:=λ _ v=>∃g first cap,v=.fn (.func g) first cap/\W M ⟨none,f⟩ (ky,part (vP fn.body) 0) true (eY M fn.results Q) i (.fn (.func g) (first++cap)::D) H') l;rw[kS,QZ]at q;exact⟨g,first,cap,(j t _ w).1,pL (W3.wp (eR (vP fn.body)) _ (qg _) (up:=none) q (hk▸j)) λ e st h=>MI h⟩
 |ret=>obtain⟨d,i,j,l⟩:=h;exact MI (M:=M) (e:=aU.ret) (rs:=fn.results) (ks:=p.ah) (Q:=Q) (up:=none) ⟨d,i,j,l⟩
 |panic c=>obtain⟨d,i,j,l⟩:=h;exact MI (M:=M) (e:=aU.panic c) (rs:=fn.results) (ks:=p.ah) (Q:=Q) (up:=none) ⟨d,i,j,l⟩
 |exit k=>obtain⟨d,i,j,l⟩:=h;exact MI (M:=M) (e:=aU.exit k) (rs:=fn.results) (ks:=p.ah) (Q:=Q) (up:=none) ⟨d,i,j,l⟩
 |goto k=>obtain⟨d,i,j,l⟩:=h;exact MI (M:=M) (e:=aU.goto k) (rs:=fn.results) (ks:=p.ah) (Q:=Q) (up:=none) ⟨d,i,j,l⟩
def GU{M:ak}{f:Nat}{fn:b9}(g:M.func f=some fn){ks:Kp}{vs:List AV}(hk:jJ 0 vs.length ks.ah=true){up:Option aE}{H:ar}{Q:bG->ar->Prop}
 (h:W M ⟨none,f⟩ (ks,part fn.body 0) true (eY M fn.results Q) (jO 0 vs) [] H):∃e H',i6 M f vs up H e up H'/\Q e H':=by
 rw[kS,QZ]at h;obtain⟨e,i,H',c,rfl,d⟩:=q2m g (pL (W3.wp (eR fn.body) fn.body (qg _) (up:=up) h (TA hk)) λ e st h=>MI h);exact⟨e,H',c,d⟩
abbrev WE(M:ak)(c:Ctx)(p:Kp×ai)(R:aF->Env->List aM->ar->Prop):Prop:=∀Q E D H,W M c p true Q E D H=R Q E D H
end Go.Am
