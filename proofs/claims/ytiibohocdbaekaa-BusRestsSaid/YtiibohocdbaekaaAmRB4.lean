/- B4: Logic Logic2 Val Sim Val2 Val3 Iter Logic3 Logic4 Logic5 Mono3 Sim3 Mem3. -/
import Derived.Test.YtiibohocdbaekaaAmRB2
import Derived.Test.YtiibohocdbaekaaAmRB1
set_option linter.unusedVariables false
set_option linter.unusedSimpArgs false
namespace Go.Am
def aB:Bool:=true
def bu {α:Type} (m:Bool) (o:Option α) (K:α->Prop):Prop:=match o with
 | some a=>K a
 | none=>False
def eV {α β:Type} (m:Bool) (o:Option (α × β)) (K:α -> β->Prop):Prop:=match o with
 | some a=>K a.1 a.2
 | none=>False
def C2 (m:Bool) (q:Bool) (A B:Prop):Prop:=match q with
 | true=>A
 | false=>B
@[congr] theorem Ed {α:Type} {m m':Bool} {o o':Option α} {K:α->Prop} (hm:m=m') (h:o=o'):bu m o K=bu m' o' K:=by rw [h,hm]
@[congr] theorem AQ {α β:Type} {m m':Bool} {o o':Option (α × β)} {K:α -> β->Prop} (hm:m=m') (h:o=o'):eV m o K=eV m' o' K:=by rw [h,hm]
@[congr] theorem FF {m m' q q':Bool} {A B:Prop} (hm:m=m') (h:q=q'):C2 m q A B=C2 m' q' A B:=by rw [h,hm]
theorem bu.elim {α:Type} {m:Bool} {o:Option α} {K:α->Prop} (h:bu m o K):∃ a,o=some a/\K a:=by
 cases o with
 | none=>exact False.elim h
 | some a=>exact ⟨a,rfl,h⟩
theorem eV.elim {α β:Type} {m:Bool} {o:Option (α × β)} {K:α -> β->Prop} (h:eV m o K):∃ a b,o=some (a,b)/\K a b:=by
 cases o with
 | none=>exact False.elim h
 | some a=>exact ⟨a.1,a.2,rfl,h⟩
theorem bu.intro {α:Type} {m:Bool} {o:Option α} {K:α->Prop} {a:α} (h:o=some a) (hk:K a):bu m o K:=by subst h;exact hk
theorem eV.intro {α β:Type} {m:Bool} {o:Option (α × β)} {K:α -> β->Prop} {a:α} {b:β} (h:o=some (a,b)) (hk:K a b):eV m o K:=by subst h;exact hk
theorem C2.cases {m:Bool} {q:Bool} {A B:Prop} (h1:q=true->A) (h2:q=false->B):C2 m q A B:=by
 cases q with
 | true=>exact h1 rfl
 | false=>exact h2 rfl
def asBool:AV->Option Bool
 | .bool q=>some q
 | _=>none
noncomputable section
structure aO where
 prog:fG
 told:bE
 mute:Nat->Bool
 ok:∀ f vs up H,mute f=false->told f vs up H=none
def aO.call (M:aO) (n:Nat):bE:=fL M.prog M.told n
def aO.func (M:aO) (f:Nat):Option aw:=cond (M.mute f) none (M.prog.func f)
def aO.lI (M:aO):Nat->String->Option Nat:=M.prog.lI
theorem aO.pV {M:aO} {f:Nat} {fn:aw} (h:M.func f=some fn):M.mute f=false/\M.prog.func f=some fn:=by
 unfold aO.func at h;cases hm:M.mute f with
 | true=>rw [hm] at h;cases h
 | false=>rw [hm] at h;exact ⟨rfl,h⟩
theorem aO.qH {M:aO} {f:Nat} (h:M.mute f=false) (n:Nat) (vs:List AV) (up:Option aC) (H:AHeap):M.call (n+1) f vs up H=yU M.prog (M.call n) n f vs up H:=by
 show (match M.told f vs up H with|some r=>some r|none=>yU M.prog (fL M.prog M.told n) n f vs up H)=_;rw [M.ok f vs up H h];rfl
variable (AP:aO)
def pF (n k:Nat) (ctx:Ctx):RT:=⟨AP.prog,AP.call n,rounds AP.prog (AP.call n) n k,n,ctx⟩
def nq (f:Nat) (vs:List AV) (up:Option aC) (H:AHeap) (e:bz) (up':Option aC) (H':AHeap):Prop:=∃ n0,∀ n,n0<=n->AP.call n f vs up H=some (e,up',H')
def iH (f:Nat) (vs:List AV) (H:AHeap) (e:bz) (H':AHeap):Prop:=nq AP f vs none H e none H'
def lR (l:Nat) (vs:List AV) (H:AHeap) (e:bz) (H':AHeap):Prop:=∃ n0,∀ n k,n0<=n->n0<=k->rounds AP.prog (AP.call n) n k vs l H=some (e,H')
def nQ:fj->List AV->AHeap->bz->AHeap->Prop
 | .func g=>iH AP g
 | .yield l=>lR AP l
def gW (m:Bool) (f:fj) (vs:List AV) (H:AHeap) (K:AV->AHeap->Prop) (E:aC->AHeap->Prop):Prop :=
 ∃ e H',nQ AP f vs H e H'/\match e with
  | .ret v=>K v H'
  | .panic c=>E c H'
@[congr] theorem AG {AP:aO} {m m':Bool} {f:fj} {vs vs':List AV} {H:AHeap} {K:AV->AHeap->Prop} {E:aC->AHeap->Prop} (hm:m=m') (h:vs=vs'):gW AP m f vs H K E=gW AP m' f vs' H K E:=by rw [h,hm]
def Du (m:Bool) (vs:List AV) (K:fj->List AV->Prop):Prop:=match vs with
 | .fn (.func g) first cap::args=>K (.func g) (first++(args++cap))
 | .fn (.yield l) first []::args=>K (.yield l) (first++args)
 | _=>False
@[congr] theorem FP {m m':Bool} {vs vs':List AV} {K:fj->List AV->Prop} (hm:m=m') (h:vs=vs'):Du m vs K=Du m' vs' K:=by rw [h,hm]
def EL (m:Bool) (name:String) (vs:List AV) (K:fj->List AV->Prop):Prop:=match vs with
 | .iface t v::args=>bu aB (AP.lI t name) λ g=>K (.func g) (v::args)
 | _=>False
@[congr] theorem Gi {AP:aO} {m m':Bool} {name:String} {vs vs':List AV} {K:fj->List AV->Prop} (hm:m=m') (h:vs=vs'):EL AP m name vs K=EL AP m' name vs' K:=by rw [h,hm]
def kC (tm:T AV):List bD->(List AV->Prop)->Prop
 | [],K=>K []
 | .tmp t::xs,K=>bu aB (tm.get t) λ v=>kC tm xs λ vs=>K (v::vs)
 | .const v::xs,K=>kC tm xs λ vs=>K (v::vs)
 | .c8 g::xs,K=>kC tm xs λ vs=>K (.ptr g 0::vs)
 | .func f::xs,K=>kC tm xs λ vs=>K (.fn (.func f) [] []::vs)
theorem kC.elim {tm:T AV}:∀ {l:List bD} {K:List AV->Prop},kC tm l K -> ∃ vs,gR tm l=some vs/\K vs
 | [],K,h=>⟨[],rfl,h⟩
 | .tmp t::xs,K,h=>by
  obtain ⟨v,hv,h⟩:=bu.elim (m:=aB) h;obtain ⟨vs,h1,h2⟩:=kC.elim h;exact ⟨v::vs,by simp [gR,lg,hv,h1],h2⟩
 | .const v::xs,K,h=>by
  obtain ⟨vs,h1,h2⟩:=kC.elim (l:=xs) h;exact ⟨v::vs,by simp [gR,lg,h1],h2⟩
 | .c8 v::xs,K,h=>by
  obtain ⟨vs,h1,h2⟩:=kC.elim (l:=xs) h;exact ⟨_,by simp [gR,lg,h1],h2⟩
 | .func v::xs,K,h=>by
  obtain ⟨vs,h1,h2⟩:=kC.elim (l:=xs) h;exact ⟨_,by simp [gR,lg,h1],h2⟩
def wQ (tm:T AV) (x:bD) (K:AV->Prop):Prop:=match x with
 | .tmp t=>bu aB (tm.get t) K
 | .const v=>K v
 | .c8 g=>K (.ptr g 0)
 | .func f=>K (.fn (.func f) [] [])
theorem wQ.elim {tm:T AV} {x:bD} {K:AV->Prop} (h:wQ tm x K):∃ v,lg tm x=some v/\K v:=by
 cases x with
 | tmp t=>exact bu.elim (m:=aB) h
 | const v=>exact ⟨v,rfl,h⟩
 | c8 v=>exact ⟨_,rfl,h⟩
 | func v=>exact ⟨_,rfl,h⟩
abbrev bX:=aF->St->Prop
def wE (ps:Option (List Nat)) (tm:T AV) (aT:List aL) (up:Option aC) (Q:bX) (c:aC) (H:AHeap):Prop:=match ps with
 | some ds=>Q (.panic c) ⟨forget ds tm,aT,up,H⟩
 | none=>False
def nJ (m:Bool) (ctx:Ctx) (up:Option aC) (K:AV->Option aC->Prop):Prop:=ctx.round=none/\match up with
 | some ((v,false)::older)=>K v (some ((v,true)::older))
 | _=>K .nili up
@[congr] theorem Bv {m m':Bool} {ctx:Ctx} {up up':Option aC} {K:AV->Option aC->Prop} (hm:m=m') (h:up=up'):nJ m ctx up K=nJ m' ctx up' K:=by rw [h,hm]
def sX (m:Bool) (ctx:Ctx) (vs:List AV) (aT:List aL) (K:List aL->Prop):Prop:=ctx.round=none/\match vs with
 | .fn (.func f) first cap::args=>K (.fn (.func f) (first++(args++cap))::aT)
 | _=>False
@[congr] theorem Dy {m m':Bool} {ctx:Ctx} {vs vs':List AV} {aT:List aL} {K:List aL->Prop} (hm:m=m') (h:vs=vs'):sX m ctx vs aT K=sX m' ctx vs' aT K:=by rw [h,hm]
def dW (vs:List AV) (H:AHeap) (E:aC->AHeap->Prop):Prop:=match vs with
 | [.iface t v]=>E [(.iface t v,false)] H
 | _=>False
@[congr] theorem yW {vs vs':List AV} {H:AHeap} {E:aC->AHeap->Prop} (h:vs=vs'):dW vs H E=dW vs' H E:=by rw [h]
def kA (ctx:Ctx) (dst:Option Nat) (ps:Option (List Nat)) (st:St) (Q:bX) (K:St->Prop) (vs:List AV):dL->Prop
 | .pure f=>bu aB (f vs) λ v=>K ⟨cV dst v st.tm,st.aT,st.up,st.H⟩
 | .read f=>bu aB (f vs st.H) λ v=>K ⟨cV dst v st.tm,st.aT,st.up,st.H⟩
 | .alloc f=>eV aB (f vs) λ o mk=>K ⟨cV dst (mk st.H.next) st.tm,st.aT,st.up,st.H.alloc o⟩
 | .eF f=>eV aB (f vs st.H) λ v H=>K ⟨cV dst v st.tm,st.aT,st.up,H⟩
 | .eM g=>gW AP aB (.func g) vs st.H (λ v H=>K ⟨cV dst v st.tm,st.aT,st.up,H⟩) (wE ps st.tm st.aT st.up Q)
 | .eL=>Du aB vs λ f vs=>gW AP aB f vs st.H (λ v H=>K ⟨cV dst v st.tm,st.aT,st.up,H⟩) (wE ps st.tm st.aT st.up Q)
 | .invoke name=>EL AP aB name vs λ f vs=>gW AP aB f vs st.H (λ v H=>K ⟨cV dst v st.tm,st.aT,st.up,H⟩) (wE ps st.tm st.aT st.up Q)
 | .recover=>match vs with
  | []=>nJ aB ctx st.up λ v up=>K ⟨cV dst v st.tm,st.aT,up,st.H⟩
  | _=>False
 | .defer=>sX aB ctx vs st.aT λ aT=>K ⟨cV dst .undef st.tm,aT,st.up,st.H⟩
 | .panic=>dW vs st.H (wE ps st.tm st.aT st.up Q)
def G7 (dst:Option Nat) (st:St) (vs:List AV):dL->Prop
 | .read f=>match dst with
  | some d=>bu aB (f vs st.H) λ v=>bu aB (st.tm.get d) λ v'=>v=v'
  | none=>False
 | _=>False
def oK (ctx:Ctx) (s:aV) (st:St) (Q:bX) (K:St->Prop):Prop :=
 match s.eN with
 | false=>match s.guard with
  | none=>kC st.tm s.args λ vs=>kA AP ctx s.dst s.bR st Q K vs s.op
  | some g=>bu aB (aE g.2 (st.tm.get g.1)) λ w=>C2 aB w (kC st.tm s.args λ vs=>kA AP ctx s.dst s.bR st Q K vs s.op) (K ⟨cV s.dst .undef st.tm,st.aT,st.up,st.H⟩)
 | true=>match s.guard with
  | none=>kC st.tm s.args λ vs=>G7 s.dst st vs s.op/\K st
  | some g=>bu aB (aE g.2 (st.tm.get g.1)) λ w=>C2 aB w (kC st.tm s.args λ vs=>G7 s.dst st vs s.op/\K st) (s.dst.isSome=true/\K st)
def lH (ctx:Ctx):List aV->St->bX->Prop
 | [],st,Q=>Q .normal st
 | s::rest,st,Q=>oK AP ctx s st Q λ st'=>lH ctx rest st' Q
def ND (W:St->bX->Prop) (Q:bX):bX:=λ e st=>match e with
 | .normal=>W st Q
 | e=>Q e st
def BLK (id:Nat) (Q:bX):bX:=λ e st=>match e with
 | .exit id'=>Q (cond (Nat.beq id id') .normal (.exit id')) st
 | e=>Q e st
def SCP (b:ah) (Q:bX):bX:=λ e st=>match e with
 | .goto l=>wD b l=false/\Q (.goto l) st
 | e=>Q e st
def fX (ae:Option (List Nat)) (st:St):St:=match ae with
 | none=>st
 | some ks=>{ st with tm:=KP st.tm ks .nil }
def Ct (W:St->bX->Prop) (ae:Option (List Nat)) (st:St) (Q:bX):Prop :=
 ∃ I:Nat->St->Prop,(∃ n,I n st) /\ ∀ n st,I n st->W (fX ae st) λ e st'=>match e with
  | .normal=>∃ m,m<n/\I m st'
  | e=>Q e st'
def Lh (st:St) (aT:List aL) (l:Nat) (Q:bX) (e:bz) (H:AHeap):Prop:=match e with
 | .panic c=>Q (.panic c) { st with aT:=aT,H:=H }
 | .ret _=>∃ s p f k tm d,H.get l=some (.loop s p f k tm d)/\s ≠ .busy/\Q (kF p) { st with aT:=aT,H:=H.set l (.loop .exhausted p f k tm d) }
def ig (ctx:Ctx) (st:St) (k:Nat) (H0:AHeap) (aT:List aL) (d:Nat) (Q:bX):AV->Prop
 | .fn (.func g) first cap=>∃ e H',iH AP g (first++(.fn (.yield H0.next) [] []::cap)) (H0.alloc (.loop .ready none ctx.fn k st.tm d)) e H'/\Lh st aT H0.next Q e H'
 | _=>False
def Bl (ctx:Ctx) (k:Nat) (st:St) (Q:bX) (v:AV):Prop:=match ctx.round with
 | none=>ig AP ctx st k (st.H.alloc (.deferred (some []))) (.fm st.H.next::st.aT) st.H.next Q v
 | some l=>bu aB (uv st.H l) λ d=>ig AP ctx st k st.H st.aT d Q v
def WP (ctx:Ctx):ah->St->bX->Prop
 | .skip,st,Q=>Q .normal st
 | .label _,st,Q=>Q .normal st
 | .region steps,st,Q=>lH AP ctx steps st Q
 | .seq a b,st,Q=>WP ctx a st (ND (WP ctx b) Q)
 | .cond c a b,st,Q=>wQ st.tm c λ v=>bu aB (asBool v) λ q=>C2 aB q (WP ctx a st Q) (WP ctx b st Q)
 | .block id b,st,Q=>WP ctx b st (BLK id Q)
 | .loop ae b,st,Q=>Ct (WP ctx b) ae st Q
 | .exit id,st,Q=>Q (.exit id) st
 | .goto l,st,Q=>Q (.goto l) st
 | .ret,st,Q=>Q .ret st
 | .stuck,_,_=>False
 | .scope b,st,Q=>WP ctx b st (SCP b Q)
 | .rangeFunc f k,st,Q=>wQ st.tm f λ v=>Bl AP ctx k st Q v
section
variable (ctx:Ctx) (st:St) (Q:bX)
theorem Kt (s:aV) (l:List aV):lH AP ctx (s::l) st Q=oK AP ctx s st Q λ st'=>lH AP ctx l st' Q:=propext j5
end
def EX (ctx:Ctx) (c:ah) (st:St) (r:aF × St):Prop:=∃ n0,∀ n k,n0<=n->n0<=k->(bl c).run (pF AP n k ctx) st=some r
def EXS (ctx:Ctx) (l:List aV) (st:St) (r:aF × St):Prop:=∃ n0,∀ n k,n0<=n->n0<=k->(dU l).run (pF AP n k ctx) st=some r
theorem nQ.run {AP:aO} {f:fj} {vs:List AV} {H:AHeap} {e:bz} {H':AHeap} (h:nQ AP f vs H e H') :
 ∃ n0,∀ n k,n0<=n->n0<=k->bV (AP.call n) (rounds AP.prog (AP.call n) n k) f vs H=some (e,H'):=by
 cases f with
 | func g=>obtain ⟨n0,h⟩:=h;exact ⟨n0,λ n k hn _=>by simp [bV,h n hn]⟩
 | yield l=>obtain ⟨n0,h⟩:=h;exact ⟨n0,λ n k hn hk=>by simp [bV,h n k hn hk]⟩
theorem qxv:(∀ v,bM v v=true)/\(∀ l,db l l=true):=by
 have e1:∀ n,Nat.beq n n=true:=λ n=>by simp
 have e2:∀ k,oa k k=true:=λ k=>by cases k<;>rfl
 have e3:∀ i,pC i i=true:=λ i=>by rw [Aa];simp
 have e4:∀ s,rj s s=true:=λ s=>by rw [FB];simp
 refine ⟨λ v=>?_,λ l=>?_⟩
 ·refine AV.rec (motive_1:=λ v=>bM v v=true) (motive_2:=λ l=>db l l=true) ?_ ?_ ?_ ?_ ?_ ?_ ?_ ?_ ?_ ?_ ?_ ?_ ?_ ?_ ?_ ?_ ?_ ?_ ?_ v
  all_goals (intros;first|rfl|(simp only [bM,db,e1,e2,e3,e4,jc,beq_self_eq_true, *];done) | (rename_i f _ _ _ _;cases f<;>simp only [bM,db,e1,jc, *]))
 ·refine AV.rec_1 (motive_1:=λ v=>bM v v=true) (motive_2:=λ l=>db l l=true) ?_ ?_ ?_ ?_ ?_ ?_ ?_ ?_ ?_ ?_ ?_ ?_ ?_ ?_ ?_ ?_ ?_ ?_ ?_ l
  all_goals (intros;first|rfl|(simp only [bM,db,e1,e2,e3,e4,jc,beq_self_eq_true, *];done) | (rename_i f _ _ _ _;cases f<;>simp only [bM,db,e1,jc, *]))
theorem q7a (v:AV):bM v v=true:=qxv.1 v
theorem G7.run {d:Option Nat} {st:St} {vs:List AV} {op:dL} (h:G7 d st vs op):∃ t,d=some t/\kS (T.iW (T.path t)).run st vs op=true:=by
 cases op with
 | read f =>
  cases d with
  | none=>exact False.elim h
  | some t =>
   refine ⟨t,rfl,?_⟩;obtain ⟨v,h1,h⟩:=bu.elim (m:=aB) h;obtain ⟨v',h2,h⟩:=bu.elim (m:=aB) h;subst h;have h2':(T.iW (T.path t)).run st.tm=some v:=by rw [T.fE];exact h2
   simp [kS,h1,h2',q7a]
 | _=>exact False.elim h
theorem kA.run {AP:aO} {ctx:Ctx} {dst:Option Nat} {ps:Option (List Nat)} {st:St} {Q:bX} {K:St->Prop} {vs:List AV} {op:dL} (h:kA AP ctx dst ps st Q K vs op)
 {kk:Nat->Nat->St->dQ} (hK:∀ st,K st -> ∃ e st',Q e st' /\ ∃ n0,∀ n k,n0<=n->n0<=k->kk n k st=some (e,st')) :
 ∃ e st',Q e st' /\ ∃ n0,∀ n k,n0<=n->n0<=k->(kJ (gj dst).run ps op).run (pF AP n k ctx) st (kk n k) vs=some (e,st'):=by
 have hp:∀ v tm,(gj dst).run v tm=cV dst v tm:=Lp dst;have call:∀ {f vs},gW AP aB f vs st.H (λ v H=>K ⟨cV dst v st.tm,st.aT,st.up,H⟩) (wE ps st.tm st.aT st.up Q) ->
  ∃ e st',Q e st' /\ ∃ n0,∀ n k,n0<=n->n0<=k->((bV (AP.call n) (rounds AP.prog (AP.call n) n k) f vs st.H).bind λ r=>dv (gj dst).run ps st (kk n k) r)=some (e,st'):=by
  rintro f vs ⟨e,H',h1,h⟩;obtain ⟨n0,h1⟩:=h1.run;cases e with
  | ret v =>
   obtain ⟨e,st',hq,n1,h2⟩:=hK _ h;refine ⟨e,st',hq,max n0 n1,λ n k hn hk=>?_⟩;rw [h1 n k (by omega) (by omega)]
   simpa [dv,hp] using h2 n k (by omega) (by omega)
  | panic c =>
   cases ps with
   | none=>exact False.elim h
   | some ds =>
    refine ⟨_,_,h,n0,λ n k hn hk=>?_⟩;rw [h1 n k (by omega) (by omega)];simp [dv]
 cases op with
 | pure f =>
  obtain ⟨v,h1,h⟩:=bu.elim (m:=aB) h;obtain ⟨e,st',hq,n1,h2⟩:=hK _ h;exact ⟨e,st',hq,n1,λ n k hn hk=>by simp [kJ,sC,h1,hp,h2 n k hn hk]⟩
 | read f =>
  obtain ⟨v,h1,h⟩:=bu.elim (m:=aB) h;obtain ⟨e,st',hq,n1,h2⟩:=hK _ h;exact ⟨e,st',hq,n1,λ n k hn hk=>by simp [kJ,sY,h1,hp,h2 n k hn hk]⟩
 | alloc f =>
  simp only [kA] at h;obtain ⟨o,mk,h1,h⟩:=eV.elim (m:=aB) h;obtain ⟨e,st',hq,n1,h2⟩:=hK _ h;exact ⟨e,st',hq,n1,λ n k hn hk=>by simp [kJ,pc,h1,hp,h2 n k hn hk]⟩
 | eF f =>
  simp only [kA] at h;obtain ⟨o,mk,h1,h⟩:=eV.elim (m:=aB) h;obtain ⟨e,st',hq,n1,h2⟩:=hK _ h;exact ⟨e,st',hq,n1,λ n k hn hk=>by simp [kJ,Dh,h1,hp,h2 n k hn hk]⟩
 | eM f=>exact call h
 | eL =>
  simp only [kA,Du] at h;split at h
  ·exact call h
  ·exact call h
  ·exact False.elim h
 | invoke name =>
  simp only [kA,EL] at h;split at h
  ·obtain ⟨g,hg,h⟩:=bu.elim (m:=aB) h;obtain ⟨e,st',hq,n1,h2⟩:=call h;exact ⟨e,st',hq,n1,λ n k hn hk=>by simpa [kJ,mL,pF,(show AP.prog.lI _ name=some g from hg)] using h2 n k hn hk⟩
  ·exact False.elim h
 | recover =>
  simp only [kA] at h;split at h
  ·obtain ⟨hr,h⟩:=h;split at h
   ·rename_i v older hup;obtain ⟨e,st',hq,n1,h2⟩:=hK _ h;exact ⟨e,st',hq,n1,λ n k hn hk=>by simpa [kJ,Jp,pF,hr,Hu,hup,hp] using h2 n k hn hk⟩
   ·rename_i hup;obtain ⟨e,st',hq,n1,h2⟩:=hK _ h;refine ⟨e,st',hq,n1,λ n k hn hk=>?_⟩;have:Hu (gj dst).run st=⟨cV dst .nili st.tm,st.aT,st.up,st.H⟩:=by
     unfold Hu;split
     ·rename_i v older hu;exact (hup _ _ hu).elim
     ·rw [hp]
    simpa [kJ,Jp,pF,hr,this] using h2 n k hn hk
  ·exact False.elim h
 | defer =>
  obtain ⟨hr,h⟩:=h;split at h
  ·obtain ⟨e,st',hq,n1,h2⟩:=hK _ h;exact ⟨e,st',hq,n1,λ n k hn hk=>by simpa [kJ,oT,pF,hr,hp] using h2 n k hn hk⟩
  ·exact False.elim h
 | panic =>
  simp only [kA,dW] at h;split at h
  ·cases ps with
   | none=>exact False.elim h
   | some ds=>exact ⟨_,_,h,0,λ n k hn hk=>by simp [kJ,oA,dv]⟩
  ·exact False.elim h
theorem oK.run {AP:aO} {ctx:Ctx} {s:aV} {st:St} {Q:bX} {K:St->Prop} (h:oK AP ctx s st Q K)
 {kk:Nat->Nat->St->dQ} (hK:∀ st,K st -> ∃ e st',Q e st' /\ ∃ n0,∀ n k,n0<=n->n0<=k->kk n k st=some (e,st')) :
 ∃ e st',Q e st' /\ ∃ n0,∀ n k,n0<=n->n0<=k->(dR s).run (pF AP n k ctx) (kk n k) st=some (e,st'):=by
 obtain ⟨eN,dst,guard,args,op,ps⟩:=s;have hp:∀ v tm,(gj dst).run v tm=cV dst v tm:=Lp dst;have hc:∀ g,(T.iW (T.path g)).run st.tm=st.tm.get g:=λ g=>by rw [T.fE];rfl
 cases eN with
 | false =>
  cases guard with
  | none =>
   obtain ⟨vs,h1,h⟩:=kC.elim h;obtain ⟨e,st',hq,n0,h2⟩:=h.run hK;exact ⟨e,st',hq,n0,λ n k hn hk=>by simpa [dR,zR,h1] using h2 n k hn hk⟩
  | some g =>
   obtain ⟨w,hw,h⟩:=bu.elim (m:=aB) h;cases w with
   | true =>
    obtain ⟨vs,h1,h⟩:=kC.elim h;obtain ⟨e,st',hq,n0,h2⟩:=h.run hK;exact ⟨e,st',hq,n0,λ n k hn hk=>by simpa [dR,hc,hw,zR,h1] using h2 n k hn hk⟩
   | false =>
    obtain ⟨e,st',hq,n0,h2⟩:=hK _ h;exact ⟨e,st',hq,n0,λ n k hn hk=>by simpa [dR,hc,hw,hp] using h2 n k hn hk⟩
 | true =>
  cases guard with
  | none =>
   obtain ⟨vs,h1,hk,h'⟩:=kC.elim h;obtain ⟨t,rfl,hk⟩:=hk.run;obtain ⟨e,st',hq,n0,h2⟩:=hK _ h';exact ⟨e,st',hq,n0,λ n k hn hkk=>by simpa [dR,zR,h1,hk] using h2 n k hn hkk⟩
  | some g =>
   obtain ⟨w,hw,h⟩:=bu.elim (m:=aB) h;cases w with
   | true =>
    obtain ⟨vs,h1,hk,h'⟩:=kC.elim h;obtain ⟨t,rfl,hk⟩:=hk.run;obtain ⟨e,st',hq,n0,h2⟩:=hK _ h';exact ⟨e,st',hq,n0,λ n k hn hkk=>by simpa [dR,hc,hw,zR,h1,hk] using h2 n k hn hkk⟩
   | false =>
    obtain ⟨hd,h⟩:=h;obtain ⟨e,st',hq,n0,h2⟩:=hK _ h;cases dst with
    | none=>cases hd
    | some d=>exact ⟨e,st',hq,n0,λ n k hn hkk=>by simpa [dR,hc,hw] using h2 n k hn hkk⟩
theorem lH.run {AP:aO} {ctx:Ctx}:∀ {l:List aV} {st:St} {Q:bX},lH AP ctx l st Q -> ∃ e st',Q e st'/\EXS AP ctx l st (e,st')
 | [],st,Q,h=>⟨_,_,h,0,λ _ _ _ _=>rfl⟩
 | s::rest,st,Q,h=>by
  obtain ⟨e,st',hq,n0,h⟩:=oK.run (kk:=λ n k=>(dU rest).run (pF AP n k ctx)) h λ st' hs=>lH.run hs;exact ⟨e,st',hq,n0,h⟩
theorem uw {AP:aO} {ctx:Ctx} {ae:Option (List Nat)} {b:ah} {Q:bX} {I:Nat->St->Prop}
 (hb:∀ n st,I n st -> ∃ e st',(match e with | .normal=>∃ m,m<n/\I m st'|e=>Q e st')/\EX AP ctx b (fX ae st) (e,st')) :
 ∀ m n,n<=m -> ∀ st,I n st -> ∃ e st',Q e st' /\ ∃ n0 c,∀ n k,n0<=n->n0<=k -> ∀ c',c<=c'->dO ae ((bl b).run (pF AP n k ctx)) c' st=some (e,st'):=by
 intro m
 induction m with
 | zero =>
  intro n hn st hi;obtain ⟨e,st',h,n0,hx⟩:=hb n st hi;cases e with
  | normal=>obtain ⟨j,hj,_⟩:=h;omega
  | exit id=>exact ⟨_,_,h,n0,1,λ n k hn hk c' hc=>by obtain ⟨c,rfl⟩:∃ c,c'=c+1:=⟨c'-1,by omega⟩;have:=hx n k hn hk;cases ae<;>simp [dO,fX] at this ⊢<;>simp [this]⟩
  | goto l=>exact ⟨_,_,h,n0,1,λ n k hn hk c' hc=>by obtain ⟨c,rfl⟩:∃ c,c'=c+1:=⟨c'-1,by omega⟩;have:=hx n k hn hk;cases ae<;>simp [dO,fX] at this ⊢<;>simp [this]⟩
  | ret=>exact ⟨_,_,h,n0,1,λ n k hn hk c' hc=>by obtain ⟨c,rfl⟩:∃ c,c'=c+1:=⟨c'-1,by omega⟩;have:=hx n k hn hk;cases ae<;>simp [dO,fX] at this ⊢<;>simp [this]⟩
  | panic p=>exact ⟨_,_,h,n0,1,λ n k hn hk c' hc=>by obtain ⟨c,rfl⟩:∃ c,c'=c+1:=⟨c'-1,by omega⟩;have:=hx n k hn hk;cases ae<;>simp [dO,fX] at this ⊢<;>simp [this]⟩
 | succ m ih =>
  intro n hn st hi;obtain ⟨e,st',h,n0,hx⟩:=hb n st hi;cases e with
  | normal =>
   obtain ⟨j,hj,hi'⟩:=h;obtain ⟨e,st2,hq,n1,c,h2⟩:=ih j (by omega) st' hi';refine ⟨e,st2,hq,max n0 n1,c+1,λ n k hn hk c' hc=>?_⟩;obtain ⟨c'',rfl⟩:∃ c,c'=c+1:=⟨c'-1,by omega⟩
   have:=hx n k (by omega) (by omega);have h3:=h2 n k (by omega) (by omega) c'' (by omega);cases ae<;>simp [dO,fX] at this ⊢<;>simp [this,h3]
  | exit id=>exact ⟨_,_,h,n0,1,λ n k hn hk c' hc=>by obtain ⟨c,rfl⟩:∃ c,c'=c+1:=⟨c'-1,by omega⟩;have:=hx n k hn hk;cases ae<;>simp [dO,fX] at this ⊢<;>simp [this]⟩
  | goto l=>exact ⟨_,_,h,n0,1,λ n k hn hk c' hc=>by obtain ⟨c,rfl⟩:∃ c,c'=c+1:=⟨c'-1,by omega⟩;have:=hx n k hn hk;cases ae<;>simp [dO,fX] at this ⊢<;>simp [this]⟩
  | ret=>exact ⟨_,_,h,n0,1,λ n k hn hk c' hc=>by obtain ⟨c,rfl⟩:∃ c,c'=c+1:=⟨c'-1,by omega⟩;have:=hx n k hn hk;cases ae<;>simp [dO,fX] at this ⊢<;>simp [this]⟩
  | panic p=>exact ⟨_,_,h,n0,1,λ n k hn hk c' hc=>by obtain ⟨c,rfl⟩:∃ c,c'=c+1:=⟨c'-1,by omega⟩;have:=hx n k hn hk;cases ae<;>simp [dO,fX] at this ⊢<;>simp [this]⟩
theorem ig.run {AP:aO} {ctx:Ctx} {st:St} {k0:Nat} {H0:AHeap} {aT:List aL} {d:Nat} {Q:bX} {v:AV} (h:ig AP ctx st k0 H0 aT d Q v) :
 ∃ e st',Q e st' /\ ∃ n0,∀ n k,n0<=n->n0<=k->fk (AP.call n) (rounds AP.prog (AP.call n) n k) ctx st k0 H0 aT d v=some (e,st'):=by
 unfold ig at h;split at h
 ·obtain ⟨e,H',⟨n0,hc⟩,h⟩:=h;cases e with
  | panic c=>exact ⟨_,_,h,n0,λ n k hn hk=>by simp [fk,bV,hc n hn,Fy]⟩
  | ret v =>
   obtain ⟨s,p,f,k,tm,d,hg,hs,h⟩:=h;refine ⟨_,_,h,n0,λ n k hn hk=>?_⟩;simp only [fk,bV,hc n hn,Fy,qi,hg]
 ·exact False.elim h
theorem WP.run {AP:aO} {ctx:Ctx}:∀ {c:ah} {st:St} {Q:bX},WP AP ctx c st Q -> ∃ e st',Q e st'/\EX AP ctx c st (e,st')
 | .skip,st,Q,h=>⟨_,_,h,0,λ _ _ _ _=>rfl⟩
 | .label _,st,Q,h=>⟨_,_,h,0,λ _ _ _ _=>rfl⟩
 | .exit _,st,Q,h=>⟨_,_,h,0,λ _ _ _ _=>rfl⟩
 | .goto _,st,Q,h=>⟨_,_,h,0,λ _ _ _ _=>rfl⟩
 | .ret,st,Q,h=>⟨_,_,h,0,λ _ _ _ _=>rfl⟩
 | .stuck,st,Q,h=>False.elim h
 | .region steps,st,Q,h=>lH.run h
 | .seq a b,st,Q,h=>by
  obtain ⟨e,b9,h1,n0,hx⟩:=WP.run (c:=a) h;cases e with
  | normal =>
   obtain ⟨e,st2,hq,n1,hy⟩:=WP.run (c:=b) h1;exact ⟨e,st2,hq,max n0 n1,λ n k hn hk=>by simp [bl,hx n k (by omega) (by omega),nG,hy n k (by omega) (by omega)]⟩
  | exit id=>exact ⟨_,_,h1,n0,λ n k hn hk=>by simp [bl,hx n k hn hk,nG]⟩
  | goto id=>exact ⟨_,_,h1,n0,λ n k hn hk=>by simp [bl,hx n k hn hk,nG]⟩
  | ret=>exact ⟨_,_,h1,n0,λ n k hn hk=>by simp [bl,hx n k hn hk,nG]⟩
  | panic p=>exact ⟨_,_,h1,n0,λ n k hn hk=>by simp [bl,hx n k hn hk,nG]⟩
 | .cond c a b,st,Q,h=>by
  obtain ⟨v,hv,h⟩:=wQ.elim h;obtain ⟨q,hq,h⟩:=bu.elim (m:=aB) h;have hv':v=.bool q:=by
   unfold asBool at hq;split at hq
   ·injection hq with hq;rw [hq]
   ·cases hq
  subst hv';cases q with
  | true =>
   obtain ⟨e,b9,h1,n0,hx⟩:=WP.run (c:=a) h;exact ⟨e,b9,h1,n0,λ n k hn hk=>by simp [bl,BJ,hv,nF,hx n k hn hk]⟩
  | false =>
   obtain ⟨e,b9,h1,n0,hx⟩:=WP.run (c:=b) h;exact ⟨e,b9,h1,n0,λ n k hn hk=>by simp [bl,BJ,hv,nF,hx n k hn hk]⟩
 | .block id b,st,Q,h=>by
  obtain ⟨e,b9,h1,n0,hx⟩:=WP.run (c:=b) h;cases e with
  | exit id'=>exact ⟨_,_,h1,n0,λ n k hn hk=>by simp [bl,hx n k hn hk,fK]⟩
  | normal=>exact ⟨_,_,h1,n0,λ n k hn hk=>by simp [bl,hx n k hn hk,fK]⟩
  | goto id=>exact ⟨_,_,h1,n0,λ n k hn hk=>by simp [bl,hx n k hn hk,fK]⟩
  | ret=>exact ⟨_,_,h1,n0,λ n k hn hk=>by simp [bl,hx n k hn hk,fK]⟩
  | panic p=>exact ⟨_,_,h1,n0,λ n k hn hk=>by simp [bl,hx n k hn hk,fK]⟩
 | .scope b,st,Q,h=>by
  obtain ⟨e,b9,h1,n0,hx⟩:=WP.run (c:=b) h;cases e with
  | exit id'=>exact ⟨_,_,h1,n0,λ n k hn hk=>by simp [bl,hx n k hn hk,gE]⟩
  | normal=>exact ⟨_,_,h1,n0,λ n k hn hk=>by simp [bl,hx n k hn hk,gE]⟩
  | goto id=>exact ⟨_,_,h1.2,n0,λ n k hn hk=>by simp [bl,hx n k hn hk,gE,h1.1]⟩
  | ret=>exact ⟨_,_,h1,n0,λ n k hn hk=>by simp [bl,hx n k hn hk,gE]⟩
  | panic p=>exact ⟨_,_,h1,n0,λ n k hn hk=>by simp [bl,hx n k hn hk,gE]⟩
 | .loop ae b,st,Q,⟨I,⟨n,hi⟩,h⟩=>by
  obtain ⟨e,st',hq,n0,c,hx⟩:=uw (AP:=AP) (ctx:=ctx) (ae:=ae) (b:=b) (Q:=Q) (I:=I) (λ n st hi=>by
   obtain ⟨e,st',h1,h2⟩:=WP.run (c:=b) (h n st hi);exact ⟨e,st',h1,h2⟩) n n (qg n) st hi
  exact ⟨e,st',hq,max n0 c,λ n k hn hk=>hx n k (by omega) (by omega) n (by omega)⟩
 | .rangeFunc f k0,st,Q,h=>by
  obtain ⟨v,hv,h⟩:=wQ.elim h;unfold Bl at h;cases hr:ctx.round with
  | none =>
   rw [hr] at h;obtain ⟨e,st',hq,n0,hx⟩:=ig.run h;exact ⟨e,st',hq,n0,λ n k hn hk=>by simpa [bl,BJ,hv,kN,pF,hr] using hx n k hn hk⟩
  | some l =>
   rw [hr] at h;obtain ⟨d,hd,h⟩:=bu.elim (m:=aB) h;obtain ⟨e,st',hq,n0,hx⟩:=ig.run h;exact ⟨e,st',hq,n0,λ n k hn hk=>by simpa [bl,BJ,hv,kN,pF,hr,hd] using hx n k hn hk⟩
def rf (AP:aO) (rs:List cU) (tm:T AV) (Q:bz->AHeap->Prop):List aL->Option aC->AHeap->Prop
 | [],none,H=>bu aB (cL H tm rs) λ l=>Q (.ret (dg l)) H
 | [],some c,H=>Q (.panic c) H
 | .fm b::ds,m,H=>H.get b=some (.deferred (some []))/\rf AP rs tm Q ds m (H.set b (.deferred none))
 | .fn (.func f) args::ds,m,H=>∃ v up' H',nq AP f args (some (m.getD [])) H (.ret v) (some up') H'/\bu aB (iJ m up') λ m'=>rf AP rs tm Q ds m' H'
 | .fn (.yield _) _::_,_,_=>False
theorem rf.run {AP:aO} {rs:List cU} {tm:T AV} {Q:bz->AHeap->Prop}:∀ {ds:List aL} {m:Option aC} {H:AHeap},rf AP rs tm Q ds m H ->
 ∃ e H',Q e H' /\ ∃ n0,∀ n,n0<=n->bJ (AP.call n) rs tm ds m H=some (e,H')
 | [],none,H,h=>by
  obtain ⟨l,hl,h⟩:=bu.elim (m:=aB) h;exact ⟨_,_,h,0,λ n _=>by simp [bJ,hl]⟩
 | [],some c,H,h=>⟨_,_,h,0,λ n _=>by simp [bJ]⟩
 | .fm b::ds,m,H,⟨hb,h⟩=>by
  obtain ⟨e,H',hq,n0,hx⟩:=rf.run h;exact ⟨e,H',hq,n0,λ n hn=>by simp [bJ,hb,hx n hn]⟩
 | .fn (.func f) args::ds,m,H,⟨v,up',H',⟨n0,hc⟩,h⟩=>by
  obtain ⟨m',hm,h⟩:=bu.elim (m:=aB) h;obtain ⟨e,H2,hq,n1,hx⟩:=rf.run h;exact ⟨e,H2,hq,max n0 n1,λ n hn=>by simp [bJ,hc n (by omega),hm,hx n (by omega)]⟩
 | .fn (.yield _) _::_,_,_,h=>False.elim h
def FIN (AP:aO) (rs:List cU) (Q:bz->Option aC->AHeap->Prop):bX:=λ e st=>match e with
 | .normal=>rf AP rs st.tm (λ e H=>Q e st.up H) st.aT none st.H
 | .ret=>rf AP rs st.tm (λ e H=>Q e st.up H) st.aT none st.H
 | .panic c=>rf AP rs st.tm (λ e H=>Q e st.up H) st.aT (some c) st.H
 | _=>False
theorem q3c {AP:aO} {f:Nat} {fn:aw} (hf:AP.func f=some fn) {vs:List AV} {up:Option aC} {H:AHeap} {Q:bz->Option aC->AHeap->Prop}
 (h:WP AP ⟨none,f⟩ fn.body ⟨fD 0 vs .nil,[],up,H⟩ (FIN AP fn.results Q)):∃ e up' H',nq AP f vs up H e up' H'/\Q e up' H':=by
 obtain ⟨hmu,hf⟩:=aO.pV hf;obtain ⟨e,st,h1,n0,hx⟩:=h.run;have key:∀ m,rf AP fn.results st.tm (λ e H=>Q e st.up H) st.aT m st.H->(∀ call,jZ call fn (e,st)=(bJ call fn.results st.tm st.aT m st.H).bind λ q=>some (q.1,st.up,q.2)) ->
  ∃ e up' H',nq AP f vs up H e up' H'/\Q e up' H':=by
  intro m h1 he;obtain ⟨e',H',hq,n1,hy⟩:=h1.run;refine ⟨e',st.up,H',⟨max n0 n1+1,λ n hn=>?_⟩,hq⟩;obtain ⟨n,rfl⟩:∃ j,n=j+1:=⟨n-1,by omega⟩
  have:=hx n n (by omega) (by omega);simp only [pF] at this;rw [aO.qH hmu];simp only [yU,hf,qi,exec,this,he,hy n (by omega)]
 cases e with
 | normal=>exact key none h1 λ _=>rfl
 | ret=>exact key none h1 λ _=>rfl
 | panic c=>exact key (some c) h1 λ _=>rfl
 | exit _=>exact False.elim h1
 | goto _=>exact False.elim h1
theorem q6d {AP:aO} {f:Nat} {fn:aw} (hf:AP.func f=some fn) {vs:List AV} {H:AHeap} {Q:bz->AHeap->Prop}
 (h:WP AP ⟨none,f⟩ fn.body ⟨fD 0 vs .nil,[],none,H⟩ (FIN AP fn.results λ e up H=>up=none/\Q e H)):∃ e H',iH AP f vs H e H'/\Q e H':=by
 obtain ⟨e,up',H',h1,rfl,h2⟩:=q3c hf h;exact ⟨e,H',h1,h2⟩
def RE (l:Nat) (Q:bz->AHeap->Prop):bX:=λ e st=>st.aT=[]/\match e with
 | .panic c=>Q (.panic c) st.H
 | e=>bu aB (bU st.H l (cond (qX e) .ready .done) (gf e)) λ H=>Q (.ret (.bool (qX e))) H
def RB (W:St->bX->Prop) (l:Nat) (Q:bz->AHeap->Prop):bX:=λ e st=>match e with
 | .normal=>bu aB (beginRound st.H l) λ H=>W { st with H:=H } (RE l Q)
 | _=>False
theorem qwu {AP:aO} {l:Nat} {H:AHeap} {s:im} {p:Option ew} {f k:Nat} {tm:T AV} {d:Nat} {fn:aw} {lp:dG} {vs:List AV} {tm1:T AV} {Q:bz->AHeap->Prop}
 (hl:H.get l=some (.loop s p f k tm d)) (hf:AP.func f=some fn) (hk:nth fn.loops k=some lp) (hb:C5 tm lp.params vs=some tm1)
 (h:WP AP ⟨some l,f⟩ lp.assign ⟨tm1,[],none,H⟩ (RB (WP AP ⟨some l,f⟩ lp.body) l Q)):∃ e H',lR AP l vs H e H'/\Q e H':=by
 obtain ⟨hmu,hf⟩:=aO.pV hf;obtain ⟨e,st,h1,n0,hx⟩:=h.run;cases e with
 | normal =>
  obtain ⟨H2,hbr,h1⟩:=bu.elim (m:=aB) h1;obtain ⟨e,st2,⟨hd,h2⟩,n1,hy⟩:=WP.run h1;have key:∀ e' H',Q e' H'->yG l (e,st2)=some (e',H') -> ∃ e H',lR AP l vs H e H'/\Q e H':=by
   intro e' H' hq he;refine ⟨e',H',⟨max n0 n1+1,λ n j hn hj=>?_⟩,hq⟩;obtain ⟨j,rfl⟩:∃ i,j=i+1:=⟨j-1,by omega⟩
   have hx':=hx n j (by omega) (by omega);have hy':=hy n j (by omega) (by omega);simp only [pF] at hx' hy';simp only [rounds,roundOf,hl,hf,qi,hk,hb,exec,hx',hbr,hy',hd,roundOf.noDefs,xe,he]
  cases e with
  | panic c=>exact key _ _ h2 rfl
  | normal=>obtain ⟨H3,h3,h2⟩:=bu.elim (m:=aB) h2;exact key _ _ h2 (by simp [yG,h3])
  | exit id=>obtain ⟨H3,h3,h2⟩:=bu.elim (m:=aB) h2;exact key _ _ h2 (by simp [yG,h3])
  | goto id=>obtain ⟨H3,h3,h2⟩:=bu.elim (m:=aB) h2;exact key _ _ h2 (by simp [yG,h3])
  | ret=>obtain ⟨H3,h3,h2⟩:=bu.elim (m:=aB) h2;exact key _ _ h2 (by simp [yG,h3])
 | exit _=>exact False.elim h1
 | goto _=>exact False.elim h1
 | ret=>exact False.elim h1
 | panic _=>exact False.elim h1
theorem iH.sf {AP:aO} {f:Nat} {vs:List AV} {H:AHeap} {e:bz} {H':AHeap} (h:iH AP f vs H e H'):∃ n,AP.call n f vs none H=some (e,none,H'):=by
 obtain ⟨n,h⟩:=h;exact ⟨n,h n (qg n)⟩
end
end Go.Am
namespace Go.Am
abbrev Env:=List (Nat × AV)
def lj (dst:Option Nat) (v:AV) (E:Env):Env:=match dst with
 | some d=>(d,v)::E
 | none=>E
def BI {α:Type} (m:Bool) (o:Option α) (K:Bool -> α->Prop):Prop:=match o with
 | some a=>K aB a
 | none=>False
def mC {α β:Type} (m:Bool) (o:Option (α × β)) (K:Bool -> α -> β->Prop):Prop:=match o with
 | some a=>K aB a.1 a.2
 | none=>False
def IG (m:Bool) (q:Bool) (A B:Bool->Prop):Prop:=match q with
 | true=>A aB
 | false=>B aB
def LK {α:Type} (m:Bool) (o:Option α) (K:Bool -> α->Prop):Prop:=match o with
 | some a=>K m a
 | none=>False
theorem yN {α:Type} (a:α) (K:Bool -> α->Prop):LK true (some a) K=K true a:=propext j5
@[congr] theorem HP {α:Type} {m m':Bool} {o o':Option α} {K:Bool -> α->Prop} (hm:m=m') (h:o=o'):LK m o K=LK m' o' K:=by subst hm;subst h;rfl
@[congr] theorem Hn {α:Type} {m m':Bool} {o o':Option α} {K:Bool -> α->Prop} (hm:m=m') (h:o=o'):BI m o K=BI m' o' K:=by subst hm;subst h;rfl
@[congr] theorem FO {α β:Type} {m m':Bool} {o o':Option (α × β)} {K:Bool -> α -> β->Prop} (hm:m=m') (h:o=o'):mC m o K=mC m' o' K:=by subst hm;subst h;rfl
@[congr] theorem GC {m m' q q':Bool} {A B:Bool->Prop} (hm:m=m') (h:q=q'):IG m q A B=IG m' q' A B:=by subst hm;subst h;rfl
theorem BI.intro {α:Type} {m:Bool} {o:Option α} {K:Bool -> α->Prop} {a:α} (h:o=some a) (hk:K aB a):BI m o K:=by subst h;exact hk
theorem mC.intro {α β:Type} {m:Bool} {o:Option (α × β)} {K:Bool -> α -> β->Prop} {a:α} {b:β} (h:o=some (a,b)) (hk:K aB a b):mC m o K:=by subst h;exact hk
theorem IG.cases {m:Bool} {q:Bool} {A B:Bool->Prop} (h1:q=true->A aB) (h2:q=false->B aB):IG m q A B:=by
 cases q with
 | true=>exact h1 rfl
 | false=>exact h2 rfl
noncomputable section
variable (AP:aO)
def CA (m:Bool) (f:fj) (vs:List AV) (H:AHeap) (K:Bool->AV->AHeap->Prop) (E:aC->AHeap->Prop):Prop:=gW AP m f vs H (K aB) E
@[congr] theorem HV {AP:aO} {m m':Bool} {f f':fj} {vs vs':List AV} {H:AHeap} {K:Bool->AV->AHeap->Prop} {E:aC->AHeap->Prop} (hm:m=m') (hf:f=f') (h:vs=vs'):CA AP m f vs H K E=CA AP m' f' vs' H K E:=by subst hm;subst h;subst hf;rfl
theorem CA.ret {AP:aO} {m:Bool} {f:Nat} {vs:List AV} {H:AHeap} {K:Bool->AV->AHeap->Prop} {E:aC->AHeap->Prop} {v:AV} {H':AHeap} (h:iH AP f vs H (.ret v) H') (hk:K aB v H'):CA AP m (.func f) vs H K E :=
 ⟨_,_,h,hk⟩
theorem CA.panic {AP:aO} {m:Bool} {f:Nat} {vs:List AV} {H:AHeap} {K:Bool->AV->AHeap->Prop} {E:aC->AHeap->Prop} {c:aC} {H':AHeap} (h:iH AP f vs H (.panic c) H') (hk:E c H'):CA AP m (.func f) vs H K E :=
 ⟨_,_,h,hk⟩
def VI (m:Bool) (vs:List AV) (K:Bool->fj->List AV->Prop):Prop:=Du m vs (K aB)
@[congr] theorem Hg {m m':Bool} {vs vs':List AV} {K:Bool->fj->List AV->Prop} (hm:m=m') (h:vs=vs'):VI m vs K=VI m' vs' K:=by subst hm;subst h;rfl
def IV (m:Bool) (name:String) (vs:List AV) (K:Bool->fj->List AV->Prop):Prop:=EL AP m name vs (K aB)
@[congr] theorem Ht {AP:aO} {m m':Bool} {name:String} {vs vs':List AV} {K:Bool->fj->List AV->Prop} (hm:m=m') (h:vs=vs'):IV AP m name vs K=IV AP m' name vs' K:=by subst hm;subst h;rfl
def RC (m:Bool) (ctx:Ctx) (up:Option aC) (K:Bool->AV->Option aC->Prop):Prop:=nJ m ctx up (K aB)
@[congr] theorem IA {m m':Bool} {ctx:Ctx} {up up':Option aC} {K:Bool->AV->Option aC->Prop} (hm:m=m') (h:up=up'):RC m ctx up K=RC m' ctx up' K:=by subst hm;subst h;rfl
def DF (m:Bool) (ctx:Ctx) (vs:List AV) (aT:List aL) (K:Bool->List aL->Prop):Prop:=sX m ctx vs aT (K aB)
@[congr] theorem Ip {m m':Bool} {ctx:Ctx} {vs vs':List AV} {aT:List aL} {K:Bool->List aL->Prop} (hm:m=m') (h:vs=vs'):DF m ctx vs aT K=DF m' ctx vs' aT K:=by subst hm;subst h;rfl
end
end Go.Am
namespace Go.Am
theorem xam (n:Int):aZ .i64 n=(n+9223372036854775808) % 18446744073709551616-9223372036854775808:=by
 simp [aZ,IntKind.wrap,IntKind.bits,IntKind.signed];split<;>omega
theorem wx {n:Int} (h:-9223372036854775808<=n) (h':n<9223372036854775808):aZ .i64 n=n:=by rw [xam];omega
section
variable (k:IntKind) (a b:Int)
theorem E5 (v:AV):Op.move [v]=some v:=rfl
theorem El (q:Bool) (a b:AV):Op.pick [.bool q,a,b]=some (cond q a b):=rfl
theorem Hf:Op.bin .add [.int k a,.int k b]=some (.int k (aZ k (a+b))):=by cases k<;>rfl
theorem Ie:Op.bin .sub [.int k a,.int k b]=some (.int k (aZ k (a-b))):=by cases k<;>rfl
theorem IM:Op.bin .mul [.int k a,.int k b]=some (.int k (aZ k (a*b))):=by cases k<;>rfl
theorem Gv (hb:b ≠ 0):Op.bin .quo [.int k a,.int k b]=some (.int k (aZ k (a.tdiv b))):=by
 have:pC b 0=false:=by rw [Aa];simpa using hb
 cases k<;>simp [Op.bin,jQ,cX,oa,ie,dJ,this]
theorem BE (hb:b ≠ 0):Op.bin .rem [.int k a,.int k b]=some (.int k (a.tmod b)):=by
 have:pC b 0=false:=by rw [Aa];simpa using hb
 cases k<;>simp [Op.bin,jQ,cX,oa,ie,dJ,this]
theorem IJ:Op.bin .eql [.int k a,.int k b]=some (.bool (decide (a=b))):=by
 have:pC a b=decide (a=b):=by rw [Aa];rfl
 cases k<;>simp [Op.bin,jQ,cX,oa,ie,dJ,this]
theorem IL:Op.bin .neq [.int k a,.int k b]=some (.bool (decide (a ≠ b))):=by
 have:pC a b=decide (a=b):=by rw [Aa];rfl
 cases k<;>simp [Op.bin,jQ,cX,oa,ie,dJ,this]
theorem IC:Op.bin .lss [.int k a,.int k b]=some (.bool (decide (a<b))):=by
 cases k<;>simp [Op.bin,jQ,cX,oa,ie,dJ,J6]
theorem Ir:Op.bin .leq [.int k a,.int k b]=some (.bool (decide (a<=b))):=by
 cases k<;>simp [Op.bin,jQ,cX,oa,ie,dJ,yL]
theorem Hw:Op.bin .gtr [.int k a,.int k b]=some (.bool (decide (b<a))):=by
 cases k<;>simp [Op.bin,jQ,cX,oa,ie,dJ,J6]
theorem HD:Op.bin .geq [.int k a,.int k b]=some (.bool (decide (b<=a))):=by
 cases k<;>simp [Op.bin,jQ,cX,oa,ie,dJ,yL]
theorem Ch (k':IntKind):Op.wrap k [.int k' a]=some (.int k (aZ k a)):=rfl
theorem Gy (q:Bool):Op.un .not [.bool q]=some (.bool (!q)):=rfl
theorem q8t (a b:List UInt8):rj a b=decide (a=b):=by
 by_cases h:a=b
 ·subst h;simp [FB]
 ·simp [FB,h]
theorem Cd (a b:List UInt8):Op.bin .eql [.str a,.str b]=some (.bool (decide (a=b))):=by
 simp only [Op.bin,jQ,kY,q8t]
theorem DA (a b:List UInt8):Op.bin .neq [.str a,.str b]=some (.bool (decide (a ≠ b))):=by
 simp [Op.bin,jQ,kY,q8t]
theorem uS (s:List UInt8):Op.oX [.str s]=some (.int .i64 s.length):=by simp [Op.oX,gk,yS]
theorem q9l (i:Nat) (l:List AV):Op.extract i [.tuple l]=l[i]?:=by simp [Op.extract,iV]
theorem rR (f n:Nat) (l:List AV):Op.cB f n l=some (.fn (.func f) (l.take n) (l.drop n)):=rfl
theorem q9m (t:Nat) (v:AV):Op.pG t [v]=some (.iface t v):=rfl
theorem q3x (off b o:Nat):Op.fieldAddr off [.ptr b o]=some (.ptr b (o+off)):=rfl
theorem tw (off:Nat) (l:List AV):Op.field off none [.agg l]=l[off]?:=by simp [Op.field,partAt,iV]
theorem DJ (q:Bool):aE true (some (.bool q))=some q:=by cases q<;>rfl
theorem zN (q:Bool):aE false (some (.bool q))=some (!q):=by cases q<;>rfl
theorem zY (b:Bool):aE b (some .undef)=some false:=rfl
end
structure Fr (W:Nat->Prop) (H H':AHeap):Prop where
 next:H.next<=H'.next
 ae:∀ b,b<H.next -> ¬ W b->H'.get b=H.get b
def Em:Nat->Prop:=λ _=>False
def On (b:Nat):Nat->Prop:=λ x=>x=b
theorem Fr.refl {W:Nat->Prop} (H:AHeap):Fr W H H:=⟨qg _,λ _ _ _=>rfl⟩
theorem Fr.trans {W W':Nat->Prop} {H H1 H2:AHeap} (a:Fr W H H1) (b:Fr W' H1 H2) (h:∀ x,W' x->W x\/H.next<=x):Fr W H H2 :=
 ⟨xt a.next b.next,λ x hx hw=>by
  rw [b.ae x (qn hx a.next) (λ hw'=>(h x hw').elim hw (λ q=>by omega)),a.ae x hx hw]⟩
theorem Fr.em {W:Nat->Prop} {H H1 H2:AHeap} (a:Fr W H H1) (b:Fr Em H1 H2):Fr W H H2:=a.trans b λ _ h=>h.elim
theorem Fr.mono {W W':Nat->Prop} {H H':AHeap} (a:Fr W H H') (h:∀ x,x<H.next->W x->W' x):Fr W' H H':=⟨a.next,λ x hx hw=>a.ae x hx λ q=>hw (h x hx q)⟩
theorem xn (H:AHeap) (o:bN):(H.alloc o).next=H.next+1:=rfl
theorem F0 (H:AHeap) (b:Nat) (o:bN):(H.set b o).next=H.next:=rfl
theorem Ar (H:AHeap) (b:Nat):(H.kill b).next=H.next:=rfl
theorem Fr.alloc {W:Nat->Prop} {H H1:AHeap} (a:Fr W H H1) (o:bN):Fr W H (H1.alloc o) :=
 ⟨DY a.next,λ x hx hw=>by rw [AHeap.bo,qd (by have:=a.next;omega),a.ae x hx hw]⟩
theorem Fr.set {W:Nat->Prop} {H H1:AHeap} (a:Fr W H H1) {b:Nat} (h:W b\/H.next<=b) (o:bN):Fr W H (H1.set b o) :=
 ⟨a.next,λ x hx hw=>by rw [AHeap.aI,qd (by rintro rfl;exact h.elim hw (λ q=>by omega)),a.ae x hx hw]⟩
theorem Fr.kill {W:Nat->Prop} {H H1:AHeap} (a:Fr W H H1) {b:Nat} (h:W b\/H.next<=b):Fr W H (H1.kill b) :=
 ⟨a.next,λ x hx hw=>by rw [AHeap.kO,qd (by rintro rfl;exact h.elim hw (λ q=>by omega)),a.ae x hx hw]⟩
theorem xb {H:AHeap} {b:Nat} {c:List AV} {e:Nat} {fz:Nat × Nat} {ow:Bool} (h:H.get b=some (.row c e fz ow)):H.bS b=some c:=by simp [AHeap.bS,h]
theorem Lm {H:AHeap} {b m s:Nat} {c:List AV} {e:Nat} {fz:Nat × Nat} (h:H.get b=some (.grown m s c e fz)):H.bS b=some c:=by simp [AHeap.bS,h]
theorem q6f {H H':AHeap} {b:Nat} (h:H'.get b=H.get b):H'.bS b=H.bS b:=by simp [AHeap.bS,h]
theorem Fr.cells {W:Nat->Prop} {H H':AHeap} (a:Fr W H H') {b:Nat} (hb:b<H.next) (hw:¬ W b):H'.bS b=H.bS b:=q6f (a.ae b hb hw)
theorem zf {H:AHeap} {b:Nat} {c:List AV} (h:H.bS b=some c) (o:Nat):Op.aa [.ptr b o] H=c[o]?:=by simp [Op.aa,AHeap.aa,h,iV]
theorem wF {H:AHeap} {b:Nat} {c:List AV} (h:H.bS b=some c) {o n:Nat} (hn:o+n<=c.length):Op.aq n [.ptr b o] H=some (.agg ((c.drop o).take n)):=by
 simp only [Op.aq,AHeap.aq,h,qi,oZ];rw [qm (by omega)];rfl
def Sl (H:AHeap) (size:Nat) (v:AV) (n:Nat) (cells:List AV):Prop :=
 cells.length=n*size/\match v with
 | .nils=>n=0
 | .slice b o m c=>m=n/\n<=c/\(n=0\/b<H.next /\ ∃ all,H.bS b=some all/\dX all o (n*size)=some cells)
 | .gslice b i m s alt k=>k=n/\s=size/\i+n<=m/\(n=0\/b<H.next /\ ∃ all,H.bS b=some all/\dX all (i*size) (n*size)=some cells)
 | .eslice b=>n=0/\b<H.next
 | _=>False
def aM:AV->Nat
 | .slice b _ _ _=>b
 | .gslice b _ _ _ _ _=>b
 | .eslice b=>b
 | _=>0
def cu (size:Nat):AV->Nat->Nat
 | .slice _ o _ _,j=>o+j*size
 | .gslice _ i _ s _ _,j=>i*s+j*s
 | _,_=>0
theorem Sl.dS {H:AHeap} {size:Nat} {v:AV} {n:Nat} {cells:List AV} (h:Sl H size v n cells):dS v=some n:=by
 obtain ⟨_,h⟩:=h;split at h
 ·subst h;rfl
 ·obtain ⟨rfl,_⟩:=h;rfl
 ·obtain ⟨rfl,_⟩:=h;rfl
 ·obtain ⟨rfl,_⟩:=h;rfl
 ·exact h.elim
theorem Sl.len {H:AHeap} {size:Nat} {v:AV} {n:Nat} {cells:List AV} (h:Sl H size v n cells):Op.bB [v]=some (.int .i64 n):=by
 obtain ⟨_,h⟩:=h;split at h
 ·subst h;rfl
 ·obtain ⟨rfl,_⟩:=h;rfl
 ·obtain ⟨rfl,_⟩:=h;rfl
 ·obtain ⟨rfl,_⟩:=h;rfl
 ·exact h.elim
theorem ML {z:Int} {i n:Nat} (hz:z=i) (h:i<n):within z n=some i:=by
 subst hz;show cond (Nat.blt i n) (some i) none=some i;have:Nat.blt i n=true:=by simpa [nR] using h
 rw [this];rfl
theorem DI {i j:Nat} (h:i ≠ j):Nat.beq i j=false:=by
 cases q:Nat.beq i j with
 | false=>rfl
 | true=>exact (h (Nat.eq_of_beq_eq_true q)).elim
theorem zU {i n:Nat} (h:i<n):Nat.blt i n=true:=by simpa [nR] using h
theorem yo {i n:Nat} (h:i<=n):Nat.ble i n=true:=by simpa using h
theorem Sl.idx {H:AHeap} {size:Nat} {v:AV} {n:Nat} {cells:List AV} (h:Sl H size v n cells) {i:Nat} (hi:i<n) {z:Int} (hz:z=i) (k:IntKind) :
 Op.aS size [v,.int k z]=some (.ptr (aM v) (cu size v i)):=by
 obtain ⟨hl,h⟩:=h;split at h
 ·omega
 ·rename_i b o m c;obtain ⟨rfl,hc,h⟩:=h;have h1:=zU hi;simp [Op.aS,Am.dS,ML hz hi,elemAt,h1,aM,cu]
 ·rename_i b j m s alt k;obtain ⟨rfl,rfl,hm,h⟩:=h;have h1:=zU hi;have h2:=zU (show j+i<m by omega);simp [Op.aS,Am.dS,ML hz hi,elemAt,h1,h2,aM,cu]
 ·omega
 ·exact h.elim
theorem JF {α:Type} {l r:List α} {o n:Nat} (h:dX l o n=some r):n<=l.length-o/\r=(l.drop o).take n:=by
 rw [oZ] at h;split at h
 ·rename_i hn;injection h with h;exact ⟨hn,h.symm⟩
 ·cases h
theorem Sl.at {H:AHeap} {size:Nat} {v:AV} {n:Nat} {cells:List AV} (hs0:0<size) (h:Sl H size v n cells) {i:Nat} (hi:i<n) :
 aM v<H.next /\ ∃ all,H.bS (aM v)=some all/\cu size v i+size<=all.length /\ ∀ j,j<size->all[cu size v i+j]? = cells[i*size+j]?:=by
 obtain ⟨hl,h⟩:=h;have hps:0<n*size:=Nat.mul_pos (by omega) hs0;have hsz:i*size+size<=n*size:=by rw [<-pw];exact ki _ hi
 split at h
 ·omega
 ·rename_i b o m c;obtain ⟨rfl,hc,h⟩:=h;rcases h with h|⟨hb,all,h1,h2⟩
  ·omega
  obtain ⟨h3,rfl⟩:=JF h2;refine ⟨hb,all,h1,?_,λ j hj=>?_⟩
  ·simp only [cu];simp at hl;omega
  ·simp only [cu];rw [ku,qm (by omega),yb];congr 1;omega
 ·rename_i b q m s alt k;obtain ⟨rfl,rfl,hm,h⟩:=h;rcases h with h|⟨hb,all,h1,h2⟩
  ·omega
  obtain ⟨h3,rfl⟩:=JF h2;refine ⟨hb,all,h1,?_,λ j hj=>?_⟩
  ·simp only [cu];simp at hl;omega
  ·simp only [cu];rw [ku,qm (by omega),yb];congr 1;omega
 ·omega
 ·exact h.elim
theorem Sl.fr {H H':AHeap} {W:Nat->Prop} {size:Nat} {v:AV} {n:Nat} {cells:List AV} (h:Sl H size v n cells) (f:Fr W H H') (hw:n=0 \/ ¬ W (aM v)):Sl H' size v n cells:=by
 obtain ⟨hl,h⟩:=h;refine ⟨hl,?_⟩;split at h
 ·exact h
 ·obtain ⟨h1,h2,h3⟩:=h;refine ⟨h1,h2,?_⟩;rcases h3 with h3|⟨hb,all,h3,h4⟩
  ·exact .inl h3
  ·rcases hw with hw|hw
   ·exact .inl hw
   ·exact .inr ⟨qn hb f.next,all,by rw [f.cells hb hw];exact h3,h4⟩
 ·obtain ⟨h1,h2,h0,h3⟩:=h;refine ⟨h1,h2,h0,?_⟩;rcases h3 with h3|⟨hb,all,h3,h4⟩
  ·exact .inl h3
  ·rcases hw with hw|hw
   ·exact .inl hw
   ·exact .inr ⟨qn hb f.next,all,by rw [f.cells hb hw];exact h3,h4⟩
 ·exact ⟨h.1,qn h.2 f.next⟩
 ·exact h.elim
theorem Sl.em {H H':AHeap} {size:Nat} {v:AV} {n:Nat} {cells:List AV} (h:Sl H size v n cells) (f:Fr Em H H'):Sl H' size v n cells:=h.fr f (.inr id)
theorem Sl.first {H:AHeap} {size:Nat} {v:AV} {n:Nat} {cells:List AV} (h:Sl H size v n cells):firstCells H size n v=some cells:=by
 obtain ⟨hl,h⟩:=h;split at h
 ·subst h;simp at hl;subst hl;rfl
 ·rename_i b o m c;obtain ⟨rfl,hc,h⟩:=h;rcases h with rfl|⟨hb,all,h1,h2⟩
  ·simp at hl;subst hl;rfl
  ·by_cases hn:m=0
   ·subst hn;simp at hl;subst hl;rfl
   ·have:Nat.beq m 0=false:=DI hn;simp only [firstCells,this,zd,AHeap.aq,h1,qi,h2]
 ·rename_i b i m s alt k;obtain ⟨rfl,rfl,hm,h⟩:=h;rcases h with rfl|⟨hb,all,h1,h2⟩
  ·simp at hl;subst hl;rfl
  ·by_cases hn:k=0
   ·subst hn;simp at hl;subst hl;rfl
   ·have:Nat.beq k 0=false:=DI hn;have h3:=zU (show i<m by omega);simp [firstCells,this,h3,AHeap.aq,h1,h2]
 ·obtain ⟨rfl,_⟩:=h;simp at hl;subst hl;rfl
 ·exact h.elim
def ep {α:Type} (enc:α->List AV) (size:Nat) (H:AHeap) (v:AV) (xs:List α):Prop:=Sl H size v xs.length (xs.flatMap enc)
section
variable {α:Type} {enc:α->List AV} {size:Nat} {H H':AHeap} {v:AV} {xs:List α}
theorem ep.len (h:ep enc size H v xs):Op.bB [v]=some (.int .i64 xs.length):=Sl.len h
theorem ep.fr {W:Nat->Prop} (h:ep enc size H v xs) (f:Fr W H H') (hw:¬ W (aM v)):ep enc size H' v xs:=Sl.fr h f (.inr hw)
theorem ep.em (h:ep enc size H v xs) (f:Fr Em H H'):ep enc size H' v xs:=Sl.em h f
theorem Ey (hs:∀ x,(enc x).length=size):∀ (xs:List α) {i:Nat} {x:α},xs[i]? = some x -> ∀ {j:Nat},j<size->(xs.flatMap enc)[i*size+j]? = (enc x)[j]?
 | [],i,x,h,j,hj=>by simp at h
 | y::ys,0,x,h,j,hj=>by
  simp at h;subst h;rw [jt,kq (by rw [hs];omega)];simp
 | y::ys,i+1,x,h,j,hj=>by
  simp only [zq] at h;rw [jt,jo (by rw [hs,pw];omega),hs,<-Ey hs ys h hj];congr 1;rw [pw];omega
theorem BM {i:Nat} {x:α} (h:xs[i]? = some x):i<xs.length:=(ql.1 h).1
theorem ep.idx (h:ep enc size H v xs) {i:Nat} {x:α} (hx:xs[i]? = some x) {z:Int} (hz:z=i) (k:IntKind):Op.aS size [v,.int k z]=some (.ptr (aM v) (cu size v i)) :=
 Sl.idx h (BM hx) hz k
theorem ep.aa (hs:∀ x,(enc x).length=size) (h:ep enc size H v xs) {i:Nat} {x:α} (hx:xs[i]? = some x) {j:Nat} (hj:j<size):Op.aa [.ptr (aM v) (cu size v i+j)] H=(enc x)[j]?:=by
 obtain ⟨_,all,h1,h2,h3⟩:=Sl.at (by omega) h (BM hx);rw [zf h1,h3 j hj,Ey hs xs hx hj]
theorem ep.lT (hs:∀ x,(enc x).length=size) (h:ep enc size H v xs) {i:Nat} {x:α} (hx:xs[i]? = some x) (hj:0<size):Op.aa [.ptr (aM v) (cu size v i)] H=(enc x)[0]?:=h.aa hs hx hj
theorem ep.aq (hs:∀ x,(enc x).length=size) (hs0:0<size) (h:ep enc size H v xs) {i:Nat} {x:α} (hx:xs[i]? = some x):Op.aq size [.ptr (aM v) (cu size v i)] H=some (.agg (enc x)):=by
 obtain ⟨_,all,h1,h2,h3⟩:=Sl.at hs0 h (BM hx);rw [wF h1 h2];congr 2;refine kx λ j=>?_
 by_cases hj:j<size
 ·rw [ku,qm hj,yb,h3 j hj,Ey hs xs hx hj]
 ·rw [zm (by simp;omega),zm (by rw [hs];omega)]
end
def Own (H:AHeap) (e size:Nat) (v:AV) (n:Nat) (cells:List AV):Prop :=
 cells.length=n*size/\(n=0/\(v=.nils \/ ∃ b,v=.slice b 0 0 0/\b<H.next) \/ ∃ b,v=.gslice b 0 n size 0 n/\b<H.next/\H.get b=some (.grown n size cells e (0,0)))
def bH (v:AV):Nat->Prop:=λ x=>v ≠ .nils/\x=aM v
theorem Own.nil (H:AHeap) (e size:Nat):Own H e size .nils 0 []:=⟨by simp,.inl ⟨rfl,.inl rfl⟩⟩
theorem Own.sl {H:AHeap} {e size:Nat} {v:AV} {n:Nat} {cells:List AV} (h:Own H e size v n cells):Sl H size v n cells:=by
 obtain ⟨hl,⟨rfl,rfl|⟨b,rfl,hb⟩⟩|⟨b,rfl,h1,h2⟩⟩:=h
 ·exact ⟨hl,rfl⟩
 ·exact ⟨hl,rfl,qg _,.inl rfl⟩
 ·refine ⟨hl,rfl,rfl,by omega,.inr ⟨h1,cells,Lm h2,?_⟩⟩;rw [oZ,qm (by simp [hl])];simp [<-hl]
theorem Own.fr {H H':AHeap} {W:Nat->Prop} {e size:Nat} {v:AV} {n:Nat} {cells:List AV} (h:Own H e size v n cells) (f:Fr W H H') (hw:∀ x,bH v x -> ¬ W x):Own H' e size v n cells:=by
 obtain ⟨hl,⟨h0,h|⟨b,rfl,hb⟩⟩|⟨b,rfl,h1,h2⟩⟩:=h
 ·exact ⟨hl,.inl ⟨h0,.inl h⟩⟩
 ·exact ⟨hl,.inl ⟨h0,.inr ⟨b,rfl,qn hb f.next⟩⟩⟩
 ·exact ⟨hl,.inr ⟨b,rfl,qn h1 f.next,by rw [f.ae b h1 (hw b ⟨by simp,rfl⟩)];exact h2⟩⟩
theorem Own.em {H H':AHeap} {e size:Nat} {v:AV} {n:Nat} {cells:List AV} (h:Own H e size v n cells) (f:Fr Em H H'):Own H' e size v n cells:=h.fr f λ _ _ h=>h
theorem Own.lt {H:AHeap} {e size:Nat} {v:AV} {n:Nat} {cells:List AV} (h:Own H e size v n cells):∀ x,bH v x->x<H.next:=by
 rintro x ⟨h1,rfl⟩;obtain ⟨hl,⟨h0,h|⟨b,rfl,hb⟩⟩|⟨b,rfl,h1,h2⟩⟩:=h
 ·exact (h1 h).elim
 ·exact hb
 ·exact h1
theorem Sl.one {H:AHeap} {size:Nat} {v:AV} {n:Nat} {cells:List AV} (h:Sl H size v n cells):br v=true:=by
 obtain ⟨_,h⟩:=h;cases v<;>first|rfl|exact h.elim
theorem JO {n bytes:Nat} (h1:n*bytes<=140737488355328) (h2:n<=140737488355328):fits n bytes=true:=by
 simp [fits,h1,h2]
theorem qxy {H:AHeap} {e size bytes:Nat} {v:AV} {n:Nat} {cells:List AV} (h:Own H e size v n cells) {x:AV} {k:Nat} {new:List AV} (hx:Sl H size x k new) (hnew:ba new=true) (hs:0<size)
 (hf:(n+k)*bytes<=140737488355328) (hf':n+k<=140737488355328) {K:Bool->AV->AHeap->Prop} {m:Bool}
 (hk:∀ v' H',Own H' e size v' (n+k) (cells++new)->Fr (bH v) H H'->(∀ b,bH v' b->bH v b\/H.next<=b)->K aB v' H'):mC m (Op.append e size bytes [v,x] H) K:=by
 have hfit:=JO hf hf';have hlen:new.length=k*size:=hx.1;have hs':=zU hs;have e1:∀ n,Nat.beq n n=true:=λ n=>by simp
 simp only [Op.append,hx.dS,hx.first,qi,hnew,xe];obtain ⟨hl,⟨rfl,rfl|⟨b,rfl,hb⟩⟩|⟨b,rfl,h1,h2⟩⟩:=h
 ·simp only [ve,yc] at hl;subst hl
  by_cases hk0:k=0
  ·subst hk0;simp at hlen;subst hlen;exact hk .nils H (Own.nil H e size) (Fr.refl H) λ b hb=>.inl hb
  ·have h0:Nat.beq k 0=false:=DI hk0;simp only [bY,h0,zd,yf] at hfit ⊢;simp only [hfit,hs',jc,xe,cq,mC];refine hk _ _ ⟨by simpa using hlen,.inr ⟨H.next,by simp,by rw [xn];omega,?_⟩⟩ ((Fr.refl H).alloc _) λ b hb=>.inr (by rw [hb.2];exact qg _);rw [AHeap.bo,qm rfl];simp
 ·simp only [ve,yc] at hl;subst hl
  by_cases hk0:k=0
  ·subst hk0;simp at hlen;subst hlen;simp only [bY,qe,yo (qg 0),xe,e1,mC];exact hk _ H ⟨by simp,.inl ⟨rfl,.inr ⟨b,rfl,hb⟩⟩⟩ (Fr.refl H) λ b hb=>.inl hb
  ·have h0:Nat.beq k 0=false:=DI hk0;have h3:Nat.ble k 0=false:=by cases hq:Nat.ble k 0 with|false=>rfl|true=>rw [wh] at hq;omega
   have h4:firstCells H size 0 (.slice b 0 0 0)=some []:=rfl;simp only [bY,yf,h3,zd] at hfit ⊢;simp only [hfit,yo (zl k),hs',jc,xe,h4,qi,jH,zt,cq,mC];refine hk _ _ ⟨by simpa using hlen,.inr ⟨H.next,by simp,by rw [xn];omega,?_⟩⟩ ((Fr.refl H).alloc _) λ b hb=>.inr (by rw [hb.2];exact qg _);rw [AHeap.bo,qm rfl];simp
 ·by_cases hk0:k=0
  ·subst hk0;simp at hlen;subst hlen;simp only [bY,Nat.beq,xe,yf,yo (qg n),mC];refine hk _ _ ⟨by simpa using hl,.inr ⟨b,rfl,h1,by simpa using h2⟩⟩ (Fr.refl H) λ b hb=>.inl hb
  ·have h0:Nat.beq k 0=false:=DI hk0;have h3:Nat.ble (0+n+k) n=false:=by cases hq:Nat.ble (0+n+k) n with|false=>rfl|true=>rw [wh] at hq;omega
   simp only [bY,h0,zd,e1,yf,yo (qg n),hs',jc,xe] at h3 ⊢;simp only [h3,zd,hfit,xe,h2,e1,jc,Nat.beq,yo (zl (n*size)),cq,mC];refine hk _ _ ⟨by simp [hl,hlen,kn],.inr ⟨H.next,by simp [Ar],by rw [xn,Ar];omega,?_⟩⟩ (((Fr.refl H).kill (.inl ⟨by simp,rfl⟩)).alloc _) λ b hb=>.inr (by rw [hb.2];exact qg _);rw [AHeap.bo,Ar,qm rfl,jH]
theorem M6 (e n:Nat) (zero:List AV) (v:AV) (hz:zero.length=n) (hv:v.cells.length=n):Op.buildSlice e 1 zero [(0,n)] [v]=some (.row v.cells e (0,0) true,Op.sliceTo 1 1):=by
 have e1:∀ n,Nat.beq n n=true:=λ n=>by simp
 simp only [Op.buildSlice,dq,jH,x9,fh,yS,hv,e1,xe,vW,yf,hz,qm (qg n),Dm,zt,qi];rw [j6 (by omega)];simp
theorem tt {H:AHeap} {size e:Nat} {cells:List AV} (hc:cells.length=size):Sl (H.alloc (.row cells e (0,0) true)) size (Op.sliceTo 1 1 H.next) 1 cells:=by
 refine ⟨by simp [hc],rfl,qg 1,.inr ⟨by rw [xn];omega,cells,xb (by rw [AHeap.bo,qm rfl]),?_⟩⟩;rw [oZ,qm (by simp [hc])];simp [<-hc]
theorem xJ {H:AHeap} {e size bytes:Nat} {v:AV} {n:Nat} {cells:List AV} (h:Own H e size v n cells) {zero:List AV} {x:AV} (hz:zero.length=size) (hx:x.cells.length=size) (hnew:ba x.cells=true) (hs:0<size)
 (hf:(n+1)*bytes<=140737488355328) (hf':n+1<=140737488355328) {K:bN->(Nat->AV)->Bool->AV->AHeap->Prop} {m:Bool}
 (hk:∀ v' H',Own H' e size v' (n+1) (cells++x.cells)->Fr (bH v) H H'->(∀ b,bH v' b->bH v b\/H.next<=b)->K (.row x.cells e (0,0) true) (Op.sliceTo 1 1) aB v' H') :
 mC m (Op.buildSlice e 1 zero [(0,size)] [x]) λ g o mk=>mC g (Op.append e size bytes [v,mk H.next] (H.alloc o)) (K o mk):=by
 rw [M6 e size zero x hz hx];have hfr:Fr Em H (H.alloc (.row x.cells e (0,0) true)):=(Fr.refl H).alloc _;refine mC.intro rfl ?_;refine qxy (m:=aB) (h.em hfr) (tt hx) hnew hs hf hf' λ v' H' h1 h2 h3=>hk v' H' h1 ?_ λ b hb=>?_
 ·exact ⟨xt hfr.next h2.next,λ b hb hw=>by rw [h2.ae b (qn hb hfr.next) hw,hfr.ae b hb (λ q=>q)]⟩
 ·exact (h3 b hb).imp id λ q=>xt hfr.next q
theorem Ct.intro {W:St->bX->Prop} {ae:Option (List Nat)} {st:St} {Q:bX} (I:Nat->St->Prop) (n:Nat) (h0:I n st)
 (h:∀ n st,I n st->W (fX ae st) λ e st'=>match e with
  | .normal=>∃ m,m<n/\I m st'
  | e=>Q e st'):Ct W ae st Q:=⟨I,⟨n,h0⟩,h⟩
end Go.Am
namespace Go.Am
theorem Ay (H:AHeap) (tm:T AV) (t:Nat) (rs:List cU):cL H tm (.tmp t::rs)=(tm.get t).bind λ v=>(cL H tm rs).bind λ vs=>some (v::vs):=rfl
theorem q92 (H:AHeap) (tm:T AV) (t:Nat) (rs:List cU):cL H tm (.gq t::rs)=(((tm.get t).bind λ v=>Op.aa [v] H)).bind λ v=>(cL H tm rs).bind λ vs=>some (v::vs):=by
 simp only [cL,Gj];congr 1;cases tm.get t with
 | none=>rfl
 | some v=>cases v<;>rfl
theorem q93 (H:AHeap) (tm:T AV) (n t:Nat) (rs:List cU):cL H tm (.cC n t::rs)=(((tm.get t).bind λ v=>Op.aq n [v] H)).bind λ v=>(cL H tm rs).bind λ vs=>some (v::vs):=by
 simp only [cL,Gj];congr 1;cases tm.get t with
 | none=>rfl
 | some v=>cases v<;>rfl
theorem Lr (v:AV):dg [v]=v:=rfl
theorem LB:dg []=.tuple []:=rfl
theorem Nm (a b:AV) (l:List AV):dg (a::b::l)=.tuple (a::b::l):=rfl
theorem GP (b:Nat):Op.ptrTo b=.ptr b 0:=rfl
theorem qV (t:bW) (x y:AV) (H:AHeap) (q:Bool) (h:bm t x y=some q):Op.eq (.agg t) false [x,y] H=some (.bool q):=by simp [Op.eq,Cr,h]
structure J3 where
 kind:Int
 time:Int
 core:Int
 block:Int
 Mo:Int
 lane:Int
 addr:Int
 value:Int
 code:Int
deriving DecidableEq
def J3.enc (x:J3):List AV:=[.int .i64 x.kind,.int .i64 x.time,.int .i64 x.core,.int .i64 x.block,.int .i64 x.Mo,.int .i64 x.lane,.int .i64 x.addr,.int .u64 x.value,.int .i64 x.code]
theorem J3.len (x:J3):x.enc.length=9:=rfl
end Go.Am
namespace Go.Am
theorem qx (H:AHeap) (o:bN):(H.alloc o).get H.next=some o:=by rw [AHeap.bo,qm rfl]
theorem Lk {H:AHeap} {b:Nat} (h:b<H.next) (o:bN):(H.alloc o).get b=H.get b:=by rw [AHeap.bo,qd (by omega)]
theorem xd (H:AHeap) (b:Nat) (o:bN):(H.set b o).get b=some o:=by rw [AHeap.aI,qm rfl]
theorem wq {H:AHeap} {b b':Nat} (h:b ≠ b') (o:bN):(H.set b o).get b'=H.get b':=by rw [AHeap.aI,qd h]
theorem po {H:AHeap} {b:Nat} {c:List AV} {e:Nat} (h:H.get b=some (.row c e (0,0) true)) {o n:Nat} {v:AV} (hv:v.cells.length=n) (hn:o+n<=c.length) (h1:ba v.cells=true) :
 Op.store n [.ptr b o,v] H=some (.undef,H.set b (.row (c.take o++v.cells++c.drop (o+n)) e (0,0) true)):=by
 have e1:∀ n,Nat.beq n n=true:=λ n=>by simp
 simp only [Op.store,yS,hv,e1,xe,AHeap.store,h1,h];have:cP (0,0) o n=true:=by simp [cP]
 simp only [this,xe,vW,hv,qm hn,qi]
theorem q4d {H:AHeap} {b m s:Nat} {c:List AV} {e:Nat} (h:H.get b=some (.grown m s c e (0,0))) {o n:Nat} {v:AV} (hv:v.cells.length=n) (hn:o+n<=c.length) (h1:ba v.cells=true) :
 Op.store n [.ptr b o,v] H=some (.undef,H.set b (.grown m s (c.take o++v.cells++c.drop (o+n)) e (0,0))):=by
 have e1:∀ n,Nat.beq n n=true:=λ n=>by simp
 simp only [Op.store,yS,hv,e1,xe,AHeap.store,h1,h];have:cP (0,0) o n=true:=by simp [cP]
 simp only [this,xe,vW,hv,qm hn,qi]
def eB {α:Type} (enc:α->List AV) (e size:Nat) (H:AHeap) (v:AV) (xs:List α):Prop:=Own H e size v xs.length (xs.flatMap enc)
structure o9 {α:Type} (enc:α->List AV) (e size:Nat) (H0 H:AHeap) (v:AV) (xs:List α):Prop where
 own:eB enc e size H v xs
 fr:Fr Em H0 H
 fresh:∀ b,bH v b->H0.next<=b
section
variable {α:Type} {enc:α->List AV} {e size:Nat} {H0 H H':AHeap} {v:AV} {xs:List α}
theorem ep.one (h:ep enc size H v xs):br v=true:=Sl.one h
theorem o9.nil (H:AHeap):o9 enc e size H H .nils ([]:List α):=⟨Own.nil H e size,Fr.refl H,λ b h=>(h.1 rfl).elim⟩
theorem o9.sl (h:o9 enc e size H0 H v xs):ep enc size H v xs:=Own.sl h.own
theorem eB.sl (h:eB enc e size H v xs):ep enc size H v xs:=Own.sl h
theorem o9.em (h:o9 enc e size H0 H v xs) (f:Fr Em H H'):o9 enc e size H0 H' v xs:=⟨Own.em h.own f,h.fr.em f,h.fresh⟩
theorem o9.len (h:o9 enc e size H0 H v xs):Op.bB [v]=some (.int .i64 xs.length):=h.sl.len
theorem o9.step (h:o9 enc e size H0 H v xs) {v':AV} {ys:List α} (h1:eB enc e size H' v' ys) (h2:Fr (bH v) H H') (h3:∀ b,bH v' b->bH v b\/H.next<=b):o9 enc e size H0 H' v' ys :=
 ⟨h1,h.fr.trans h2 λ x hx=>.inr (h.fresh x hx),λ b hb=>(h3 b hb).elim (h.fresh b) λ q=>xt h.fr.next q⟩
theorem KA {f:α->List AV} (hs:∀ x,(f x).length=size):∀ (xs:List α) {i:Nat} {x:α},xs[i]? = some x -> ∀ (y:α),(xs.set i y).flatMap f=(xs.flatMap f).take (i*size)++f y++(xs.flatMap f).drop (i*size+size)
 | [],i,x,h,y=>by simp at h
 | z::zs,0,x,h,y=>by
  simp at h;subst h;simp only [List.set_cons_zero,jt,ve,Dm,zt,yf];rw [kw (by rw [hs];omega),j6 (by rw [hs];omega),zt]
 | z::zs,i+1,x,h,y=>by
  simp only [zq] at h;have e1:(f z++zs.flatMap f).take ((i+1)*size)=f z++(zs.flatMap f).take (i*size):=by
   rw [show (i+1)*size=(f z).length+i*size from by rw [hs,pw];omega,List.take_length_add_append]
  have e2:(f z++zs.flatMap f).drop ((i+1)*size+size)=(zs.flatMap f).drop (i*size+size):=by
   rw [show (i+1)*size+size=(f z).length+(i*size+size) from by rw [hs,pw];omega,List.drop_length_add_append]
  rw [List.set_cons_succ,jt,jt,KA hs zs h y,e1,e2];simp only [zi]
theorem xR (hs:∀ x,(enc x).length=size) (l:List α):(l.flatMap enc).length=l.length*size:=by
 induction l with
 | nil=>simp
 | cons a l ih=>rw [jt,qu,hs,ih,jx,pw];omega
theorem xN {L E:List AV} {k0 j:Nat} {u:AV} (hE:E.length=size) (hj:j<size) (hk:k0+size<=L.length) (h:∀ r,r<size->L[k0+r]? = E[r]?) :
 L.take k0++E.set j u++L.drop (k0+size)=L.set (k0+j) u:=by
 refine kx λ k=>?_;have h1:(L.take k0).length=k0:=by rw [j9];omega
 rw [zi,List.getElem?_set];rcases jp k k0 with q|q
 ·rw [kq (by omega),ku,qm q,qd (by omega)]
 ·rw [jo (by omega),h1];obtain ⟨r,rfl⟩:∃ r,k=k0+r:=⟨k-k0,by omega⟩
  rw [show k0+r-k0=r from by omega];rcases jp r size with q'|q'
  ·rw [kq (by rw [qz];omega),List.getElem?_set]
   by_cases hjr:j=r
   ·subst hjr;rw [qm rfl,qm rfl,qm (by omega),qm (by omega)]
   ·rw [qd hjr,qd (by omega),h r q']
  ·rw [jo (by rw [qz];omega),qz,yb,qd (by omega)];congr 1;omega
end
end Go.Am
namespace Go.Am
theorem pI {k mx d:Nat} {z:Int} (hz:z=k) (h:k<=mx) (kk:IntKind):bound (some (.int kk z)) d mx=some k:=by
 subst hz;show cond (Nat.ble k mx) (some k) none=some k;rw [yo h];rfl
theorem Sl.from {H:AHeap} {size:Nat} {v:AV} {n:Nat} {cells:List AV} (h:Sl H size v n cells) {k:Nat} (hk:k<=n) {z:Int} (hz:z=k) (kk:IntKind) :
 ∃ v',Op.aR size [some 0,none,none] [v,.int kk z]=some v'/\Sl H size v' (n-k) (cells.drop (k*size))/\(v'=.nils\/aM v'=aM v):=by
 obtain ⟨hl,h⟩:=h;have hlen:(cells.drop (k*size)).length=(n-k)*size:=by rw [j8,hl,Nat.sub_mul]
 have hkn:k*size<=n*size:=ki _ hk;have hsub:(n-k)*size=n*size-k*size:=Nat.sub_mul n k size;split at h
 ·subst h;have:k=0:=by omega
  subst this;refine ⟨.nils,?_,⟨hlen,rfl⟩,.inl rfl⟩;have hbn:bound none 0 0=some 0:=rfl;simp [Op.aR,arg,iV,dh,hbn,pI hz (qg 0)]
 ·rename_i b o m c;obtain ⟨rfl,hc,h⟩:=h;have hb1:∀ d m,bound none d m=some d:=λ _ _=>rfl;refine ⟨.slice b (cond (Nat.beq c k) o (o+k*size)) (m-k) (c-k),by simp [Op.aR,arg,iV,dh,hb1,pI hz hk],⟨hlen,rfl,by omega,?_⟩,.inr rfl⟩;rcases h with h|⟨hb,all,h1,h2⟩
  ·left;omega
  ·by_cases he:c=k
   ·left;omega
   ·right;obtain ⟨h3,rfl⟩:=JF h2;refine ⟨hb,all,h1,?_⟩;rw [DI he,zd,oZ,qm (by omega),List.drop_take,BO];simp [hsub]
 ·rename_i b i m s alt q;obtain ⟨rfl,rfl,hm,h⟩:=h;have e1:∀ n,Nat.beq n n=true:=λ n=>by simp
  have hb1:∀ d m,bound none d m=some d:=λ _ _=>rfl;have hq:=yo (show q<=m-i by omega);have him:=yo (show i<=m by omega);refine ⟨.gslice b (i+k) m s (cond (Nat.beq k 0) alt (i*s)) (q-k),by simp only [Op.aR,arg,iV,ji,qi,dh,hb1,pI hz hk,e1,him,hq,jc,xe],⟨hlen,rfl,rfl,by omega,?_⟩,.inr rfl⟩;rcases h with h|⟨hb,all,h1,h2⟩
  ·left;omega
  ·right;obtain ⟨h3,rfl⟩:=JF h2;refine ⟨hb,all,h1,?_⟩;rw [oZ,qm (by rw [kn];omega),List.drop_take,BO,kn];simp [hsub]
 ·rename_i b;obtain ⟨rfl,hb⟩:=h;have:k=0:=by omega
  subst this;have hbn:bound none 0 0=some 0:=rfl;refine ⟨.eslice b,?_,⟨hlen,rfl,hb⟩,.inr rfl⟩;simp [Op.aR,arg,iV,dh,hbn,pI hz (qg 0)]
 ·exact h.elim
section
variable {α:Type} {enc:α->List AV} {size:Nat} {H H':AHeap} {v:AV} {xs:List α}
theorem qsm (hs:∀ x,(enc x).length=size):∀ (xs:List α) (k:Nat),(xs.flatMap enc).drop (k*size)=(xs.drop k).flatMap enc
 | [],k=>by simp
 | x::xs,0=>by simp
 | x::xs,k+1=>by
  rw [jt,show (k+1)*size=(enc x).length+k*size from by rw [hs,pw];omega,List.drop_length_add_append,qsm hs xs k];rfl
theorem ep.from (hs:∀ x,(enc x).length=size) (h:ep enc size H v xs) {k:Nat} (hk:k<=xs.length) {z:Int} (hz:z=k) (kk:IntKind) :
 ∃ v',Op.aR size [some 0,none,none] [v,.int kk z]=some v'/\ep enc size H v' (xs.drop k)/\(v'=.nils\/aM v'=aM v):=by
 obtain ⟨v',h1,h2,h3⟩:=Sl.from h hk hz kk
 refine ⟨v',h1,?_,h3⟩;unfold ep;rw [j8,<-qsm hs];exact h2
def dA (enc:α->List AV) (e size:Nat) (H:AHeap) (v:AV) (xs:List α):Prop:=∃ b,v=.slice b 0 xs.length xs.length/\b<H.next/\H.get b=some (.row (xs.flatMap enc) e (0,0) true)
theorem dA.sl {e:Nat} (hs:∀ x,(enc x).length=size) (h:dA enc e size H v xs):ep enc size H v xs:=by
 obtain ⟨b,rfl,h1,h2⟩:=h;refine ⟨xR hs xs,rfl,qg _,.inr ⟨h1,_,xb h2,?_⟩⟩;rw [oZ,qm (by rw [xR hs];omega),Fu,zw (by rw [xR hs];omega)]
theorem dA.fr {e:Nat} {W:Nat->Prop} (h:dA enc e size H v xs) (f:Fr W H H') (hw:¬ W (aM v)):dA enc e size H' v xs:=by
 obtain ⟨b,rfl,h1,h2⟩:=h;exact ⟨b,rfl,qn h1 f.next,by rw [f.ae b h1 hw];exact h2⟩
theorem dA.lt {e:Nat} (h:dA enc e size H v xs):aM v<H.next:=by
 obtain ⟨b,rfl,h1,h2⟩:=h;exact h1
theorem dA.zC {e:Nat} (hs:∀ x,(enc x).length=size) (h:dA enc e size H v xs) {i:Nat} {x y:α} (hx:xs[i]? = some x) {j:Nat} (hj:j<size) {u:AV} (hu:br u=true) (hy:enc y=(enc x).set j u) :
 ∃ H',Op.store 1 [.ptr (aM v) (cu size v i+j),u] H=some (.undef,H')/\dA enc e size H' v (xs.set i y)/\Fr (On (aM v)) H H':=by
 obtain ⟨b,rfl,h1,h2⟩:=h;have hi:=BM hx;have hl:=xR hs xs;have hb:(i+1)*size<=xs.length*size:=ki _ hi;rw [pw] at hb;have hc:u.cells=[u]:=by cases u<;>first|rfl|cases hu
 have hst:=po h2 (o:=i*size+j) (n:=1) (v:=u) (by rw [hc];rfl) (by omega) (by rw [hc,nU];simpa using hu);have ho:cu size (AV.slice b 0 xs.length xs.length) i=i*size:=by simp [cu]
 rw [ho];refine ⟨_,hst,⟨b,?_,h1,?_⟩,(Fr.refl H).set (W:=On b) (.inl rfl) _⟩
 ·rw [qz]
 ·rw [xd,KA hs xs hx,hy,hc,xN (L:=xs.flatMap enc) (E:=enc x) (hs x) hj (by omega) (λ r hr=>Ey hs xs hx hr),List.set_eq_take_append_cons_drop,qm (by omega)];simp
end
theorem J4 (e bytes:Nat) (z:List AV) (n:Nat) (k k':IntKind) (h:n*bytes<=140737488355328) (h':n<=140737488355328) :
 Op.mkSlice e bytes z [.int k n,.int k' n]=some (.row (dq n z) e (0,0) true,Op.sliceTo n n):=by
 have h1:nd 0 (n:Int)=true:=by rw [yL];simp
 have h2:nd (n:Int) n=true:=by rw [yL];simp
 have h3:nd ((n:Int)*(bytes:Int)) 140737488355328=true:=by rw [yL];simp;omega
 have h4:nd (n:Int) 140737488355328=true:=by rw [yL];simp;omega
 simp [Op.mkSlice,h1,h2,h3,h4]
end Go.Am
namespace Go.Am
theorem q4i {tm:T AV} {x:bD} {K K':AV->Prop} (h:wQ tm x K) (hk:∀ v,K v->K' v):wQ tm x K':=by
 obtain ⟨v,h1,h2⟩:=h.elim;cases x with
 | tmp t=>simp only [lg] at h1;simp only [wQ,bu,h1];exact hk v h2
 | const c=>injection h1 with h1;subst h1;exact hk _ h2
 | c8 c=>injection h1 with h1;subst h1;exact hk _ h2
 | func c=>injection h1 with h1;subst h1;exact hk _ h2
theorem A9 {tm:T AV}:∀ {l:List bD} {K K':List AV->Prop},kC tm l K->(∀ v,K v->K' v)->kC tm l K'
 | [],K,K',h,hk=>hk _ h
 | .tmp t::xs,K,K',h,hk=>by
  simp only [kC] at h ⊢;unfold bu at h ⊢;split at h
  ·exact A9 h λ vs=>hk _
  ·exact h.elim
 | .const v::xs,K,K',h,hk=>A9 (l:=xs) h λ vs=>hk _
 | .c8 v::xs,K,K',h,hk=>A9 (l:=xs) h λ vs=>hk _
 | .func v::xs,K,K',h,hk=>A9 (l:=xs) h λ vs=>hk _
theorem wN {α:Type} {m:Bool} {o:Option α} {K K':α->Prop} (h:bu m o K) (hk:∀ a,K a->K' a):bu m o K':=by
 cases o with
 | none=>exact h
 | some a=>exact hk a h
theorem qxx {α β:Type} {m:Bool} {o:Option (α × β)} {K K':α -> β->Prop} (h:eV m o K) (hk:∀ a b,K a b->K' a b):eV m o K':=by
 cases o with
 | none=>exact h
 | some a=>exact hk a.1 a.2 h
section
variable {AP:aO}
theorem JZ {m:Bool} {f:fj} {vs:List AV} {H:AHeap} {K K':AV->AHeap->Prop} {E E':aC->AHeap->Prop} (h:gW AP m f vs H K E) (hk:∀ v H,K v H->K' v H) (he:∀ c H,E c H->E' c H):gW AP m f vs H K' E':=by
 obtain ⟨e,H',h1,h2⟩:=h;refine ⟨e,H',h1,?_⟩;cases e with
 | ret v=>exact hk _ _ h2
 | panic c=>exact he _ _ h2
theorem HU {ps:Option (List Nat)} {tm:T AV} {aT:List aL} {up:Option aC} {Q Q':bX} (hq:∀ e st,Q e st->Q' e st) (c:aC) (H:AHeap) (h:wE ps tm aT up Q c H):wE ps tm aT up Q' c H:=by
 cases ps with
 | none=>exact h
 | some ds=>exact hq _ _ h
theorem q4k {ctx:Ctx} {dst:Option Nat} {ps:Option (List Nat)} {st:St} {Q Q':bX} {K K':St->Prop} {vs:List AV} {op:dL} (h:kA AP ctx dst ps st Q K vs op) (hq:∀ e st,Q e st->Q' e st) (hk:∀ st,K st->K' st):kA AP ctx dst ps st Q' K' vs op:=by
 cases op with
 | pure f=>exact wN (m:=aB) h λ _=>hk _
 | read f=>exact wN (m:=aB) h λ _=>hk _
 | alloc f=>simp only [kA] at h ⊢;exact qxx h λ _ _=>hk _
 | eF f=>simp only [kA] at h ⊢;exact qxx h λ _ _=>hk _
 | eM f=>exact JZ (m:=aB) h (λ _ _=>hk _) (HU hq)
 | eL =>
  simp only [kA,Du] at h ⊢;split at h
  ·exact JZ h (λ _ _=>hk _) (HU hq)
  ·exact JZ h (λ _ _=>hk _) (HU hq)
  ·exact h.elim
 | invoke n =>
  simp only [kA,EL] at h ⊢;split at h
  ·exact wN h λ _ q=>JZ q (λ _ _=>hk _) (HU hq)
  ·exact h.elim
 | recover =>
  simp only [kA,nJ] at h ⊢;split at h
  ·refine ⟨h.1,?_⟩;have h2:=h.2;split at h2<;>exact hk _ h2
  ·exact h.elim
 | defer =>
  simp only [kA,sX] at h ⊢;refine ⟨h.1,?_⟩;have h2:=h.2;split at h2
  ·exact hk _ h2
  ·exact h2.elim
 | panic =>
  simp only [kA,dW] at h ⊢;split at h
  ·exact HU hq _ _ h
  ·exact h.elim
theorem q7v {ctx:Ctx} {s:aV} {st:St} {Q Q':bX} {K K':St->Prop} (h:oK AP ctx s st Q K) (hq:∀ e st,Q e st->Q' e st) (hk:∀ st,K st->K' st):oK AP ctx s st Q' K':=by
 obtain ⟨eN,dst,guard,args,op,ps⟩:=s;cases eN with
 | false =>
  cases guard with
  | none=>exact A9 h λ _ q=>q4k q hq hk
  | some g =>
   refine wN (m:=aB) h λ w q=>?_;cases w with
   | true=>exact A9 (K:=_) q λ _ q=>q4k q hq hk
   | false=>exact hk _ q
 | true =>
  cases guard with
  | none=>exact A9 h λ _ q=>⟨q.1,hk _ q.2⟩
  | some g =>
   refine wN (m:=aB) h λ w q=>?_;cases w with
   | true=>exact A9 (K:=_) q λ _ q=>⟨q.1,hk _ q.2⟩
   | false=>exact ⟨q.1,hk _ q.2⟩
theorem q4l {ctx:Ctx}:∀ {l:List aV} {st:St} {Q Q':bX},lH AP ctx l st Q->(∀ e st,Q e st->Q' e st)->lH AP ctx l st Q'
 | [],st,Q,Q',h,hq=>hq _ _ h
 | s::rest,st,Q,Q',h,hq=>q7v h hq λ st' h'=>q4l h' hq
theorem FZ {ctx:Ctx} {st:St} {k:Nat} {H0:AHeap} {aT:List aL} {d:Nat} {Q Q':bX} {v:AV} (h:ig AP ctx st k H0 aT d Q v) (hq:∀ e st,Q e st->Q' e st):ig AP ctx st k H0 aT d Q' v:=by
 unfold ig at h ⊢;split at h
 ·obtain ⟨e,H',h1,h2⟩:=h;refine ⟨e,H',h1,?_⟩;cases e with
  | panic c=>exact hq _ _ h2
  | ret v=>obtain ⟨s,p,f,k,tm,d,q1,q2,q3⟩:=h2;exact ⟨s,p,f,k,tm,d,q1,q2,hq _ _ q3⟩
 ·exact h.elim
theorem mi {ctx:Ctx}:∀ {c:ah} {st:St} {Q Q':bX},WP AP ctx c st Q->(∀ e st,Q e st->Q' e st)->WP AP ctx c st Q'
 | .skip,st,Q,Q',h,hq=>hq _ _ h
 | .label _,st,Q,Q',h,hq=>hq _ _ h
 | .exit _,st,Q,Q',h,hq=>hq _ _ h
 | .goto _,st,Q,Q',h,hq=>hq _ _ h
 | .ret,st,Q,Q',h,hq=>hq _ _ h
 | .stuck,st,Q,Q',h,hq=>h.elim
 | .region l,st,Q,Q',h,hq=>q4l h hq
 | .seq a b,st,Q,Q',h,hq=>mi (c:=a) h λ e st' h'=>by
  cases e with
  | normal=>exact mi (c:=b) h' hq
  | exit _=>exact hq _ _ h'
  | goto _=>exact hq _ _ h'
  | ret=>exact hq _ _ h'
  | panic _=>exact hq _ _ h'
 | .cond c a b,st,Q,Q',h,hq=>q4i h λ v q=>wN (m:=aB) q λ w q=>by
  cases w with
  | true=>exact mi (c:=a) q hq
  | false=>exact mi (c:=b) q hq
 | .block id b,st,Q,Q',h,hq=>mi (c:=b) h λ e st' h'=>by cases e<;>exact hq _ _ h'
 | .scope b,st,Q,Q',h,hq=>mi (c:=b) h λ e st' h'=>by
  cases e with
  | goto l=>exact ⟨h'.1,hq _ _ h'.2⟩
  | normal=>exact hq _ _ h'
  | exit _=>exact hq _ _ h'
  | ret=>exact hq _ _ h'
  | panic _=>exact hq _ _ h'
 | .loop ae b,st,Q,Q',⟨I,h0,h⟩,hq=>⟨I,h0,λ n st hi=>mi (c:=b) (h n st hi) λ e st' h'=>by cases e<;>first|exact h'|exact hq _ _ h'⟩
 | .rangeFunc f k,st,Q,Q',h,hq=>q4i h λ v q=>by
  unfold Bl at q ⊢;split at q
  ·exact FZ q hq
  ·exact wN (m:=aB) q λ d q=>FZ q hq
def dI:aF->Prop
 | .exit _=>True
 | .goto _=>True
 | .ret=>True
 | _=>False
end
end Go.Am
namespace Go.Am
noncomputable section
abbrev aJ:=aF->Env->List aL->AHeap->Prop
def lk (E:Env) (t:Nat):Option AV:=List.rec (motive:=λ _=>Option AV) none (λ p _ ih=>cond (Nat.beq p.1 t) (some p.2) ih) E
theorem vR (t:Nat):lk [] t=none:=rfl
theorem ou (k t:Nat) (v:AV) (E:Env):lk ((k,v)::E) t=if k=t then some v else lk E t:=by
 show cond (Nat.beq k t) (some v) (lk E t)=_;cases hb:Nat.beq k t with
 | true=>rw [qm (Nat.eq_of_beq_eq_true hb)];rfl
 | false=>rw [qd (Iq hb)];rfl
def bQ (t:Nat) (l:List Nat):Bool:=List.rec (motive:=λ _=>Bool) false (λ x _ ih=>cond (Nat.beq x t) true ih) l
def dC (ks:List Nat) (E:Env) (tm:T AV):Prop:=∀ t v,lk E t=some v->tm.get t=some v/\bQ t ks=true
def mX:Env->Env->Prop
 | [],_=>True
 | (k,v)::r,E=>lk E k=some v/\mX r E
theorem wW (E:Env):mX [] E=True:=rfl
theorem si (k:Nat) (v:AV) (r E:Env):mX ((k,v)::r) E=(lk E k=some v/\mX r E):=rfl
theorem mX.look:∀ {A E:Env},mX A E -> ∀ {t:Nat} {v:AV},lk A t=some v->lk E t=some v
 | [],E,_,t,v,h=>by cases h
 | (k,w)::r,E,h,t,v,hl=>by
  rw [ou] at hl;split at hl
  ·rename_i e;subst e;injection hl with hl;subst hl;exact h.1
  ·exact mX.look h.2 hl
theorem mX.sub {ks:List Nat} {A E:Env} (h:mX A E) {tm:T AV} (he:dC ks E tm):dC ks A tm:=λ t v hl=>he t v (h.look hl)
def SS (A E:Env):Prop:=∀ t v,lk A t=some v->lk E t=some v
theorem mX.ss {A E:Env} (h:mX A E):SS A E:=λ t v hl=>h.look hl
theorem SS.sub {ks:List Nat} {A E:Env} (h:SS A E) {tm:T AV} (he:dC ks E tm):dC ks A tm:=λ t v hl=>he t v (h t v hl)
theorem SS.refl (E:Env):SS E E:=λ _ _ h=>h
def B3 {α:Type} (m:Bool) (o:Option α) (K:Bool -> α->Prop):Prop:=match o with
 | some a=>K m a
 | none=>False
def bf {α β:Type} (m:Bool) (o:Option (α × β)) (K:Bool -> α -> β->Prop):Prop:=match o with
 | some a=>K m a.1 a.2
 | none=>False
def bF (m:Bool) (v:AV) (A B:Bool->Prop):Prop:=match v with
 | .bool q=>match q with
  | true=>A m
  | false=>B m
 | _=>False
def cF (m:Bool) (q:Bool) (A B:Bool->Prop):Prop:=match q with
 | true=>A m
 | false=>B m
def rq (m:Bool) (o o':Option AV) (K:Bool->Prop):Prop:=(∃ v,o=some v/\o'=some v)/\K m
def A3 (m:Bool) (e:Nat) (z:List AV) (H:AHeap) (K:Bool->AV->AHeap->Prop):Prop:=K m (.ptr H.next 0) (H.alloc (.row z e (0,0) true))
def JN {α:Type} (F:α->Prop) (K:α):Prop:=F K
def az (m:Bool) (Q:aJ) (e:aF) (E:Env) (D:List aL) (H:AHeap):Prop:=Q e E D H
theorem xQ {α:Type} (a:α) (K:Bool -> α->Prop):B3 true (some a) K=K true a:=propext j5
theorem tQ {α β:Type} (a:α) (b:β) (K:Bool -> α -> β->Prop):bf true (some (a,b)) K=K true a b:=propext j5
theorem vT (A B:Bool->Prop):bF true (.bool true) A B=A true:=propext j5
theorem q7m (A B:Bool->Prop):bF true (.bool false) A B=B true:=propext j5
theorem sM (A B:Bool->Prop):cF true true A B=A true:=propext j5
theorem q7n (A B:Bool->Prop):cF true false A B=B true:=propext j5
theorem Jx (v:AV) (K:Bool->Prop):rq true (some v) (some v) K=K true:=propext ⟨λ h=>h.2,λ h=>⟨⟨v,rfl,rfl⟩,h⟩⟩
theorem GO (e:Nat) (z:List AV) (H:AHeap) (K:Bool->AV->AHeap->Prop):A3 true e z H K=K true (.ptr H.next 0) (H.alloc (.row z e (0,0) true)):=propext j5
theorem qh {α:Type} (F:α->Prop) (K:α):JN F K=F K:=propext j5
theorem uf (Q:aJ) (e:aF) (E:Env) (D:List aL) (H:AHeap):az true Q e E D H=Q e E D H:=propext j5
@[congr] theorem G8 {α:Type} {m m':Bool} {o o':Option α} {K:Bool -> α->Prop} (hm:m=m') (h:o=o'):B3 m o K=B3 m' o' K:=by subst hm;subst h;rfl
@[congr] theorem Gf {α β:Type} {m m':Bool} {o o':Option (α × β)} {K:Bool -> α -> β->Prop} (hm:m=m') (h:o=o'):bf m o K=bf m' o' K:=by subst hm;subst h;rfl
@[congr] theorem Ga {m m':Bool} {v v':AV} {A B:Bool->Prop} (hm:m=m') (h:v=v'):bF m v A B=bF m' v' A B:=by subst hm;subst h;rfl
@[congr] theorem Fm {m m':Bool} {v v':Bool} {A B:Bool->Prop} (hm:m=m') (h:v=v'):cF m v A B=cF m' v' A B:=by subst hm;subst h;rfl
@[congr] theorem Fe {m m':Bool} {o o' p p':Option AV} {K:Bool->Prop} (hm:m=m') (h:o=o') (h':p=p'):rq m o p K=rq m' o' p' K:=by subst hm;subst h;subst h';rfl
@[congr] theorem HB {m m':Bool} {e:Nat} {z z':List AV} {H H':AHeap} {K:Bool->AV->AHeap->Prop} (hm:m=m') (h:z=z') (h':H=H'):A3 m e z H K=A3 m' e z' H' K:=by subst hm;subst h;subst h';rfl
theorem B3.elim {α:Type} {m:Bool} {o:Option α} {K:Bool -> α->Prop} (h:B3 m o K):∃ a,o=some a/\K m a:=by
 cases o with
 | none=>exact False.elim h
 | some a=>exact ⟨a,rfl,h⟩
theorem bf.elim {α β:Type} {m:Bool} {o:Option (α × β)} {K:Bool -> α -> β->Prop} (h:bf m o K):∃ a b,o=some (a,b)/\K m a b:=by
 cases o with
 | none=>exact False.elim h
 | some a=>exact ⟨a.1,a.2,rfl,h⟩
theorem LK.elim {α:Type} {m:Bool} {o:Option α} {K:Bool -> α->Prop} (h:LK m o K):∃ a,o=some a/\K m a:=by
 cases o with
 | none=>exact False.elim h
 | some a=>exact ⟨a,rfl,h⟩
theorem B3.intro {α:Type} {m:Bool} {o:Option α} {K:Bool -> α->Prop} {a:α} (h:o=some a) (hk:K m a):B3 m o K:=by subst h;exact hk
theorem bf.intro {α β:Type} {m:Bool} {o:Option (α × β)} {K:Bool -> α -> β->Prop} {a:α} {b:β} (h:o=some (a,b)) (hk:K m a b):bf m o K:=by subst h;exact hk
theorem bF.cases {m:Bool} {q:Bool} {A B:Bool->Prop} (h1:q=true->A m) (h2:q=false->B m):bF m (.bool q) A B:=by
 cases q with
 | true=>exact h1 rfl
 | false=>exact h2 rfl
theorem cF.cases {m:Bool} {q:Bool} {A B:Bool->Prop} (h1:q=true->A m) (h2:q=false->B m):cF m q A B:=by
 cases q with
 | true=>exact h1 rfl
 | false=>exact h2 rfl
theorem bF.elim {m:Bool} {v:AV} {A B:Bool->Prop} (h:bF m v A B):∃ q,v=.bool q/\(match q with|true=>A m|false=>B m):=by
 unfold bF at h;split at h
 ·exact ⟨_,rfl,h⟩
 ·exact h.elim
section
variable (M:aO)
structure Kp where
 ae:List Nat
 ct:Bool
 named:List Nat
def c7 (K:List Nat) (E L:Env):Env:=List.rec (motive:=λ _=>Env) E (λ p _ ih=>cond (bQ p.1 K) (p::ih) ih) L
def lS (ds:List Nat) (E:Env):Env:=List.rec (motive:=λ _=>Env) [] (λ p _ ih=>cond (bQ p.1 ds) ih (p::ih)) E
def iL (L:Env):List Nat:=List.rec (motive:=λ _=>List Nat) [] (λ p _ ih=>p.1::ih) L
abbrev KR:=Bool->Env->Env->AHeap->Prop
def TV (E L R:Env) (t:Nat) (g:Bool) (K:Bool->Env->AV->Prop):Prop :=
 Option.rec (motive:=λ _=>Prop) (Option.rec (motive:=λ _=>Prop) (LK g (lk E t) λ g v=>K g ((t,v)::R) v) (λ v=>K g R v) (lk R t)) (λ v=>K g R v) (lk L t)
def pS (E L:Env) (l:List bD):Bool->Env->(Bool->Env->List AV->Prop)->Prop:=List.rec (motive:=λ _=>Bool->Env->(Bool->Env->List AV->Prop)->Prop) (λ g R K=>K g R [])
 (λ x _ ih g R K=>bD.casesOn x (λ t=>TV E L R t g λ g R v=>ih g R λ g R vs=>K g R (v::vs)) (λ v=>ih g R λ g R vs=>K g R (v::vs)) (λ b=>ih g R λ g R vs=>K g R (.ptr b 0::vs)) (λ f=>ih g R λ g R vs=>K g R (.fn (.func f) [] []::vs))) l
def C3 (m:Bool) (f:fj) (vs:List AV) (H:AHeap) (K:Bool->AV->AHeap->Prop):Prop:=∃ v H',nQ M f vs H (.ret v) H'/\K m v H'
def P3 (m:Bool) (X:aC->AHeap->Prop) (f:fj) (vs:List AV) (H:AHeap) (K:Bool->AV->AHeap->Prop):Prop:=∃ e H',nQ M f vs H e H'/\match e with
 | .ret v=>K m v H'
 | .panic c=>X c H'
@[congr] theorem II {M:aO} {m m':Bool} {f f':fj} {vs vs':List AV} {H H':AHeap} {K:Bool->AV->AHeap->Prop} (hm:m=m') (hf:f=f') (h:vs=vs') (h':H=H'):C3 M m f vs H K=C3 M m' f' vs' H' K:=by subst hm;subst h;subst hf;subst h';rfl
@[congr] theorem Gz {M:aO} {m m':Bool} {X:aC->AHeap->Prop} {f f':fj} {vs vs':List AV} {H H':AHeap} {K:Bool->AV->AHeap->Prop} (hm:m=m') (hf:f=f') (h:vs=vs') (h':H=H'):P3 M m X f vs H K=P3 M m' X f' vs' H' K:=by subst hm;subst h;subst hf;subst h';rfl
def V3 (m:Bool) (vs:List AV) (K:Bool->fj->List AV->Prop):Prop:=match vs with
 | .fn (.func g) first cap::args=>K m (.func g) (first++(args++cap))
 | .fn (.yield l) first []::args=>K m (.yield l) (first++args)
 | _=>False
@[congr] theorem Il {m m':Bool} {vs vs':List AV} {K:Bool->fj->List AV->Prop} (hm:m=m') (h:vs=vs'):V3 m vs K=V3 m' vs' K:=by subst hm;subst h;rfl
theorem xI (g:Nat) (first cap args:List AV) (K:Bool->fj->List AV->Prop):V3 true (.fn (.func g) first cap::args) K=K true (.func g) (first++(args++cap)):=propext j5
theorem vN (l:Nat) (first args:List AV) (K:Bool->fj->List AV->Prop):V3 true (.fn (.yield l) first []::args) K=K true (.yield l) (first++args):=propext j5
def N3 (m:Bool) (name:String) (vs:List AV) (K:Bool->fj->List AV->Prop):Prop:=match vs with
 | .iface t v::args=>B3 m (M.lI t name) λ m g=>K m (.func g) (v::args)
 | _=>False
@[congr] theorem Gr {M:aO} {m m':Bool} {name:String} {vs vs':List AV} {K:Bool->fj->List AV->Prop} (hm:m=m') (h:vs=vs'):N3 M m name vs K=N3 M m' name vs' K:=by subst hm;subst h;rfl
theorem rK (name:String) (t:Nat) (v:AV) (args:List AV) (K:Bool->fj->List AV->Prop):N3 M true name (.iface t v::args) K=B3 true (M.lI t name) λ m g=>K m (.func g) (v::args):=propext j5
def PX (ps:Option (List Nat)) (ks:List Nat) (Q:aJ) (E:Env) (D:List aL) (c:aC) (H:AHeap):Prop:=match ps with
 | some ds=>Q (.panic c) (lS ds (lS ks E)) D H
 | none=>False
def vB (ct:Bool) (ps:Option (List Nat)) (L:Env) (Q:aJ) (E:Env) (D:List aL) (g:Bool) (f:fj) (vs:List AV) (H:AHeap) (K:Bool->AV->AHeap->Prop):Prop :=
 cond ct (P3 M g (PX ps (iL L) Q E D) f vs H K) (C3 M g f vs H K)
def nY (ct:Bool) (dst:Option Nat) (ps:Option (List Nat)) (Q:aJ) (E:Env) (D:List aL) (L R:Env) (H:AHeap) (K:KR) (g:Bool) (vs:List AV):dL->Prop
 | .pure f=>B3 g (f vs) λ g v=>K g (lj dst v L) R H
 | .read f=>B3 g (f vs H) λ g v=>K g (lj dst v L) R H
 | .alloc f=>bf g (f vs) λ g o mk=>K g (lj dst (mk H.next) L) R (H.alloc o)
 | .eF f=>bf g (f vs H) λ g v H=>K g (lj dst v L) R H
 | .eM f=>vB M ct ps L Q E D g (.func f) vs H (λ g v H=>K g (lj dst v L) R H)
 | .eL=>V3 g vs λ g f vs=>vB M ct ps L Q E D g f vs H (λ g v H=>K g (lj dst v L) R H)
 | .invoke name=>N3 M g name vs λ g f vs=>vB M ct ps L Q E D g f vs H (λ g v H=>K g (lj dst v L) R H)
 | .panic=>cond ct (dW vs H (PX ps (iL L) Q E D)) False
 | _=>False
def NP (L E:Env) (d:Nat):Option AV:=Option.rec (motive:=λ _=>Option AV) (lk E d) (λ v=>some v) (lk L d)
def J2 (dst:Option Nat) (E L R:Env) (H:AHeap) (K:KR) (g:Bool) (vs:List AV):dL->Prop
 | .read f=>match dst with
  | some d=>rq g (f vs H) (NP L E d) λ g=>K g L R H
  | none=>False
 | _=>False
def vY (ct:Bool) (s:aV) (Q:aJ) (E:Env) (D:List aL) (K:KR):KR:=λ g L R H =>
 pS E L s.args g R λ g R vs=>match s.eN with
  | false=>nY M ct s.dst s.bR Q E D L R H K g vs s.op
  | true=>J2 s.dst E L R H K g vs s.op
def jY (ct:Bool) (Q:aJ) (E:Env) (D:List aL) (K:KR) (l:List aV):KR:=List.rec (motive:=λ _=>KR) K (λ s _ ih=>vY M ct s Q E D ih) l
abbrev xP:=Option (Nat × Bool) × List aV
def mo:Option (Nat × Bool)->Option (Nat × Bool)->Bool
 | none,none=>true
 | some (t,b),some (u,c)=>cond (Nat.beq t u) (cond b c (!c)) false
 | _,_=>false
def Ep (l:List aV):List xP:=List.rec (motive:=λ _=>List xP) [] (λ s _ ih=>List.casesOn (motive:=λ _=>List xP) ih [(s.guard,[s])] λ g r=>cond (mo g.1 s.guard) ((g.1,s::g.2)::r) ((s.guard,[s])::g::r)) l
def Dc (o:Option Nat) (t:Nat):Bool:=Option.rec (motive:=λ _=>Bool) false (λ d=>Nat.beq d t) o
def pj (t:Nat) (l:List aV):Bool:=List.rec (motive:=λ _=>Bool) true (λ s _ ih=>cond (Dc s.dst t) false (cond s.eN (cond s.dst.isSome ih false) ih)) l
def CT (n:Nat):Type:=Nat.rec (motive:=λ _=>Type) (AHeap->Prop) (λ _ T=>AV->T) n
def kE (n:Nat):(List AV->AHeap->Prop)->CT n:=Nat.rec (motive:=λ n=>(List AV->AHeap->Prop)->CT n) (λ f=>f []) (λ _ ih f v=>ih λ l=>f (v::l)) n
def jO (n:Nat):CT n->List AV->AHeap->Prop:=Nat.rec (motive:=λ n=>CT n->List AV->AHeap->Prop) (λ k _=>k) (λ _ ih k l=>List.casesOn (motive:=λ _=>AHeap->Prop) l (λ _=>False) λ v l=>ih (k v) l) n
def bq (l:List aV):List Nat->List Nat:=List.rec (motive:=λ _=>List Nat->List Nat) (λ acc=>acc) (λ s _ ih acc=>ih (cond s.eN acc (Option.rec (motive:=λ _=>List Nat) acc (λ d=>d::acc) s.dst))) l
def gJ (ks:List Nat) (L:Env):List AV->Env:=List.rec (motive:=λ _=>List AV->Env) (λ _=>L) (λ k _ ih l=>List.casesOn (motive:=λ _=>Env) l L λ v l=>(k,v)::ih l) ks
def lW (n:Nat):Env->List AV:=Nat.rec (motive:=λ _=>Env->List AV) (λ _=>[]) (λ _ ih L=>List.casesOn (motive:=λ _=>List AV) L [] λ p L=>p.2::ih L) n
def mM (n:Nat):List AV:=Nat.rec (motive:=λ _=>List AV) [] (λ _ ih=>.undef::ih) n
def Jc (ct:Bool) (Q:aJ) (E:Env) (D:List aL) (x:xP) (K:KR):KR:=λ g L R H=>match x.1 with
 | none=>jY M ct Q E D K x.2 g L R H
 | some q=>cond (pj q.1 x.2) (TV E L R q.1 g λ g R v=>JN (α:=Bool->CT (cz (bq x.2 [])))
  (λ k=>B3 g (aE q.2 (some v)) λ g w=>cF g w (λ g=>jY M ct Q E D (λ g L _ H=>jO (cz (bq x.2 [])) (k g) (lW (cz (bq x.2 [])) L) H) x.2 g L R H) (λ g=>jO (cz (bq x.2 [])) (k g) (mM (cz (bq x.2 []))) H))
  (λ g=>kE (cz (bq x.2 [])) λ vs H=>K g (gJ (bq x.2 []) L vs) R H)) False
def qR (ct:Bool) (Q:aJ) (E:Env) (D:List aL) (K:KR) (l:List xP):KR:=List.rec (motive:=λ _=>KR) K (λ x _ ih=>Jc M ct Q E D x ih) l
def mb (ct:Bool) (Q:aJ) (E:Env) (D:List aL) (l:List aV) (g:Bool) (H:AHeap) (K:KR):Prop:=qR M ct Q E D K (Ep l) g [] [] H
abbrev WX:=Bool->aJ->Env->List aL->AHeap->Prop
def ao (X:WX) (Q:aJ):aJ:=λ e E D H=>match e with
 | .normal=>X true Q E D H
 | e=>Q e E D H
def aK (id:Nat) (Q:aJ):aJ:=λ e E D H=>match e with
 | .exit id'=>Q (cond (Nat.beq id id') .normal (.exit id')) E D H
 | e=>Q e E D H
def oi (b:ah) (Q:aJ):aJ:=λ e E D H=>match e with
 | .goto l=>wD b l=false/\Q (.goto l) E D H
 | e=>Q e E D H
abbrev CL:=Nat->Env->List aL->AHeap->Prop
def LP3 (I:CL) (n:Nat) (Q:aJ):aJ:=λ e E D H=>match e with
 | .normal=>∃ m E',I m E' D H/\SS E' E/\m<n
 | e=>Q e E D H
def bG (X:WX) (Q:aJ) (E:Env) (D:List aL) (H:AHeap):Prop :=
 ∃ I:CL,(∃ n E0,I n E0 D H/\SS E0 E) /\ ∀ n E D H,I n E D H->X true (LP3 I n Q) E D H
def fw (ks:List Nat) (ctx:Ctx) (k:Nat) (E:Env) (D:List aL) (H:AHeap) (Q:aJ) (v:AV):Prop :=
 ∀ tm up,dC ks E tm->Bl M ctx k ⟨tm,D,up,H⟩ (λ e st=>st.up=up/\st.tm=tm/\Q e E st.aT st.H) v
def OV (E:Env) (x:bD) (g:Bool) (K:Bool->AV->Prop):Prop:=match x with
 | .tmp t=>LK g (lk E t) K
 | .const v=>K g v
 | .c8 b=>K g (.ptr b 0)
 | .func f=>K g (.fn (.func f) [] [])
def CV (E L R:Env) (x:bD) (g:Bool) (K:Bool->AV->Prop):Prop:=match x with
 | .tmp t=>TV E L R t g λ g _ v=>K g v
 | .const v=>K g v
 | .c8 b=>K g (.ptr b 0)
 | .func f=>K g (.fn (.func f) [] [])
def W3 (ctx:Ctx) (K:Kp):ah->Bool->aJ->Env->List aL->AHeap->Prop
 | .skip,g,Q,E,D,H=>az g Q .normal E D H
 | .label _,g,Q,E,D,H=>az g Q .normal E D H
 | .exit id,g,Q,E,D,H=>az g Q (.exit id) E D H
 | .goto l,g,Q,E,D,H=>az g Q (.goto l) E D H
 | .ret,g,Q,E,D,H=>az g Q .ret E D H
 | .stuck,_,_,_,_,_=>False
 | .region l,g,Q,E,D,H=>mb M K.ct Q E D l g H λ g L _ H=>az g Q .normal (c7 K.ae E L) D H
 | .seq a b,g,Q,E,D,H=>match a,b with
  | .region l,.cond c x y=>mb M K.ct Q E D l g H λ g L R H=>CV E L R c g λ g v=>bF g v (λ g=>W3 ctx K x g Q (c7 K.ae E L) D H) (λ g=>W3 ctx K y g Q (c7 K.ae E L) D H)
  | .region l,.seq (.cond c x y) r=>mb M K.ct Q E D l g H λ g L R H=>CV E L R c g λ g v=>bF g v (λ g=>W3 ctx K x g (ao (W3 ctx K r) Q) (c7 K.ae E L) D H) (λ g=>W3 ctx K y g (ao (W3 ctx K r) Q) (c7 K.ae E L) D H)
  | .region l,b=>mb M K.ct Q E D l g H λ g L _ H=>W3 ctx K b g Q (c7 K.ae E L) D H
  | a,b=>W3 ctx K a g (ao (W3 ctx K b) Q) E D H
 | .cond c x y,g,Q,E,D,H=>OV E c g λ g v=>bF g v (λ g=>W3 ctx K x g Q E D H) (λ g=>W3 ctx K y g Q E D H)
 | .block id b,g,Q,E,D,H=>W3 ctx K b g (aK id Q) E D H
 | .scope b,g,Q,E,D,H=>W3 ctx K b g (oi b Q) E D H
 | .loop (some _) _,_,_,_,_,_=>False
 | .loop none b,g,Q,E,D,H=>bG (W3 ctx K b) Q E D H
 | .rangeFunc f k,g,Q,E,D,H=>OV E f g λ g v=>fw M K.ae ctx k E D H Q v
end
structure gH (E L R:Env) (tm:T AV):Prop where
 l:∀ t v,lk L t=some v->tm.get t=some v
 r:∀ t v,lk L t=none->lk R t=some v->tm.get t=some v
 e:∀ t v,lk L t=none->lk E t=some v->tm.get t=some v
theorem gH.first {ks:List Nat} {E:Env} {tm:T AV} (h:dC ks E tm):gH E [] [] tm:=⟨λ _ _ h=>(by cases h),λ _ _ _ h=>(by cases h),λ t v _ hv=>(h t v hv).1⟩
theorem gH.put {E L R:Env} {tm:T AV} (h:gH E L R tm) (dst:Option Nat) (v:AV):gH E (lj dst v L) R (cV dst v tm):=by
 cases dst with
 | none=>exact h
 | some d =>
  show gH E ((d,v)::L) R (tm.set d v);refine ⟨λ t w hw=>?_,λ t w hn hw=>?_,λ t w hn hw=>?_⟩
  ·rw [ou] at hw;rw [T.aI];split at hw
   ·rename_i e;rw [qm e];exact hw
   ·rename_i e;rw [qd e];exact h.l t w hw
  ·rw [ou] at hn;rw [T.aI];split at hn
   ·cases hn
   ·rename_i e;rw [qd e];exact h.r t w hn hw
  ·rw [ou] at hn;rw [T.aI];split at hn
   ·cases hn
   ·rename_i e;rw [qd e];exact h.e t w hn hw
theorem TV.elim {E L R:Env} {t:Nat} {g:Bool} {K:Bool->Env->AV->Prop} {tm:T AV} (hr:gH E L R tm) (h:TV E L R t g K):∃ v R',tm.get t=some v/\gH E L R' tm/\K g R' v:=by
 unfold TV at h;cases hl:lk L t with
 | some v=>rw [hl] at h;exact ⟨v,R,hr.l t v hl,hr,h⟩
 | none =>
  rw [hl] at h;cases hq:lk R t with
  | some v=>rw [hq] at h;exact ⟨v,R,hr.r t v hl hq,hr,h⟩
  | none =>
   rw [hq] at h;obtain ⟨v,hv,h⟩:=LK.elim h;refine ⟨v,_,hr.e t v hl hv,⟨hr.l,λ u w hn hw=>?_,hr.e⟩,h⟩;rw [ou] at hw;split at hw
   ·rename_i e;subst e;injection hw with hw;subst hw;exact hr.e t v hl hv
   ·exact hr.r u w hn hw
theorem FH {tm:T AV}:∀ {l:List bD} {vs:List AV} {K:List AV->Prop},gR tm l=some vs->K vs->kC tm l K
 | [],vs,K,h,hk=>by injection h with h;subst h;exact hk
 | x::xs,vs,K,h,hk=>by
  simp only [gR,qb] at h;obtain ⟨v,h1,ws,h2,h3⟩:=h;injection h3 with h3;subst h3
  cases x with
  | tmp t=>exact bu.intro (m:=aB) h1 (FH h2 hk)
  | const c=>injection h1 with h1;subst h1;exact FH (K:=λ vs=>K (c::vs)) h2 hk
  | c8 c=>injection h1 with h1;subst h1;exact FH (K:=λ vs=>K (_::vs)) h2 hk
  | func c=>injection h1 with h1;subst h1;exact FH (K:=λ vs=>K (_::vs)) h2 hk
theorem pS.elim {E L:Env} {tm:T AV} {g:Bool}:∀ {l:List bD} {R:Env} {K:Bool->Env->List AV->Prop},gH E L R tm->pS E L l g R K -> ∃ vs R',gR tm l=some vs/\gH E L R' tm/\K g R' vs
 | [],R,K,hr,h=>⟨[],R,rfl,hr,h⟩
 | .tmp t::xs,R,K,hr,h=>by
  obtain ⟨v,R1,h1,hr1,h⟩:=TV.elim hr (show TV E L R t g (λ g R v=>pS E L xs g R λ g R vs=>K g R (v::vs)) from h);obtain ⟨vs,R2,h2,hr2,h⟩:=pS.elim hr1 h;exact ⟨v::vs,R2,by simp [gR,lg,h1,h2],hr2,h⟩
 | .const v::xs,R,K,hr,h=>by
  obtain ⟨vs,R2,h2,hr2,h⟩:=pS.elim (l:=xs) hr h;exact ⟨v::vs,R2,by simp [gR,lg,h2],hr2,h⟩
 | .c8 v::xs,R,K,hr,h=>by
  obtain ⟨vs,R2,h2,hr2,h⟩:=pS.elim (l:=xs) hr h;exact ⟨_,R2,by simp [gR,lg,h2],hr2,h⟩
 | .func v::xs,R,K,hr,h=>by
  obtain ⟨vs,R2,h2,hr2,h⟩:=pS.elim (l:=xs) hr h;exact ⟨_,R2,by simp [gR,lg,h2],hr2,h⟩
theorem IU (ds:List Nat):∀ (E:Env) (t:Nat),lk (lS ds E) t=if bQ t ds then none else lk E t
 | [],t=>by simp [lS,vR]
 | (k,v)::r,t=>by
  show lk (cond (bQ k ds) (lS ds r) ((k,v)::lS ds r)) t=_;cases hm:bQ k ds with
  | true =>
   rw [xe,IU ds r,ou]
   by_cases e:k=t
   ·subst e;rw [hm];rfl
   ·rw [qd e]
  | false =>
   rw [zd,ou,IU ds r,ou]
   by_cases e:k=t
   ·subst e;rw [hm];simp
   ·rw [qd e,qd e]
theorem q1y:∀ (L:Env) (t:Nat),bQ t (iL L)=false->lk L t=none
 | [],t,_=>rfl
 | (k,v)::r,t,h=>by
  have h:cond (Nat.beq k t) true (bQ t (iL r))=false:=h;rw [ou];cases hb:Nat.beq k t with
  | true=>rw [hb] at h;cases h
  | false=>rw [hb,zd] at h;rw [qd (Iq hb)];exact q1y r t h
theorem q5d {t:Nat}:∀ {l:List Nat},t ∈ l->bQ t l=true
 | x::r,h=>by
  show cond (Nat.beq x t) true (bQ t r)=true;cases hb:Nat.beq x t with
  | true=>rfl
  | false =>
   rw [zd];rcases jd.1 h with e|h
   ·exact (Iq hb e.symm).elim
   ·exact q5d h
theorem qva:∀ (ds:List Nat) (tm:T AV) (t:Nat),t ∉ ds->(forget ds tm).get t=tm.get t
 | [],tm,t,_=>rfl
 | d::ds,tm,t,h=>by
  show (forget ds (tm.put d none)).get t=_;rw [qva ds _ t (λ q=>h (vd _ q)),T.fP,qd (λ e=>h (by rw [e];exact vk ..))]
def QQ (ks:List Nat) (Q:aJ) (up:Option aC):bX:=λ e st=>st.up=up /\ ∃ E',dC ks E' st.tm/\Q e E' st.aT st.H
section
variable {M:aO} {ctx:Ctx} {ct:Bool} {Q:aJ} {E:Env} {D:List aL} {up:Option aC}
theorem PX.A8 {Z:bX} (hp:∀ c tm H E',(∀ t v,lk E' t=some v->tm.get t=some v/\lk E t=some v)->Q (.panic c) E' D H->Z (.panic c) ⟨tm,D,up,H⟩) {ps:Option (List Nat)} {L R:Env} {tm:T AV} (hr:gH E L R tm) {c:aC} {H:AHeap} (h:PX ps (iL L) Q E D c H):wE ps tm D up Z c H:=by
 cases ps with
 | none=>exact h
 | some ds =>
  refine hp _ _ _ _ (λ t v hv=>?_) h;rw [IU,IU] at hv;split at hv
  ·cases hv
  ·rename_i h1;split at hv
   ·cases hv
   ·rename_i h2;rw [qva ds tm t (λ q=>h1 (q5d q))];exact ⟨hr.e t v (q1y L t (by simpa using h2)) hv,hv⟩
theorem vB.pT {Z:bX} (hp:∀ c tm H E',(∀ t v,lk E' t=some v->tm.get t=some v/\lk E t=some v)->Q (.panic c) E' D H->Z (.panic c) ⟨tm,D,up,H⟩) {ps:Option (List Nat)} {L R:Env} {tm:T AV} (hr:gH E L R tm) {g:Bool} {f:fj} {vs:List AV} {H:AHeap} {K:Bool->AV->AHeap->Prop} {K':AV->AHeap->Prop}
 (h:vB M ct ps L Q E D g f vs H K) (hk:∀ v H,K g v H->K' v H):gW M aB f vs H K' (wE ps tm D up Z):=by
 cases ct with
 | false =>
  obtain ⟨v,H',h1,h2⟩:=(show C3 M g f vs H K from h)
  exact ⟨_,H',h1,hk _ _ h2⟩
 | true =>
  obtain ⟨e,H',h1,h2⟩:=(show P3 M g (PX ps (iL L) Q E D) f vs H K from h)
  refine ⟨_,H',h1,?_⟩;cases e with
  | ret v=>exact hk _ _ h2
  | panic c=>exact PX.A8 hp hr h2
theorem vY.body {Z:bX} (hp:∀ c tm H E',(∀ t v,lk E' t=some v->tm.get t=some v/\lk E t=some v)->Q (.panic c) E' D H->Z (.panic c) ⟨tm,D,up,H⟩) {s:aV} {K:KR} {g:Bool} {L R R0:Env} {tm:T AV} {H:AHeap} (hr:gH E L R tm) (hr0:gH E L R0 tm) (h:vY M ct s Q E D K g L R H) {KK:St->Prop}
 (hK:∀ L' R' tm' H',(s.eN=true/\L'=L/\tm'=tm \/ ∃ v,s.eN=false/\L'=lj s.dst v L/\tm'=cV s.dst v tm)->gH E L' R' tm'->gH E L' R0 tm'->K g L' R' H'->KK ⟨tm',D,up,H'⟩) :
 match s.eN with
 | false=>kC tm s.args λ vs=>kA M ctx s.dst s.bR ⟨tm,D,up,H⟩ Z KK vs s.op
 | true=>kC tm s.args λ vs=>G7 s.dst ⟨tm,D,up,H⟩ vs s.op/\KK ⟨tm,D,up,H⟩:=by
 obtain ⟨eN,dst,guard,args,op,ps⟩:=s;obtain ⟨vs,R1,h1,hr1,h⟩:=pS.elim hr h;cases eN with
 | true =>
  refine FH h1 ?_;have h:J2 dst E L R1 H K g vs op:=h;cases op with
  | read f =>
   cases dst with
   | none=>exact h.elim
   | some d =>
    have h:rq g (f vs H) (NP L E d) (λ g=>K g L R1 H):=h;obtain ⟨⟨v,e1,e2⟩,h⟩:=h;refine ⟨?_,hK L R1 tm H (.inl ⟨rfl,rfl,rfl⟩) hr1 hr0 h⟩;refine bu.intro (m:=aB) e1 (bu.intro (m:=aB) (a:=v) ?_ rfl);unfold NP at e2;cases hl:lk L d with
    | some w=>rw [hl] at e2;injection e2 with e2;subst e2;exact hr.l d w hl
    | none=>rw [hl] at e2;exact hr.e d v hl e2
  | _=>exact h.elim
 | false =>
  have put:∀ v H',K g (lj dst v L) R1 H'->KK ⟨cV dst v tm,D,up,H'⟩:=λ v H' hk=>hK _ R1 _ H' (.inr ⟨v,rfl,rfl,rfl⟩) (hr1.put dst v) (hr0.put dst v) hk;refine FH h1 ?_;have h:nY M ct dst ps Q E D L R1 H K g vs op:=h;cases op with
  | pure f=>simp only [nY] at h;obtain ⟨v,e,h⟩:=B3.elim h;exact bu.intro (m:=aB) e (put _ _ h)
  | read f=>simp only [nY] at h;obtain ⟨v,e,h⟩:=B3.elim h;exact bu.intro (m:=aB) e (put _ _ h)
  | alloc f=>simp only [nY] at h;simp only [kA];obtain ⟨o,mk,e,h⟩:=bf.elim h;exact eV.intro (m:=aB) e (put _ _ h)
  | eF f=>simp only [nY] at h;simp only [kA];obtain ⟨v,H',e,h⟩:=bf.elim h;exact eV.intro (m:=aB) e (put _ _ h)
  | eM f=>exact vB.pT hp hr1 h λ v H' hk=>put v H' hk
  | eL =>
   simp only [nY,V3] at h;simp only [kA,Du];split at h
   ·exact vB.pT hp hr1 h λ v H' hk=>put v H' hk
   ·exact vB.pT hp hr1 h λ v H' hk=>put v H' hk
   ·exact h.elim
  | invoke n =>
   simp only [nY,N3] at h;simp only [kA,EL];split at h
   ·obtain ⟨f,e,h⟩:=B3.elim h;exact bu.intro (m:=aB) e (vB.pT hp hr1 h λ v H' hk=>put v H' hk)
   ·exact h.elim
  | recover=>exact False.elim h
  | defer=>exact False.elim h
  | panic =>
   cases ct with
   | false=>exact False.elim h
   | true =>
    have h:dW vs H (PX ps (iL L) Q E D):=h;show dW vs H (wE ps tm D up Z);unfold dW at h ⊢;split at h
    ·exact PX.A8 hp hr1 h
    ·exact h.elim
def FK (g:Option (Nat × Bool)) (l:List aV):Prop:=∀ s ∈ l,s.guard=g
theorem jY.free {Z:bX} (hp:∀ c tm H E',(∀ t v,lk E' t=some v->tm.get t=some v/\lk E t=some v)->Q (.panic c) E' D H->Z (.panic c) ⟨tm,D,up,H⟩) {K:KR} {g:Bool} {R0:Env} {rest:List aV} (hK:∀ L R tm H,gH E L R tm->gH E L R0 tm->K g L R H->lH M ctx rest ⟨tm,D,up,H⟩ Z) :
 ∀ {l:List aV} {L R:Env} {tm:T AV} {H:AHeap},FK none l->gH E L R tm->gH E L R0 tm->jY M ct Q E D K l g L R H->lH M ctx (l++rest) ⟨tm,D,up,H⟩ Z
 | [],L,R,tm,H,_,hr,hr0,h=>hK _ _ _ _ hr hr0 h
 | s::l,L,R,tm,H,hg,hr,hr0,h=>by
  rw [EJ,Kt];have hs:s.guard=none:=hg s (vk ..);have:=vY.body hp (ctx:=ctx) (up:=up) (KK:=λ st'=>lH M ctx (l++rest) st' Z) hr hr0 (show vY M ct s Q E D (jY M ct Q E D K l) g L R H from h)
   λ L' R' tm' H' _ q1 q2 q3=>jY.free hp hK (λ x hx=>hg x (vd _ hx)) q1 q2 q3
  obtain ⟨eN,dst,guard,args,op,ps⟩:=s;subst hs;cases eN<;>exact this
theorem Kw:∀ (n:Nat) (f:List AV->AHeap->Prop) (l:List AV) (H:AHeap),l.length=n->jO n (kE n f) l H=f l H
 | 0,f,[],H,_=>rfl
 | n+1,f,v::l,H,h=>Kw n (λ l=>f (v::l)) l H (by simpa using h)
 | 0,f,_::_,H,h=>by cases h
 | n+1,f,[],H,h=>by cases h
theorem sm {α:Type} (l:List α):cz l=l.length:=by
 induction l with
 | nil=>rfl
 | cons x l ih=>show cz l+1=_;rw [ih];rfl
theorem q5t:∀ (ks:List Nat) (L:Env) (vs:List AV),vs.length=ks.length->lW ks.length (gJ ks L vs)=vs
 | [],L,[],_=>rfl
 | k::ks,L,v::vs,h=>by
  show v::lW ks.length (gJ ks L vs)=_;rw [q5t ks L vs (by simpa using h)]
 | [],L,_::_,h=>by cases h
 | _::_,L,[],h=>by cases h
theorem xah:∀ n,(mM n).length=n
 | 0=>rfl
 | n+1=>by show (mM n).length+1=_;rw [xah n]
theorem jY.under {Z:bX} (hp:∀ c tm H E',(∀ t v,lk E' t=some v->tm.get t=some v/\lk E t=some v)->Q (.panic c) E' D H->Z (.panic c) ⟨tm,D,up,H⟩) {K:KR} {g:Bool} {R0:Env} {rest:List aV} {t:Nat} {b:Bool} {v:AV} (hw:aE b (some v)=some true) {kf:List Nat} {L0:Env} (hK:∀ vs R tm H,vs.length=kf.length->gH E (gJ kf L0 vs) R tm->gH E (gJ kf L0 vs) R0 tm->K g (gJ kf L0 vs) R H->lH M ctx rest ⟨tm,D,up,H⟩ Z) :
 ∀ {l:List aV} {acc:List Nat} {us:List AV} {L R:Env} {tm:T AV} {H:AHeap},bq l acc=kf->us.length=acc.length->L=gJ acc L0 us->FK (some (t,b)) l->pj t l=true->tm.get t=some v->gH E L R tm->gH E L R0 tm->jY M ct Q E D K l g L R H->lH M ctx (l++rest) ⟨tm,D,up,H⟩ Z
 | [],acc,us,L,R,tm,H,e1,e2,e3,_,_,_,hr,hr0,h=>by
  have e1:acc=kf:=e1;subst e1;subst e3;exact hK _ _ _ _ e2 hr hr0 h
 | s::l,acc,us,L,R,tm,H,e1,e2,e3,hg,ho,ht,hr,hr0,h=>by
  rw [EJ,Kt];have hs:s.guard=some (t,b):=hg s (vk ..);have ho:cond (Dc s.dst t) false (cond s.eN (cond s.dst.isSome (pj t l) false) (pj t l))=true:=ho;have hd:Dc s.dst t=false:=by cases q:Dc s.dst t with
   | true=>rw [q] at ho;cases ho
   | false=>rfl
  rw [hd,zd] at ho;have ho':pj t l=true:=by
   cases hc:s.eN with
   | false=>rw [hc] at ho;exact ho
   | true=>rw [hc] at ho;cases hd:s.dst.isSome with
    | true=>rw [hd] at ho;exact ho
    | false=>rw [hd] at ho;cases ho
  have:=vY.body hp (ctx:=ctx) (up:=up) (KK:=λ st'=>lH M ctx (l++rest) st' Z) hr hr0 (show vY M ct s Q E D (jY M ct Q E D K l) g L R H from h)
   λ L' R' tm' H' hq q1 q2 q3=>by
    have e1:bq l (cond s.eN acc (Option.rec (motive:=λ _=>List Nat) acc (λ d=>d::acc) s.dst))=kf:=e1;obtain ⟨us',e2',e3'⟩:∃ us',us'.length=(cond s.eN acc (Option.rec (motive:=λ _=>List Nat) acc (λ d=>d::acc) s.dst)).length/\L'=gJ (cond s.eN acc (Option.rec (motive:=λ _=>List Nat) acc (λ d=>d::acc) s.dst)) L0 us':=by
     rcases hq with ⟨hc,rfl,_⟩|⟨w,hc,rfl,_⟩
     ·rw [hc];exact ⟨us,e2,e3⟩
     ·rw [hc];cases s.dst with
      | none=>exact ⟨us,e2,e3⟩
      | some d=>exact ⟨w::us,by simpa using e2,by rw [e3];rfl⟩
    exact jY.under hp hw hK e1 e2' e3' (λ x hx=>hg x (vd _ hx)) ho' (by
     rcases hq with ⟨_,_,rfl⟩|⟨w,_,_,rfl⟩
     ·exact ht
     ·cases hdd:s.dst with
      | none=>exact ht
      | some d =>
       rw [hdd] at hd;show (tm.set d w).get t=_;rw [T.aI,qd (Iq hd)];exact ht) q1 q2 q3
  obtain ⟨eN,dst,guard,args,op,ps⟩:=s;subst hs;have e:aE b (tm.get t)=some true:=by rw [ht];exact hw
  cases eN with
  | false=>exact bu.intro (m:=aB) e this
  | true=>exact bu.intro (m:=aB) e this
theorem jY.over {Z:bX} {R0:Env} {rest:List aV} {t:Nat} {b:Bool} {v:AV} (hw:aE b (some v)=some false) {kf:List Nat} {L0:Env} {H:AHeap} (hK:∀ tm,gH E (gJ kf L0 (mM kf.length)) R0 tm->lH M ctx rest ⟨tm,D,up,H⟩ Z) :
 ∀ {l:List aV} {acc:List Nat} {tm:T AV},bq l acc=kf->FK (some (t,b)) l->pj t l=true->tm.get t=some v->gH E (gJ acc L0 (mM acc.length)) R0 tm->lH M ctx (l++rest) ⟨tm,D,up,H⟩ Z
 | [],acc,tm,e1,_,_,_,hr0=>by
  have e1:acc=kf:=e1;subst e1;exact hK _ hr0
 | s::l,acc,tm,e1,hg,ho,ht,hr0=>by
  rw [EJ,Kt];have hs:s.guard=some (t,b):=hg s (vk ..);have ho:cond (Dc s.dst t) false (cond s.eN (cond s.dst.isSome (pj t l) false) (pj t l))=true:=ho;have hd:Dc s.dst t=false:=by cases q:Dc s.dst t with
   | true=>rw [q] at ho;cases ho
   | false=>rfl
  rw [hd,zd] at ho;have e:aE b (tm.get t)=some false:=by rw [ht];exact hw
  have hg':FK (some (t,b)) l:=λ x hx=>hg x (vd _ hx);have e1:bq l (cond s.eN acc (Option.rec (motive:=λ _=>List Nat) acc (λ d=>d::acc) s.dst))=kf:=e1;cases hc:s.eN with
  | true =>
   rw [hc] at ho e1;cases hds:s.dst.isSome with
   | false=>rw [hds] at ho;cases ho
   | true =>
    rw [hds] at ho;have:=jY.over hw hK e1 hg' ho ht hr0;obtain ⟨eN,dst,guard,args,op,ps⟩:=s;subst hs;subst hc;exact bu.intro (m:=aB) e ⟨hds,this⟩
  | false =>
   rw [hc] at ho e1;have:=jY.over hw hK (tm:=cV s.dst .undef tm) e1 hg' ho (by
    cases hdd:s.dst with
     | none=>exact ht
     | some d =>
      rw [hdd] at hd;show (tm.set d _).get t=_;rw [T.aI,qd (Iq hd)];exact ht) (by
    have:=hr0.put s.dst .undef;cases hdd:s.dst with
     | none=>rw [hdd] at this;exact this
     | some d=>rw [hdd] at this;exact this)
   obtain ⟨eN,dst,guard,args,op,ps⟩:=s;subst hs;subst hc;exact bu.intro (m:=aB) e this
theorem sn {a b:Option (Nat × Bool)} (h:mo a b=true):a=b:=by
 cases a with
 | none=>cases b with
  | none=>rfl
  | some _=>cases h
 | some p=>cases b with
  | none=>cases h
  | some q =>
   obtain ⟨t,x⟩:=p;obtain ⟨u,y⟩:=q;have h:cond (Nat.beq t u) (cond x y (!y)) false=true:=h;cases hb:Nat.beq t u with
   | false=>rw [hb] at h;cases h
   | true =>
    rw [hb] at h;rw [Nat.eq_of_beq_eq_true hb];cases x<;>cases y<;>first|rfl|cases h
theorem sy:∀ (l:List aV),(Ep l).flatMap (·.2)=l /\ ∀ x ∈ Ep l,FK x.1 x.2
 | []=>⟨rfl,λ x hx=>by cases hx⟩
 | s::l=>by
  obtain ⟨h1,h2⟩:=sy l;have e:Ep (s::l)=List.casesOn (motive:=λ _=>List xP) (Ep l) [(s.guard,[s])] λ g r=>cond (mo g.1 s.guard) ((g.1,s::g.2)::r) ((s.guard,[s])::g::r):=rfl;rw [e];cases hg:Ep l with
  | nil =>
   rw [hg] at h1;exact ⟨by simpa using h1,λ x hx=>by simp at hx;subst hx;intro y hy;simp at hy;subst hy;rfl⟩
  | cons g r =>
   rw [hg] at h1 h2;show (cond (mo g.1 s.guard) ((g.1,s::g.2)::r) ((s.guard,[s])::g::r)).flatMap _=_ /\ ∀ x ∈ cond (mo g.1 s.guard) ((g.1,s::g.2)::r) ((s.guard,[s])::g::r),_;cases hs:mo g.1 s.guard with
   | true =>
    refine ⟨by simpa using h1,λ x hx=>?_⟩;rcases jd.1 hx with rfl|hx
    ·intro y hy;rcases jd.1 hy with rfl|hy
     ·exact (sn hs).symm
     ·exact h2 g (vk ..) y hy
    ·exact h2 x (vd _ hx)
   | false =>
    refine ⟨by simpa using h1,λ x hx=>?_⟩;rcases jd.1 hx with rfl|hx
    ·intro y hy;simp at hy;subst hy;rfl
    ·exact h2 x hx
theorem qR.GB {Z:bX} (hp:∀ c tm H E',(∀ t v,lk E' t=some v->tm.get t=some v/\lk E t=some v)->Q (.panic c) E' D H->Z (.panic c) ⟨tm,D,up,H⟩) {K:KR} {g:Bool} (hK:∀ L R tm H,gH E L R tm->K g L R H->Z .normal ⟨tm,D,up,H⟩):∀ {gs:List xP} {L R:Env} {tm:T AV} {H:AHeap},(∀ x ∈ gs,FK x.1 x.2)->gH E L R tm->qR M ct Q E D K gs g L R H ->
 lH M ctx (gs.flatMap (·.2)) ⟨tm,D,up,H⟩ Z
 | [],L,R,tm,H,_,hr,h=>hK _ _ _ _ hr h
 | x::gs,L,R,tm,H,hg,hr,h=>by
  rw [jt];have ih:∀ L R tm H,gH E L R tm->qR M ct Q E D K gs g L R H->lH M ctx (gs.flatMap (·.2)) ⟨tm,D,up,H⟩ Z:=λ L R tm H hr h=>qR.GB hp hK (λ x hx=>hg x (vd _ hx)) hr h;have hx:=hg x (vk ..);obtain ⟨q,l⟩:=x;cases q with
  | none=>exact jY.free hp (R0:=R) (λ L R tm H q1 _ q2=>ih L R tm H q1 q2) hx hr hr (show jY M ct Q E D (qR M ct Q E D K gs) l g L R H from h)
  | some q =>
   obtain ⟨t,b⟩:=q;cases ho:pj t l with
   | false =>
    have h:cond (pj t l) _ False:=h;rw [ho] at h;exact h.elim
   | true =>
    have h:cond (pj t l) _ False:=h;rw [ho,xe] at h;obtain ⟨v,R1,ht,hr1,h⟩:=TV.elim hr h;have kl:cz (bq l [])=(bq l []).length:=sm _;have h:B3 g (aE b (some v)) λ g w=>cF g w (λ g=>jY M ct Q E D (λ g L' _ H=>jO (cz (bq l [])) (kE (cz (bq l [])) λ vs H=>qR M ct Q E D K gs g (gJ (bq l []) L vs) R1 H) (lW (cz (bq l [])) L') H) l g L R1 H)
     (λ g=>jO (cz (bq l [])) (kE (cz (bq l [])) λ vs H=>qR M ct Q E D K gs g (gJ (bq l []) L vs) R1 H) (mM (cz (bq l []))) H):=h
    obtain ⟨w,hw,h⟩:=B3.elim h;cases w with
    | true =>
     refine jY.under hp (R0:=R1) hw (kf:=bq l []) (L0:=L) (λ vs R tm H q q1 q0 q2=>?_) (acc:=[]) (us:=[]) rfl rfl rfl hx ho ht hr1 hr1 h;rw [kl,q5t _ _ _ q,Kw _ _ _ _ q] at q2;exact ih _ R1 tm H q0 q2
    | false =>
     have h:jO (cz (bq l [])) (kE (cz (bq l [])) λ vs H=>qR M ct Q E D K gs g (gJ (bq l []) L vs) R1 H) (mM (cz (bq l []))) H:=h;rw [kl,Kw _ _ _ _ (xah _)] at h;exact jY.over hw (kf:=bq l []) (L0:=L) (λ tm hq=>ih _ R1 tm H hq h) (acc:=[]) rfl hx ho ht hr1
theorem mb.GB {Z:bX} (hp:∀ c tm H E',(∀ t v,lk E' t=some v->tm.get t=some v/\lk E t=some v)->Q (.panic c) E' D H->Z (.panic c) ⟨tm,D,up,H⟩) {l:List aV} {g:Bool} {H:AHeap} {K:KR} {tm:T AV} {ks:List Nat} (he:dC ks E tm) (h:mb M ct Q E D l g H K) (hK:∀ L R tm H,gH E L R tm->K g L R H->Z .normal ⟨tm,D,up,H⟩):lH M ctx l ⟨tm,D,up,H⟩ Z:=by
 obtain ⟨h1,h2⟩:=sy l;have:=qR.GB hp (ctx:=ctx) hK h2 (gH.first he) h
 rwa [h1] at this
end
end
end Go.Am
namespace Go.Am
noncomputable section
variable {M:aO} {ctx:Ctx} {K:Kp}
theorem KT (ks:List Nat) (E:Env):∀ (L:Env) (t:Nat) (v:AV),bQ t ks=true->lk (c7 ks E L) t=some v->lk L t=some v\/lk L t=none/\lk E t=some v
 | [],t,v,_,h=>.inr ⟨rfl,h⟩
 | (k,w)::r,t,v,ht,h=>by
  have h:lk (cond (bQ k ks) ((k,w)::c7 ks E r) (c7 ks E r)) t=some v:=h;rw [ou];cases hm:bQ k ks with
  | true =>
   rw [hm,xe,ou] at h;split at h
   ·rename_i e;rw [qm e];exact .inl h
   ·rename_i e;rw [qd e];exact KT ks E r t v ht h
  | false =>
   rw [hm,zd] at h
   by_cases e:k=t
   ·subst e;rw [hm] at ht;cases ht
   ·rw [qd e];exact KT ks E r t v ht h
theorem M1 (ks:List Nat) (E:Env) (hE:∀ t v,lk E t=some v->bQ t ks=true):∀ (L:Env) (t:Nat) (v:AV),lk (c7 ks E L) t=some v->bQ t ks=true
 | [],t,v,h=>hE t v h
 | (k,w)::r,t,v,h=>by
  have h:lk (cond (bQ k ks) ((k,w)::c7 ks E r) (c7 ks E r)) t=some v:=h;cases hm:bQ k ks with
  | true =>
   rw [hm,xe,ou] at h;split at h
   ·rename_i e;subst e;exact hm
   ·exact M1 ks E hE r t v h
  | false=>rw [hm,zd] at h;exact M1 ks E hE r t v h
theorem gH.ae {E L R:Env} {tm:T AV} (h:gH E L R tm) {ks:List Nat} (hE:∀ t v,lk E t=some v->bQ t ks=true):dC ks (c7 ks E L) tm:=λ t v hv=>by
 have hm:=M1 ks E hE L t v hv;refine ⟨?_,hm⟩;rcases KT ks E L t v hm hv with q|⟨q1,q2⟩
 ·exact h.l t v q
 ·exact h.e t v q1 q2
theorem dC.keys {ks:List Nat} {E:Env} {tm:T AV} (h:dC ks E tm):∀ t v,lk E t=some v->bQ t ks=true:=λ t v hv=>(h t v hv).2
theorem dC.ct {ks:List Nat} {E E':Env} {tm tm':T AV} (h:dC ks E tm) (h':∀ t v,lk E' t=some v->tm'.get t=some v/\lk E t=some v):dC ks E' tm':=λ t v hv=>⟨(h' t v hv).1,(h t v (h' t v hv).2).2⟩
theorem TV.cv {E L R:Env} {x:bD} {g:Bool} {P:Bool->AV->Prop} {tm:T AV} (hr:gH E L R tm) (h:CV E L R x g P):∃ v,lg tm x=some v/\P g v:=by
 cases x with
 | tmp t=>obtain ⟨v,_,h1,_,h2⟩:=TV.elim hr (show TV E L R t g (λ g _ v=>P g v) from h);exact ⟨v,h1,h2⟩
 | const v=>exact ⟨v,rfl,h⟩
 | c8 v=>exact ⟨_,rfl,h⟩
 | func v=>exact ⟨_,rfl,h⟩
theorem OV.elim {ks:List Nat} {E:Env} {x:bD} {g:Bool} {P:Bool->AV->Prop} {tm:T AV} (hr:dC ks E tm) (h:OV E x g P):∃ v,lg tm x=some v/\P g v:=by
 cases x with
 | tmp t=>obtain ⟨v,h1,h2⟩:=LK.elim (show LK g (lk E t) P from h);exact ⟨v,(hr t v h1).1,h2⟩
 | const v=>exact ⟨v,rfl,h⟩
 | c8 v=>exact ⟨_,rfl,h⟩
 | func v=>exact ⟨_,rfl,h⟩
theorem q01 {tm:T AV} {x:bD} {v:AV} {P:AV->Prop} (h:lg tm x=some v) (hp:P v):wQ tm x P:=by
 cases x with
 | tmp t=>exact bu.intro (m:=aB) h hp
 | const c=>injection h with h;subst h;exact hp
 | c8 c=>injection h with h;subst h;exact hp
 | func c=>injection h with h;subst h;exact hp
theorem bF.wp {a b:ah} {g:Bool} {v:AV} {A B:Bool->Prop} {tm:T AV} {c:bD} {st:St} {Q:bX} (hv:lg st.tm c=some v) (h:bF g v A B) (ha:A g->WP M ctx a st Q) (hb:B g->WP M ctx b st Q):WP M ctx (.cond c a b) st Q:=by
 obtain ⟨q,rfl,h⟩:=h.elim;refine q01 hv ?_;cases q with
 | true=>exact ha h
 | false=>exact hb h
def di:ah->Nat
 | .seq a b=>di a+di b+1
 | .cond _ a b=>di a+di b+1
 | .block _ b=>di b+1
 | .loop _ b=>di b+1
 | .scope b=>di b+1
 | _=>0
theorem W3.wp:∀ (n:Nat) (c:ah),di c<=n -> ∀ {g:Bool} {Q:aJ} {E:Env} {D:List aL} {H:AHeap} {tm:T AV} {up:Option aC},W3 M ctx K c g Q E D H->dC K.ae E tm->WP M ctx c ⟨tm,D,up,H⟩ (QQ K.ae Q up):=by
 intro n
 induction n with
 | zero =>
  intro c hc g Q E D H tm up h he;cases c with
  | skip=>exact ⟨rfl,E,he,h⟩
  | label _=>exact ⟨rfl,E,he,h⟩
  | exit _=>exact ⟨rfl,E,he,h⟩
  | goto _=>exact ⟨rfl,E,he,h⟩
  | ret=>exact ⟨rfl,E,he,h⟩
  | stuck=>exact False.elim h
  | region l=>exact mb.GB (λ c tm' H' E' h1 h2=>⟨rfl,E',he.ct h1,h2⟩) he (show mb M K.ct Q E D l g H _ from h) λ L R tm H hr hk=>⟨rfl,_,hr.ae he.keys,hk⟩
  | rangeFunc f k =>
   obtain ⟨v,hv,h⟩:=OV.elim he (show OV E f g _ from h);exact q01 hv (by
    have:=h tm up he;unfold Bl at this ⊢;split
    ·rename_i hr;rw [hr] at this;exact FZ this λ e st ⟨h1,h2,h3⟩=>⟨h1,E,by rw [h2];exact he,h3⟩
    ·rename_i l hr;rw [hr] at this;exact wN (m:=aB) this λ d q=>FZ q λ e st ⟨h1,h2,h3⟩=>⟨h1,E,by rw [h2];exact he,h3⟩)
  | seq _ _=>simp [di] at hc
  | cond _ _ _=>simp [di] at hc
  | block _ _=>simp [di] at hc
  | loop _ _=>simp [di] at hc
  | scope _=>simp [di] at hc
 | succ n ih =>
  intro c hc g Q E D H tm up h he;have seqq:∀ {a b:ah} {tm:T AV} {H:AHeap},di b<=n->WP M ctx a ⟨tm,D,up,H⟩ (QQ K.ae (ao (W3 M ctx K b) Q) up)->WP M ctx a ⟨tm,D,up,H⟩ (ND (WP M ctx b) (QQ K.ae Q up)):=λ {a b tm H} hb h=>mi h λ e st ⟨h1,E',h2,h3⟩=>by
   obtain ⟨tm',D',up',H'⟩:=st;subst h1;cases e with
   | normal=>exact ih b hb h3 h2
   | exit _=>exact ⟨rfl,E',h2,h3⟩
   | goto _=>exact ⟨rfl,E',h2,h3⟩
   | ret=>exact ⟨rfl,E',h2,h3⟩
   | panic _=>exact ⟨rfl,E',h2,h3⟩
  have cnd:∀ {c:bD} {x y:ah} {E:Env} {tm:T AV} {v:AV} {g:Bool} {Q:aJ} {H:AHeap},di x<=n->di y<=n->lg tm c=some v->dC K.ae E tm->bF g v (λ g=>W3 M ctx K x g Q E D H) (λ g=>W3 M ctx K y g Q E D H)->WP M ctx (.cond c x y) ⟨tm,D,up,H⟩ (QQ K.ae Q up) :=
   λ {c x y E tm v g Q H} hx hy hv he h=>bF.wp (tm:=tm) (st:=⟨tm,D,up,H⟩) hv h (λ h=>ih x hx h he) (λ h=>ih y hy h he)
  cases c with
  | seq a b =>
   have hab:di a+di b<=n:=by simp only [di] at hc;omega
   have gen:W3 M ctx K a g (ao (W3 M ctx K b) Q) E D H->WP M ctx (.seq a b) ⟨tm,D,up,H⟩ (QQ K.ae Q up):=λ h=>seqq (a:=a) (b:=b) (by omega) (ih a (by omega) h he);have reg:∀ (l:List aV) (KF:KR),a=.region l->mb M K.ct Q E D l g H KF->(∀ L R tm H,gH E L R tm->KF g L R H->WP M ctx b ⟨tm,D,up,H⟩ (QQ K.ae Q up))->WP M ctx (.seq a b) ⟨tm,D,up,H⟩ (QQ K.ae Q up):=λ l KF e h' hk=>by
    subst e;exact mb.GB (Z:=ND (WP M ctx b) (QQ K.ae Q up)) (λ c tm' H' E' h1 h2=>⟨rfl,E',he.ct h1,h2⟩) he h' hk
   cases a with
   | region l =>
    have plain:(mb M K.ct Q E D l g H λ g L _ H=>W3 M ctx K b g Q (c7 K.ae E L) D H)->WP M ctx (.seq (.region l) b) ⟨tm,D,up,H⟩ (QQ K.ae Q up):=λ h=>reg l _ rfl h λ L R tm H hr hk=>ih b (by omega) hk (hr.ae he.keys);cases b with
    | cond c x y =>
     have hxy:di x+di y+1<=n:=by simp only [di] at hab;omega
     refine reg l _ rfl h λ L R tm H hr hk=>?_;obtain ⟨v,hv,hk⟩:=TV.cv hr hk;exact cnd (by omega) (by omega) hv (hr.ae he.keys) hk
    | seq b1 r =>
     cases b1 with
     | cond c x y =>
      have hxy:di x+di y+1+di r+1<=n:=by simp only [di] at hab;omega
      refine reg l _ rfl h λ L R tm H hr hk=>?_;obtain ⟨v,hv,hk⟩:=TV.cv hr hk;exact seqq (by omega) (cnd (by omega) (by omega) hv (hr.ae he.keys) hk)
     | _=>exact plain h
    | _=>exact plain h
   | _=>exact gen h
  | cond c x y =>
   have hab:di x+di y<=n:=by simp only [di] at hc;omega
   obtain ⟨v,hv,h⟩:=OV.elim he (show OV E c g _ from h);exact cnd (by omega) (by omega) hv he h
  | block id b =>
   have hb:di b<=n:=by simp only [di] at hc;omega
   exact mi (c:=b) (ih b hb (show W3 M ctx K b g (aK id Q) E D H from h) he) λ e st ⟨h1,E',h2,h3⟩=>by cases e<;>exact ⟨h1,E',h2,h3⟩
  | scope b =>
   have hb:di b<=n:=by simp only [di] at hc;omega
   refine mi (c:=b) (ih b hb (show W3 M ctx K b g (oi b Q) E D H from h) he) λ e st ⟨h1,E',h2,h3⟩=>?_;cases e with
   | goto l=>exact ⟨h3.1,h1,E',h2,h3.2⟩
   | normal=>exact ⟨h1,E',h2,h3⟩
   | exit _=>exact ⟨h1,E',h2,h3⟩
   | ret=>exact ⟨h1,E',h2,h3⟩
   | panic _=>exact ⟨h1,E',h2,h3⟩
  | loop ae b =>
   have hb:di b<=n:=by simp only [di] at hc;omega
   cases ae with
   | some _=>exact False.elim h
   | none =>
    obtain ⟨I,⟨n0,E0,h0,hs⟩,hstep⟩:=(show bG (W3 M ctx K b) Q E D H from h)
    refine ⟨λ n st=>st.up=up /\ ∃ E',dC K.ae E' st.tm/\I n E' st.aT st.H,⟨n0,rfl,E0,hs.sub he,h0⟩,λ n st ⟨h1,E',h2,h3⟩=>?_⟩;obtain ⟨tm',D',up',H'⟩:=st;subst h1;refine mi (c:=b) (ih b hb (hstep n E' D' H' h3) h2) λ e st ⟨k1,E2,k2,k3⟩=>?_;cases e with
    | normal=>obtain ⟨m,E3,q1,q2,q3⟩:=k3;exact ⟨m,q3,k1,E3,q2.sub k2,q1⟩
    | exit _=>exact ⟨k1,E2,k2,k3⟩
    | goto _=>exact ⟨k1,E2,k2,k3⟩
    | ret=>exact ⟨k1,E2,k2,k3⟩
    | panic _=>exact ⟨k1,E2,k2,k3⟩
  | skip=>exact ⟨rfl,E,he,h⟩
  | label _=>exact ⟨rfl,E,he,h⟩
  | exit _=>exact ⟨rfl,E,he,h⟩
  | goto _=>exact ⟨rfl,E,he,h⟩
  | ret=>exact ⟨rfl,E,he,h⟩
  | stuck=>exact False.elim h
  | region l=>exact ih _ (zl _) h he
  | rangeFunc f k=>exact ih _ (zl _) h he
def dp (E:Env) (H:AHeap):List cU->(List AV->Prop)->Prop
 | [],P=>P []
 | .tmp t::rs,P=>LK true (lk E t) λ _ v=>dp E H rs λ vs=>P (v::vs)
 | .gq a::rs,P=>LK true (lk E a) λ _ v=>B3 true (Op.aa [v] H) λ _ v=>dp E H rs λ vs=>P (v::vs)
 | .cC n a::rs,P=>LK true (lk E a) λ _ v=>B3 true (Op.aq n [v] H) λ _ v=>dp E H rs λ vs=>P (v::vs)
def jV (M:aO) (rs:List cU) (E:Env) (Q:bz->AHeap->Prop):List aL->Option aC->AHeap->Prop
 | [],none,H=>dp E H rs λ l=>Q (.ret (dg l)) H
 | [],some c,H=>Q (.panic c) H
 | .fm b::ds,m,H=>H.get b=some (.deferred (some []))/\jV M rs E Q ds m (H.set b (.deferred none))
 | .fn (.func f) args::ds,m,H=>∃ v up' H',nq M f args (some (m.getD [])) H (.ret v) (some up') H'/\bu aB (iJ m up') λ m'=>jV M rs E Q ds m' H'
 | .fn (.yield _) _::_,_,_=>False
theorem dp.elim {ks:List Nat} {E:Env} {tm:T AV} (he:dC ks E tm) {H:AHeap}:∀ {rs:List cU} {P:List AV->Prop},dp E H rs P -> ∃ l,cL H tm rs=some l/\P l
 | [],P,h=>⟨[],rfl,h⟩
 | .tmp t::rs,P,h=>by
  obtain ⟨v,h1,h⟩:=LK.elim (show LK true (lk E t) _ from h);obtain ⟨l,h2,h⟩:=dp.elim he h;exact ⟨v::l,by rw [Ay,(he t v h1).1,h2];rfl,h⟩
 | .gq t::rs,P,h=>by
  obtain ⟨v,h1,h⟩:=LK.elim (show LK true (lk E t) _ from h);obtain ⟨w,h2,h⟩:=B3.elim h;obtain ⟨l,h3,h⟩:=dp.elim he h;exact ⟨w::l,by rw [q92,(he t v h1).1,qi,h2,qi,h3];rfl,h⟩
 | .cC n t::rs,P,h=>by
  obtain ⟨v,h1,h⟩:=LK.elim (show LK true (lk E t) _ from h);obtain ⟨w,h2,h⟩:=B3.elim h;obtain ⟨l,h3,h⟩:=dp.elim he h;exact ⟨w::l,by rw [q93,(he t v h1).1,qi,h2,qi,h3];rfl,h⟩
theorem jV.Mb {ks:List Nat} {E:Env} {tm:T AV} (he:dC ks E tm) {rs:List cU} {Q:bz->AHeap->Prop}:∀ {D:List aL} {m:Option aC} {H:AHeap},jV M rs E Q D m H->rf M rs tm Q D m H
 | [],none,H,h=>by obtain ⟨l,h1,h2⟩:=dp.elim he h;exact bu.intro (m:=aB) h1 h2
 | [],some c,H,h=>h
 | .fm b::ds,m,H,⟨h1,h2⟩=>⟨h1,jV.Mb he h2⟩
 | .fn (.func f) args::ds,m,H,⟨v,up',H',h1,h2⟩=>⟨v,up',H',h1,wN h2 λ m' h=>jV.Mb he h⟩
 | .fn (.yield _) _::_,_,_,h=>h
def aP (M:aO) (rs:List cU) (Q:bz->AHeap->Prop):aJ:=λ e E D H=>match e with
 | .normal=>jV M rs E Q D none H
 | .ret=>jV M rs E Q D none H
 | .panic c=>jV M rs E Q D (some c) H
 | _=>False
def yj (M:aO) (f:Nat) (vs:List AV) (H:AHeap) (Q:bz->AHeap->Prop):Prop:=∃ e H',iH M f vs H e H'/\Q e H'
def lM (Q:AV->AHeap->Prop) (e:bz) (H:AHeap):Prop:=match e with
 | .ret v=>Q v H
 | .panic _=>False
def jv (M:aO) (f:Nat) (vs:List AV) (H:AHeap) (Q:AV->AHeap->Prop):Prop:=yj M f vs H (lM Q)
theorem jv.elim {f:Nat} {vs:List AV} {H:AHeap} {Q:AV->AHeap->Prop} (h:jv M f vs H Q):∃ v H',iH M f vs H (.ret v) H'/\Q v H':=by
 obtain ⟨e,H',h1,h2⟩:=h;cases e with
 | ret v=>exact ⟨v,H',h1,h2⟩
 | panic _=>exact h2.elim
theorem jv.intro {f:Nat} {vs:List AV} {H:AHeap} {Q:AV->AHeap->Prop} {v:AV} {H':AHeap} (h:iH M f vs H (.ret v) H') (hq:Q v H'):jv M f vs H Q:=⟨_,H',h,hq⟩
theorem jv.mono {f:Nat} {vs:List AV} {H:AHeap} {Q Q':AV->AHeap->Prop} (h:jv M f vs H Q) (hq:∀ v H',Q v H'->Q' v H'):jv M f vs H Q':=by
 obtain ⟨v,H',h1,h2⟩:=h.elim;exact ⟨_,H',h1,hq _ _ h2⟩
theorem C3.q {m:Bool} {f:Nat} {vs:List AV} {H:AHeap} {R:AV->AHeap->Prop} {P:Bool->AV->AHeap->Prop} (h:jv M f vs H R) (hk:∀ v H',R v H'->P m v H'):C3 M m (.func f) vs H P:=by
 obtain ⟨v,H',h1,h2⟩:=h.elim;exact ⟨v,H',h1,hk v H' h2⟩
theorem C3.ret {m:Bool} {f:Nat} {vs:List AV} {H:AHeap} {P:Bool->AV->AHeap->Prop} {v:AV} {H':AHeap} (h:iH M f vs H (.ret v) H') (hk:P m v H'):C3 M m (.func f) vs H P:=⟨v,H',h,hk⟩
theorem C3.EN {m:Bool} {l:Nat} {vs:List AV} {H:AHeap} {P:Bool->AV->AHeap->Prop} {v:AV} {H':AHeap} (h:lR M l vs H (.ret v) H') (hk:P m v H'):C3 M m (.yield l) vs H P:=⟨v,H',h,hk⟩
theorem P3.q {m:Bool} {X:aC->AHeap->Prop} {f:Nat} {vs:List AV} {H:AHeap} {R:bz->AHeap->Prop} {P:Bool->AV->AHeap->Prop} (h:yj M f vs H R) (hk:∀ v H',R (.ret v) H'->P m v H') (hx:∀ c H',R (.panic c) H'->X c H'):P3 M m X (.func f) vs H P:=by
 obtain ⟨e,H',h1,h2⟩:=h;refine ⟨e,H',h1,?_⟩;cases e with
 | ret v=>exact hk _ _ h2
 | panic c=>exact hx _ _ h2
def qE:Nat->List AV->Env
 | _,[]=>[]
 | i,v::vs=>(i,v)::qE (i+1) vs
def mf:Nat->Nat->List Nat->Bool
 | _,0,_=>true
 | i,n+1,ks=>bQ i ks && mf (i+1) n ks
theorem qxz:∀ (vs:List AV) (i t:Nat) (tm:T AV),(fD i vs tm).get t=if i<=t then (match vs[t-i]? with|some v=>some v|none=>tm.get t) else tm.get t
 | [],i,t,tm=>by simp [fD]
 | v::vs,i,t,tm=>by
  rw [fD,qxz vs (i+1) t,T.aI]
  by_cases h:i=t
  ·subst h;simp;intro h;omega
  ·by_cases h2:i<=t
   ·have e:t-i=(t-(i+1))+1:=by omega
    rw [qm (show i+1<=t by omega),qm h2,qd h,e,zq]
   ·rw [qd (by omega),qd h2,qd h]
theorem q89:∀ (vs:List AV) (i t:Nat) (v:AV),lk (qE i vs) t=some v->i<=t/\vs[t-i]? = some v
 | [],i,t,v,h=>by cases h
 | w::vs,i,t,v,h=>by
  rw [qE,ou] at h;split at h
  ·rename_i e;subst e;injection h with h;subst h;simp
  ·obtain ⟨h1,h2⟩:=q89 vs (i+1) t v h;refine ⟨by omega,?_⟩;have e:t-i=(t-(i+1))+1:=by omega
   rw [e,zq,h2]
theorem q1u:∀ (n i:Nat) (ks:List Nat),mf i n ks=true -> ∀ t,i<=t->t<i+n->bQ t ks=true
 | 0,i,ks,_,t,h1,h2=>by omega
 | n+1,i,ks,h,t,h1,h2=>by
  simp only [mf,xk] at h
  by_cases e:i=t
  ·subst e;exact h.1
  ·exact q1u n (i+1) ks h.2 t (by omega) (by omega)
theorem rN {ks:List Nat} {vs:List AV} (h:mf 0 vs.length ks=true):dC ks (qE 0 vs) (fD 0 vs .nil):=λ t v hv=>by
 obtain ⟨_,h2⟩:=q89 vs 0 t v hv;rw [CQ] at h2;refine ⟨by rw [qxz,qm (zl _),CQ,h2],q1u _ 0 ks h t (zl _) ?_⟩;rw [yf];exact (ql.1 h2).1
structure Fn3 where
 n:Nat
 F:aw
 K:Kp
def pre:ah->List ah
 | .seq a b=>.seq a b::fU (pre a) (pre b)
 | .cond c a b=>.cond c a b::fU (pre a) (pre b)
 | .block i b=>.block i b::pre b
 | .loop k b=>.loop k b::pre b
 | .scope b=>.scope b::pre b
 | c=>[c]
def part (c:ah) (k:Nat):ah:=Option.rec (motive:=λ _=>ah) .stuck (λ c=>c) (nth (pre c) k)
def c9:ah->Nat
 | .seq a b=>c9 a+c9 b+1
 | .cond _ a b=>c9 a+c9 b+1
 | .block _ b=>c9 b+1
 | .loop _ b=>c9 b+1
 | .scope b=>c9 b+1
 | _=>1
theorem yV:∀ (c:ah),(pre c).length=c9 c
 | .seq a b=>by simp [pre,c9,jH,yV a,yV b]
 | .cond _ a b=>by simp [pre,c9,jH,yV a,yV b]
 | .block _ b=>by simp [pre,c9,yV b]
 | .loop _ b=>by simp [pre,c9,yV b]
 | .scope b=>by simp [pre,c9,yV b]
 | .skip=>rfl
 | .label _=>rfl
 | .exit _=>rfl
 | .goto _=>rfl
 | .ret=>rfl
 | .stuck=>rfl
 | .region _=>rfl
 | .rangeFunc _ _=>rfl
theorem NB (c:ah):∃ l,pre c=c::l:=by cases c<;>exact ⟨_,rfl⟩
theorem Mj {α:Type}:∀ (l:List α) (i:Nat),nth l i=l[i]?
 | [],i=>rfl
 | x::l,0=>rfl
 | x::l,i+1=>by rw [zq,<-Mj l i];rfl
theorem Ei:∀ (r:ah) (k:Nat) (c:ah),(pre r)[k]? = some c -> ∃ l,(pre r).drop k=pre c++l:=by
 intro r
 induction r with
 | seq a b iha ihb =>
  intro k c h;cases k with
  | zero=>simp [pre] at h;subst h;exact ⟨[],by simp⟩
  | succ k =>
   simp only [pre,jH,zq] at h;simp only [pre,jH,Ib]
   by_cases hk:k<(pre a).length
   ·rw [kq hk] at h;obtain ⟨l,hl⟩:=iha k c h;exact ⟨l++pre b,by rw [kw (by omega),hl,zi]⟩
   ·rw [jo (by omega)] at h;obtain ⟨l,hl⟩:=ihb _ c h;refine ⟨l,?_⟩;rw [we,j6 (by omega),zt,hl]
 | cond x a b iha ihb =>
  intro k c h;cases k with
  | zero=>simp [pre] at h;subst h;exact ⟨[],by simp⟩
  | succ k =>
   simp only [pre,jH,zq] at h;simp only [pre,jH,Ib]
   by_cases hk:k<(pre a).length
   ·rw [kq hk] at h;obtain ⟨l,hl⟩:=iha k c h;exact ⟨l++pre b,by rw [kw (by omega),hl,zi]⟩
   ·rw [jo (by omega)] at h;obtain ⟨l,hl⟩:=ihb _ c h;refine ⟨l,?_⟩;rw [we,j6 (by omega),zt,hl]
 | block i b ih =>
  intro k c h;cases k with
  | zero=>simp [pre] at h;subst h;exact ⟨[],by simp⟩
  | succ k=>simp only [pre,zq] at h;simpa only [pre,Ib] using ih k c h
 | loop i b ih =>
  intro k c h;cases k with
  | zero=>simp [pre] at h;subst h;exact ⟨[],by simp⟩
  | succ k=>simp only [pre,zq] at h;simpa only [pre,Ib] using ih k c h
 | scope b ih =>
  intro k c h;cases k with
  | zero=>simp [pre] at h;subst h;exact ⟨[],by simp⟩
  | succ k=>simp only [pre,zq] at h;simpa only [pre,Ib] using ih k c h
 | _ =>
  intro k c h;cases k with
  | zero=>simp [pre] at h;subst h;exact ⟨[],by simp [pre]⟩
  | succ k=>simp [pre] at h
theorem q2b {r:ah} {k:Nat} {c:ah} (h:(pre r)[k]? = some c):part r k=c:=by
 unfold part;rw [Mj,h]
theorem q2a {r:ah} {k:Nat} {c:ah} (h:part r k=c) (hc:c ≠ .stuck):∀ (j:Nat) (d:ah),(pre c)[j]? = some d->part r (k+j)=d:=λ j d hd=>by
 have h1:(pre r)[k]? = some c:=by
  unfold part at h;rw [Mj] at h;cases hq:(pre r)[k]? with
  | none=>rw [hq] at h;exact (hc h.symm).elim
  | some x=>rw [hq] at h;exact congrArg some h
 obtain ⟨l,hl⟩:=Ei r k c h1;refine q2b ?_;rw [<-yb,hl,kq (ql.1 hd).1,hd]
theorem so (c:ah):(pre c)[0]? = some c:=by obtain ⟨l,h⟩:=NB c;rw [h];rfl
theorem xH {r:ah} {k:Nat} {c a b:ah} (h:part r k=c) (hc:c ≠ .stuck) (e:∃ x l,pre c=x::(pre a++l)):part r (k+1)=a:=by
 obtain ⟨x,l,e⟩:=e;obtain ⟨l',e'⟩:=NB a;exact q2a h hc 1 a (by rw [e,e'];rfl)
theorem Gg {r:ah} {k:Nat} {c a b:ah} (h:part r k=c) (hc:c ≠ .stuck) (e:∃ x,pre c=x::(pre a++pre b)):part r (k+1+c9 a)=b:=by
 obtain ⟨x,e⟩:=e;obtain ⟨l',e'⟩:=NB b;rw [vl];exact q2a h hc (1+c9 a) b (by rw [e,Nat.add_comm,zq,jo (by rw [yV];exact qg _),yV,Nat.sub_self,e'];rfl)
def U (M:aO) (ctx:Ctx) (K:Kp) (X:Nat->WX):ah->Nat->WX
 | .skip,_,g,Q,E,D,H=>az g Q .normal E D H
 | .label _,_,g,Q,E,D,H=>az g Q .normal E D H
 | .exit id,_,g,Q,E,D,H=>az g Q (.exit id) E D H
 | .goto l,_,g,Q,E,D,H=>az g Q (.goto l) E D H
 | .ret,_,g,Q,E,D,H=>az g Q .ret E D H
 | .stuck,_,_,_,_,_,_=>False
 | .region l,_,g,Q,E,D,H=>mb M K.ct Q E D l g H λ g L _ H=>az g Q .normal (c7 K.ae E L) D H
 | .seq a b,k,g,Q,E,D,H=>match a,b with
  | .region l,.cond c x y=>mb M K.ct Q E D l g H λ g L R H=>CV E L R c g λ g v=>bF g v (λ g=>(Bool.rec (motive:=λ _=>WX) (U M ctx K X x (k+3)) (X (k+3)) (bQ (k+3) K.named)) g Q (c7 K.ae E L) D H) (λ g=>(Bool.rec (motive:=λ _=>WX) (U M ctx K X y (k+3+c9 x)) (X (k+3+c9 x)) (bQ (k+3+c9 x) K.named)) g Q (c7 K.ae E L) D H)
  | .region l,.seq (.cond c x y) r=>mb M K.ct Q E D l g H λ g L R H=>CV E L R c g λ g v=>bF g v (λ g=>(Bool.rec (motive:=λ _=>WX) (U M ctx K X x (k+4)) (X (k+4)) (bQ (k+4) K.named)) g (ao (Bool.rec (motive:=λ _=>WX) (U M ctx K X r (k+4+c9 x+c9 y)) (X (k+4+c9 x+c9 y)) (bQ (k+4+c9 x+c9 y) K.named)) Q) (c7 K.ae E L) D H)
   (λ g=>(Bool.rec (motive:=λ _=>WX) (U M ctx K X y (k+4+c9 x)) (X (k+4+c9 x)) (bQ (k+4+c9 x) K.named)) g (ao (Bool.rec (motive:=λ _=>WX) (U M ctx K X r (k+4+c9 x+c9 y)) (X (k+4+c9 x+c9 y)) (bQ (k+4+c9 x+c9 y) K.named)) Q) (c7 K.ae E L) D H)
  | .region l,b=>mb M K.ct Q E D l g H λ g L _ H=>(Bool.rec (motive:=λ _=>WX) (U M ctx K X b (k+2)) (X (k+2)) (bQ (k+2) K.named)) g Q (c7 K.ae E L) D H
  | a,b=>(Bool.rec (motive:=λ _=>WX) (U M ctx K X a (k+1)) (X (k+1)) (bQ (k+1) K.named)) g (ao (Bool.rec (motive:=λ _=>WX) (U M ctx K X b (k+1+c9 a)) (X (k+1+c9 a)) (bQ (k+1+c9 a) K.named)) Q) E D H
 | .cond c x y,k,g,Q,E,D,H=>OV E c g λ g v=>bF g v (λ g=>(Bool.rec (motive:=λ _=>WX) (U M ctx K X x (k+1)) (X (k+1)) (bQ (k+1) K.named)) g Q E D H) (λ g=>(Bool.rec (motive:=λ _=>WX) (U M ctx K X y (k+1+c9 x)) (X (k+1+c9 x)) (bQ (k+1+c9 x) K.named)) g Q E D H)
 | .block id b,k,g,Q,E,D,H=>(Bool.rec (motive:=λ _=>WX) (U M ctx K X b (k+1)) (X (k+1)) (bQ (k+1) K.named)) g (aK id Q) E D H
 | .scope b,k,g,Q,E,D,H=>(Bool.rec (motive:=λ _=>WX) (U M ctx K X b (k+1)) (X (k+1)) (bQ (k+1) K.named)) g (oi b Q) E D H
 | .loop (some _) _,_,_,_,_,_,_=>False
 | .loop none b,k,g,Q,E,D,H=>bG (Bool.rec (motive:=λ _=>WX) (U M ctx K X b (k+1)) (X (k+1)) (bQ (k+1) K.named)) Q E D H
 | .rangeFunc f n,_,g,Q,E,D,H=>OV E f g λ g v=>fw M K.ae ctx n E D H Q v
theorem Lv (r:ah):∀ (n:Nat) (c:ah),c9 c<=n -> ∀ k,part r k=c->U M ctx K (λ j=>W3 M ctx K (part r j)) c k=W3 M ctx K c:=by
 intro n
 induction n with
 | zero=>intro c hc;cases c<;>simp [c9] at hc
 | succ n ih =>
  intro c hc k hk;have sub:∀ (d:ah) (j:Nat),c9 d<=n->part r j=d->Bool.rec (motive:=λ _=>WX) (U M ctx K (λ j=>W3 M ctx K (part r j)) d j) (W3 M ctx K (part r j)) (bQ j K.named)=W3 M ctx K d:=λ d j h1 h2=>by
   cases bQ j K.named with
   | true=>show W3 M ctx K (part r j)=_;rw [h2]
   | false=>exact ih d h1 j h2
  have pl:=@xH r;have pr:=@Gg r;cases c with
  | seq a b =>
   have e:pre (.seq a b)=.seq a b::(pre a++pre b):=by simp [pre,jH]
   have ha:=xH (b:=b) hk (by simp) ⟨_,_,e⟩;have hb:=Gg hk (by simp) ⟨_,e⟩;have hs:c9 a+c9 b<=n:=by simp only [c9] at hc;omega
   have gen:(Bool.rec (motive:=λ _=>WX) (U M ctx K (λ j=>W3 M ctx K (part r j)) a (k+1)) (W3 M ctx K (part r (k+1))) (bQ (k+1) K.named))=W3 M ctx K a/\(Bool.rec (motive:=λ _=>WX) (U M ctx K (λ j=>W3 M ctx K (part r j)) b (k+1+c9 a)) (W3 M ctx K (part r (k+1+c9 a))) (bQ (k+1+c9 a) K.named))=W3 M ctx K b :=
    ⟨sub a _ (by omega) ha,sub b _ (by omega) hb⟩
   cases a with
   | region l =>
    have plain:(Bool.rec (motive:=λ _=>WX) (U M ctx K (λ j=>W3 M ctx K (part r j)) b (k+2)) (W3 M ctx K (part r (k+2))) (bQ (k+2) K.named))=W3 M ctx K b:=sub b _ (by omega) hb;cases b with
    | cond c x y =>
     have e2:pre (.cond c x y)=.cond c x y::(pre x++pre y):=by simp [pre,jH]
     have hx:=xH (b:=y) hb (by simp) ⟨_,_,e2⟩;have hy:=Gg hb (by simp) ⟨_,e2⟩;have hxy:c9 x+c9 y+1<=n:=by simp only [c9] at hs;omega
     have s1:=sub x (k+3) (by omega) hx;have s2:=sub y (k+3+c9 x) (by omega) hy;funext g Q E D H;simp only [U,W3,s1,s2]
    | seq b1 q =>
     cases b1 with
     | cond c x y =>
      have e1:pre (.seq (.cond c x y) q)=.seq (.cond c x y) q::(pre (.cond c x y)++pre q):=by simp [pre,jH]
      have e2:pre (.cond c x y)=.cond c x y::(pre x++pre y):=by simp [pre,jH]
      have hc2:=xH (b:=q) hb (by simp) ⟨_,_,e1⟩;have hq:=Gg hb (by simp) ⟨_,e1⟩;have hx:=xH (b:=y) hc2 (by simp) ⟨_,_,e2⟩;have hy:=Gg hc2 (by simp) ⟨_,e2⟩;have hxy:c9 x+c9 y+1+c9 q+1<=n:=by simp only [c9] at hs;omega
      have s1:=sub x (k+4) (by omega) hx;have s2:=sub y (k+4+c9 x) (by omega) hy;have s3:=sub q (k+4+c9 x+c9 y) (by omega) (by rw [<-hq];simp only [c9];congr 1;omega);funext g Q E D H;simp only [U,W3,s1,s2,s3]
     | _=>funext g Q E D H;simp only [U,W3] at plain ⊢;simp only [plain]
    | _=>funext g Q E D H;simp only [U,W3] at plain ⊢;simp only [plain]
   | _=>funext g Q E D H;simp only [U,W3] at gen ⊢;simp only [gen.1,gen.2]
  | cond c x y =>
   have e2:pre (.cond c x y)=.cond c x y::(pre x++pre y):=by simp [pre,jH]
   have hx:=xH (b:=y) hk (by simp) ⟨_,_,e2⟩;have hy:=Gg hk (by simp) ⟨_,e2⟩;have hxy:c9 x+c9 y<=n:=by simp only [c9] at hc;omega
   have s1:=sub x (k+1) (by omega) hx;have s2:=sub y (k+1+c9 x) (by omega) hy;funext g Q E D H;simp only [U,W3,s1,s2]
  | block i b =>
   have s1:=sub b (k+1) (by simp only [c9] at hc;omega) (xH (b:=b) hk (by simp) ⟨.block i b,[],by simp [pre]⟩);funext g Q E D H;simp only [U,W3,s1]
  | scope b =>
   have s1:=sub b (k+1) (by simp only [c9] at hc;omega) (xH (b:=b) hk (by simp) ⟨.scope b,[],by simp [pre]⟩);funext g Q E D H;simp only [U,W3,s1]
  | loop i b =>
   have s1:=sub b (k+1) (by simp only [c9] at hc;omega) (xH (b:=b) hk (by simp) ⟨.loop i b,[],by simp [pre]⟩);funext g Q E D H;cases i with
   | none=>simp only [U,W3,s1]
   | some _=>rfl
  | _=>funext g Q E D H;rfl
theorem GW:∃ F:aO->Ctx->Kp × ah->WX,F=λ M ctx p=>W3 M ctx p.1 p.2:=⟨_,rfl⟩
def W:aO->Ctx->Kp × ah->WX:=Classical.choose GW
theorem jF (M:aO) (ctx:Ctx) (p:Kp × ah):W M ctx p=W3 M ctx p.1 p.2:=congrFun (congrFun (congrFun (Classical.choose_spec GW) M) ctx) p
def funcAt (P:Program) (n:Nat):aw:=Option.rec (motive:=λ _=>aw) ⟨[],.stuck,[]⟩ (λ f=>f) ((aj P).func n)
def kP (F:aw) (i:Nat):dG:=Option.rec (motive:=λ _=>dG) ⟨[],.stuck,.stuck⟩ (λ l=>l) (nth F.loops i)
theorem aH {M:aO} {ctx:Ctx} {K:Kp} {r:ah} {k:Nat} {g:Bool} {Q:aJ} {E:Env} {D:List aL} {H:AHeap} {R:Prop} (h:U M ctx K (λ j=>W M ctx (K,part r j)) (part r k) k g Q E D H=R):W M ctx (K,part r k) g Q E D H=R:=by
 rw [<-h];have e:(λ j=>W M ctx (K,part r j))=λ j=>W3 M ctx K (part r j):=by funext j;exact jF ..
 rw [e,Lv (M:=M) (ctx:=ctx) (K:=K) r _ (part r k) (qg _) k rfl,jF]
abbrev uu:AV:=.undef
theorem sD (c:ah):part c 0=c:=q2b (so c)
theorem xz {α β:Type} {a b:α} {x y:β} (h:(a,x)=(b,y)):a=b/\x=y:=by injection h with h1 h2;exact ⟨h1,h2⟩
theorem GU {M:aO} {f:Nat} {fn:aw} (hf:M.func f=some fn) {ks:Kp} {vs:List AV} (hk:mf 0 vs.length ks.ae=true) {H:AHeap} {Q:bz->AHeap->Prop}
 (h:W M ⟨none,f⟩ (ks,part fn.body 0) true (aP M fn.results Q) (qE 0 vs) [] H):yj M f vs H Q:=by
 rw [jF,sD] at h;refine q6d hf (mi (W3.wp (di fn.body) fn.body (qg _) (up:=none) h (rN hk)) λ e st ⟨h1,E',h2,h3⟩=>?_);obtain ⟨tm,D,up,H'⟩:=st;have h1:up=none:=h1;subst h1;have mono:∀ {m:Option aC},jV M fn.results E' Q D m H'->rf M fn.results tm (λ e H=>(none:Option aC)=none/\Q e H) D m H':=λ {m} h=>by
  have h':jV M fn.results E' (λ e H=>(none:Option aC)=none/\Q e H) D m H':=by
   have e:(λ e H=>(none:Option aC)=none/\Q e H)=Q:=by funext e H;simp
   rw [e];exact h
  exact jV.Mb h2 h'
 cases e with
 | normal=>exact mono h3
 | ret=>exact mono h3
 | panic c=>exact mono h3
 | exit _=>exact h3.elim
 | goto _=>exact h3.elim
section
variable (E:Env) (H:AHeap) (K:Bool->AV->Prop) (K2:Bool->AV->AHeap->Prop) (A B:Bool->Prop)
def Lz (E:Env) (n:Nat) (K:Bool->AV->Prop):Prop:=LK true (lk E n) K
def Ly (g:Bool) (E:Env) (n:Nat) (K:Bool->AV->Prop):Prop:=LK g (lk E n) K
def Fl (g:Bool) (i:Nat) (a:AV) (H:AHeap) (K:Bool->AV->Prop):Prop:=B3 g (Op.fieldAddr i [a]) λ g x=>B3 g (Op.aa [x] H) K
def Nf (g:Bool) (i:Nat) (a:AV) (H:AHeap) (K:Bool->AV->Prop):Prop:=B3 g (Op.nilCheck [a]) λ g x=>Fl g i x H K
def Fs (g:Bool) (i:Nat) (a b:AV) (H:AHeap) (K:Bool->AV->AHeap->Prop):Prop:=B3 g (Op.fieldAddr i [a]) λ g x=>bf g (Op.store 1 [x,b] H) K
def Ns (g:Bool) (i:Nat) (a b:AV) (H:AHeap) (K:Bool->AV->AHeap->Prop):Prop:=B3 g (Op.nilCheck [a]) λ g x=>Fs g i x b H K
def Xl (g:Bool) (a b:AV) (H:AHeap) (K:Bool->AV->Prop):Prop:=B3 g (Op.aS 1 [a,b]) λ g x=>B3 g (Op.aa [x] H) K
def Xs (g:Bool) (a b c:AV) (H:AHeap) (K:Bool->AV->AHeap->Prop):Prop:=B3 g (Op.aS 1 [a,b]) λ g x=>bf g (Op.store 1 [x,c] H) K
def Bn (g:Bool) (o:BinOp) (a b:AV) (K:Bool->AV->Prop):Prop:=B3 g (Op.bin o [a,b]) K
def Cb (g:Bool) (o:BinOp) (a b:AV) (A B:Bool->Prop):Prop:=B3 g (Op.bin o [a,b]) λ g v=>bF g v A B
def Gt (g:Bool) (M:aO) (c:Ctx) (p:Kp × ah) (Q:aJ) (E:Env) (D:List aL) (H:AHeap):Prop:=az g (ao (W M c p) Q) .normal E D H
theorem Ku (n:Nat):Lz E n K=LK true (lk E n) K:=propext j5
theorem Kl (n:Nat):Ly true E n K=LK true (lk E n) K:=propext j5
theorem MO (i:Nat) (a:AV):Fl true i a H K=B3 true (Op.fieldAddr i [a]) λ g x=>B3 g (Op.aa [x] H) K:=propext j5
theorem KQ (i:Nat) (a:AV):Nf true i a H K=B3 true (Op.nilCheck [a]) λ g x=>Fl g i x H K:=propext j5
theorem MQ (i:Nat) (a b:AV):Fs true i a b H K2=B3 true (Op.fieldAddr i [a]) λ g x=>bf g (Op.store 1 [x,b] H) K2:=propext j5
theorem NX (i:Nat) (a b:AV):Ns true i a b H K2=B3 true (Op.nilCheck [a]) λ g x=>Fs g i x b H K2:=propext j5
theorem LQ (a b:AV):Xl true a b H K=B3 true (Op.aS 1 [a,b]) λ g x=>B3 g (Op.aa [x] H) K:=propext j5
theorem LP (a b c:AV):Xs true a b c H K2=B3 true (Op.aS 1 [a,b]) λ g x=>bf g (Op.store 1 [x,c] H) K2:=propext j5
theorem Lf (o:BinOp) (a b:AV):Bn true o a b K=B3 true (Op.bin o [a,b]) K:=propext j5
theorem Kz (o:BinOp) (a b:AV):Cb true o a b A B=B3 true (Op.bin o [a,b]) λ g v=>bF g v A B:=propext j5
theorem Nz (M:aO) (c:Ctx) (p:Kp × ah) (Q:aJ) (D:List aL):Gt true M c p Q E D H=az true (ao (W M c p) Q) .normal E D H:=propext j5
end
end
end Go.Am
namespace Go.Am
def Mv (g:Bool) (a:AV) (K:Bool->AV->Prop):Prop:=B3 g (Op.move [a]) K
theorem iZ (a:AV) (K:Bool->AV->Prop):Mv true a K=K true a:=propext j5
@[congr] theorem GX {g g':Bool} {a a':AV} {K:Bool->AV->Prop} (hg:g=g') (ha:a=a'):Mv g a K=Mv g' a' K:=by subst hg;subst ha;rfl
end Go.Am
namespace Go.Am
section
variable {M:aO} {ctx:Ctx} {ct:Bool} {Q Q':aJ} {E:Env} {D:List aL}
theorem I1 {α:Type} {m:Bool} {o:Option α} {K K':Bool -> α->Prop} (h:B3 m o K) (hk:∀ a,K m a->K' m a):B3 m o K':=by
 cases o with
 | none=>exact h
 | some a=>exact hk a h
theorem q4h {α β:Type} {m:Bool} {o:Option (α × β)} {K K':Bool -> α -> β->Prop} (h:bf m o K) (hk:∀ a b,K m a b->K' m a b):bf m o K':=by
 cases o with
 | none=>exact h
 | some a=>exact hk a.1 a.2 h
theorem q7o {α:Type} {m:Bool} {o:Option α} {K K':Bool -> α->Prop} (h:LK m o K) (hk:∀ a,K m a->K' m a):LK m o K':=by
 cases o with
 | none=>exact h
 | some a=>exact hk a h
theorem q4j {m:Bool} {v:AV} {A B A' B':Bool->Prop} (h:bF m v A B) (ha:A m->A' m) (hb:B m->B' m):bF m v A' B':=by
 obtain ⟨q,rfl,h⟩:=h.elim;cases q with
 | true=>exact ha h
 | false=>exact hb h
theorem L6 {L R:Env} {t:Nat} {g:Bool} {K K':Bool->Env->AV->Prop} (h:TV E L R t g K) (hk:∀ R v,K g R v->K' g R v):TV E L R t g K':=by
 unfold TV at h ⊢;cases hl:lk L t with
 | some v=>rw [hl] at h;exact hk _ _ h
 | none =>
  rw [hl] at h;cases hq:lk R t with
  | some v=>rw [hq] at h;exact hk _ _ h
  | none=>rw [hq] at h;exact q7o h λ v q=>hk _ _ q
theorem q7r {x:bD} {g:Bool} {K K':Bool->AV->Prop} (h:OV E x g K) (hk:∀ v,K g v->K' g v):OV E x g K':=by
 cases x with
 | tmp t=>simp only [OV] at h ⊢;exact q7o h hk
 | const v=>exact hk _ h
 | c8 b=>exact hk _ h
 | func f=>exact hk _ h
theorem yH {L R:Env} {x:bD} {g:Bool} {K K':Bool->AV->Prop} (h:CV E L R x g K) (hk:∀ v,K g v->K' g v):CV E L R x g K':=by
 cases x with
 | tmp t=>simp only [CV] at h ⊢;exact L6 h λ _ v=>hk v
 | const v=>exact hk _ h
 | c8 b=>exact hk _ h
 | func f=>exact hk _ h
theorem Gk {L:Env} {g:Bool}:∀ {l:List bD} {R:Env} {K K':Bool->Env->List AV->Prop},pS E L l g R K->(∀ R vs,K g R vs->K' g R vs)->pS E L l g R K'
 | [],R,K,K',h,hk=>hk _ _ h
 | .tmp t::xs,R,K,K',h,hk=>L6 (K:=λ g R v=>pS E L xs g R λ g R vs=>K g R (v::vs)) (K':=λ g R v=>pS E L xs g R λ g R vs=>K' g R (v::vs)) h λ R v q=>Gk (K:=λ g R vs=>K g R (v::vs)) (K':=λ g R vs=>K' g R (v::vs)) q λ R vs=>hk _ _
 | .const v::xs,R,K,K',h,hk=>Gk (l:=xs) (K:=λ g R vs=>K g R (v::vs)) (K':=λ g R vs=>K' g R (v::vs)) h λ R vs=>hk _ _
 | .c8 v::xs,R,K,K',h,hk=>Gk (l:=xs) (K:=λ g R vs=>K g R (.ptr v 0::vs)) (K':=λ g R vs=>K' g R (.ptr v 0::vs)) h λ R vs=>hk _ _
 | .func v::xs,R,K,K',h,hk=>Gk (l:=xs) (K:=λ g R vs=>K g R (.fn (.func v) [] []::vs)) (K':=λ g R vs=>K' g R (.fn (.func v) [] []::vs)) h λ R vs=>hk _ _
theorem q7s (hq:∀ e E D H,Q e E D H->Q' e E D H) {ps:Option (List Nat)} {ks:List Nat} {c:aC} {H:AHeap} (h:PX ps ks Q E D c H):PX ps ks Q' E D c H:=by
 cases ps with
 | none=>exact h
 | some _=>exact hq _ _ _ _ h
theorem Jk (hq:∀ e E D H,Q e E D H->Q' e E D H) {ps:Option (List Nat)} {L:Env} {g:Bool} {f:fj} {vs:List AV} {H:AHeap} {K K':Bool->AV->AHeap->Prop} (h:vB M ct ps L Q E D g f vs H K) (hk:∀ v H,K g v H->K' g v H):vB M ct ps L Q' E D g f vs H K':=by
 cases ct with
 | false=>obtain ⟨v,H',h1,h2⟩:=h;exact ⟨v,H',h1,hk _ _ h2⟩
 | true =>
  obtain ⟨e,H',h1,h2⟩:=h;refine ⟨e,H',h1,?_⟩;cases e with
  | ret v=>exact hk _ _ h2
  | panic c=>exact q7s hq h2
theorem rZ (hq:∀ e E D H,Q e E D H->Q' e E D H) {s:aV} {K K':KR} {g:Bool} {L R:Env} {H:AHeap} (h:vY M ct s Q E D K g L R H) (hk:∀ L R H,K g L R H->K' g L R H):vY M ct s Q' E D K' g L R H:=by
 refine Gk (show pS E L s.args g R _ from h) λ R vs h=>?_;obtain ⟨eN,dst,guard,args,op,ps⟩:=s;cases eN with
 | true =>
  have h:J2 dst E L R H K g vs op:=h;show J2 dst E L R H K' g vs op;cases op with
  | read f =>
   cases dst with
   | none=>exact h
   | some d=>exact ⟨h.1,hk _ _ _ h.2⟩
  | _=>exact h
 | false =>
  have h:nY M ct dst ps Q E D L R H K g vs op:=h;show nY M ct dst ps Q' E D L R H K' g vs op;cases op with
  | pure f=>simp only [nY] at h ⊢;exact I1 h λ a=>hk _ _ _
  | read f=>simp only [nY] at h ⊢;exact I1 h λ a=>hk _ _ _
  | alloc f=>simp only [nY] at h ⊢;exact q4h h λ a b=>hk _ _ _
  | eF f=>simp only [nY] at h ⊢;exact q4h h λ a b=>hk _ _ _
  | eM f=>exact Jk hq h λ v H=>hk _ _ _
  | eL =>
   simp only [nY,V3] at h ⊢;split at h
   ·exact Jk hq h λ v H=>hk _ _ _
   ·exact Jk hq h λ v H=>hk _ _ _
   ·exact h.elim
  | invoke n =>
   simp only [nY,N3] at h ⊢;split at h
   ·exact I1 h λ a q=>Jk hq q λ v H=>hk _ _ _
   ·exact h.elim
  | recover=>exact h
  | defer=>exact h
  | panic =>
   cases ct with
   | false=>exact h
   | true =>
    have h:dW vs H (PX ps (iL L) Q E D):=h;show dW vs H (PX ps (iL L) Q' E D);unfold dW at h ⊢;split at h
    ·exact q7s hq h
    ·exact h.elim
theorem Ki (hq:∀ e E D H,Q e E D H->Q' e E D H) {K K':KR} {g:Bool} (hk:∀ L R H,K g L R H->K' g L R H):∀ {l:List aV} {L R:Env} {H:AHeap},jY M ct Q E D K l g L R H->jY M ct Q' E D K' l g L R H
 | [],L,R,H,h=>hk _ _ _ h
 | s::l,L,R,H,h=>rZ hq (show vY M ct s Q E D (jY M ct Q E D K l) g L R H from h) λ L R H=>Ki hq hk
theorem Kv:∀ (n:Nat) {f f':List AV->AHeap->Prop},(∀ vs H,f vs H->f' vs H) -> ∀ (l:List AV) (H:AHeap),jO n (kE n f) l H->jO n (kE n f') l H
 | 0,f,f',hf,l,H,h=>hf [] H h
 | n+1,f,f',hf,[],H,h=>h
 | n+1,f,f',hf,v::l,H,h=>Kv n (f:=λ l=>f (v::l)) (f':=λ l=>f' (v::l)) (λ vs H=>hf _ _) l H h
theorem sO (hq:∀ e E D H,Q e E D H->Q' e E D H) {x:xP} {K K':KR} {g:Bool} (hk:∀ L R H,K g L R H->K' g L R H) {L R:Env} {H:AHeap} (h:Jc M ct Q E D x K g L R H):Jc M ct Q' E D x K' g L R H:=by
 obtain ⟨q,l⟩:=x;cases q with
 | none=>exact Ki hq hk (show jY M ct Q E D K l g L R H from h)
 | some q =>
  cases ho:pj q.1 l with
  | false =>
   have h:cond (pj q.1 l) _ False:=h;rw [ho] at h;exact h.elim
  | true =>
   have h:cond (pj q.1 l) _ False:=h;rw [ho,xe] at h;show cond (pj q.1 l) _ False;rw [ho,xe];refine L6 h λ R1 v h=>?_;have h:B3 g (aE q.2 (some v)) λ g w=>cF g w (λ g=>jY M ct Q E D (λ g L' _ H=>jO (cz (bq l [])) (kE (cz (bq l [])) λ vs H=>K g (gJ (bq l []) L vs) R1 H) (lW (cz (bq l [])) L') H) l g L R1 H)
    (λ g=>jO (cz (bq l [])) (kE (cz (bq l [])) λ vs H=>K g (gJ (bq l []) L vs) R1 H) (mM (cz (bq l []))) H):=h
   refine I1 (K':=λ g w=>cF g w (λ g=>jY M ct Q' E D (λ g L' _ H=>jO (cz (bq l [])) (kE (cz (bq l [])) λ vs H=>K' g (gJ (bq l []) L vs) R1 H) (lW (cz (bq l [])) L') H) l g L R1 H)
    (λ g=>jO (cz (bq l [])) (kE (cz (bq l [])) λ vs H=>K' g (gJ (bq l []) L vs) R1 H) (mM (cz (bq l []))) H)) h λ w h=>?_
   cases w with
   | true=>exact Ki hq (λ L' R H h=>Kv _ (λ vs H=>hk _ _ _) _ _ h) (show jY M ct Q E D _ l g L R1 H from h)
   | false=>exact Kv _ (λ vs H=>hk _ _ _) _ _ h
theorem I6 (hq:∀ e E D H,Q e E D H->Q' e E D H) {l:List aV} {K K':KR} {g:Bool} (hk:∀ L R H,K g L R H->K' g L R H) {H:AHeap} (h:mb M ct Q E D l g H K):mb M ct Q' E D l g H K':=by
 unfold mb at h ⊢;generalize Ep l=gs at h ⊢;generalize ([]:Env)=L at h ⊢;have key:∀ (gs:List xP) (L R:Env) (H:AHeap),qR M ct Q E D K gs g L R H->qR M ct Q' E D K' gs g L R H:=by
  intro gs
  induction gs with
  | nil=>exact λ L R H h=>hk _ _ _ h
  | cons x gs ih=>exact λ L R H h=>sO hq ih (show Jc M ct Q E D x (qR M ct Q E D K gs) g L R H from h)
 exact key gs L L H h
theorem Ap {K:Kp}:∀ (n:Nat) (c:ah),di c<=n -> ∀ {g:Bool} {Q Q':aJ} {E:Env} {D:List aL} {H:AHeap},(∀ e E D H,Q e E D H->Q' e E D H)->W3 M ctx K c g Q E D H->W3 M ctx K c g Q' E D H:=by
 intro n
 induction n with
 | zero =>
  intro c hc g Q Q' E D H hq h;cases c with
  | region l=>exact I6 hq (λ L R H h=>hq _ _ _ _ h) h
  | rangeFunc f k =>
   have h:OV E f g λ g v=>fw M K.ae ctx k E D H Q v:=h;show OV E f g λ g v=>fw M K.ae ctx k E D H Q' v;have key:∀ v,fw M K.ae ctx k E D H Q v->fw M K.ae ctx k E D H Q' v:=λ v h tm up he=>by
    have:=h tm up he;unfold Bl at this ⊢;split
    ·rename_i hr;rw [hr] at this;exact FZ this λ e st ⟨h1,h2,h3⟩=>⟨h1,h2,hq _ _ _ _ h3⟩
    ·rename_i l hr;rw [hr] at this;exact wN (m:=aB) this λ d q=>FZ q λ e st ⟨h1,h2,h3⟩=>⟨h1,h2,hq _ _ _ _ h3⟩
   exact q7r h key
  | skip=>exact hq _ _ _ _ h
  | label _=>exact hq _ _ _ _ h
  | exit _=>exact hq _ _ _ _ h
  | goto _=>exact hq _ _ _ _ h
  | ret=>exact hq _ _ _ _ h
  | stuck=>exact h
  | seq _ _=>simp [di] at hc
  | cond _ _ _=>simp [di] at hc
  | block _ _=>simp [di] at hc
  | loop _ _=>simp [di] at hc
  | scope _=>simp [di] at hc
 | succ n ih =>
  intro c hc g Q Q' E D H hq h;have sq:∀ {b:ah},di b<=n -> ∀ e E D H,ao (W3 M ctx K b) Q e E D H->ao (W3 M ctx K b) Q' e E D H:=λ hb e E D H h=>by
   cases e with
   | normal=>exact ih _ hb hq h
   | _=>exact hq _ _ _ _ h
  cases c with
  | seq a b =>
   have hab:di a+di b<=n:=by simp only [di] at hc;omega
   have gen:W3 M ctx K a g (ao (W3 M ctx K b) Q) E D H->W3 M ctx K a g (ao (W3 M ctx K b) Q') E D H:=λ h=>ih a (by omega) (sq (by omega)) h;cases a with
   | region l =>
    have plain:(mb M K.ct Q E D l g H λ g L _ H=>W3 M ctx K b g Q (c7 K.ae E L) D H)->mb M K.ct Q' E D l g H λ g L _ H=>W3 M ctx K b g Q' (c7 K.ae E L) D H:=λ h=>I6 hq (λ L R H h=>ih b (by omega) hq h) h;have cv:∀ {L R:Env} {c:bD} {A B A' B':Bool->Prop},CV E L R c g (λ g v=>bF g v A B)->(A g->A' g)->(B g->B' g)->CV E L R c g (λ g v=>bF g v A' B'):=λ {L R c A B A' B'} h ha hb=>by
     exact yH h λ v h=>q4j h ha hb
    cases b with
    | cond c x y =>
     have hxy:di x+di y+1<=n:=by simp only [di] at hab;omega
     exact I6 hq (λ L R H h=>cv h (ih x (by omega) hq) (ih y (by omega) hq)) h
    | seq b1 r =>
     cases b1 with
     | cond c x y =>
      have hxy:di x+di y+1+di r+1<=n:=by simp only [di] at hab;omega
      exact I6 hq (λ L R H h=>cv h (ih x (by omega) (sq (by omega))) (ih y (by omega) (sq (by omega)))) h
     | _=>exact plain h
    | _=>exact plain h
   | _=>exact gen h
  | cond c x y =>
   have hab:di x+di y<=n:=by simp only [di] at hc;omega
   have h:OV E c g λ g v=>bF g v (λ g=>W3 M ctx K x g Q E D H) (λ g=>W3 M ctx K y g Q E D H):=h;exact q7r (K':=λ g v=>bF g v (λ g=>W3 M ctx K x g Q' E D H) (λ g=>W3 M ctx K y g Q' E D H)) h λ v h=>q4j h (ih x (by omega) hq) (ih y (by omega) hq)
  | block id b =>
   have hb:di b<=n:=by simp only [di] at hc;omega
   exact ih b hb (λ e E D H h=>by cases e<;>exact hq _ _ _ _ h) h
  | scope b =>
   have hb:di b<=n:=by simp only [di] at hc;omega
   exact ih b hb (λ e E D H h=>by cases e<;>first|exact hq _ _ _ _ h|exact ⟨h.1,hq _ _ _ _ h.2⟩) h
  | loop ae b =>
   have hb:di b<=n:=by simp only [di] at hc;omega
   cases ae with
   | some _=>exact h
   | none =>
    obtain ⟨I,h0,h1⟩:=h;exact ⟨I,h0,λ n E D H hi=>ih b hb (λ e E D H h=>by cases e<;>first|exact h|exact hq _ _ _ _ h) (h1 n E D H hi)⟩
  | _=>exact ih _ (zl _) hq h
end
theorem W.mono {M:aO} {ctx:Ctx} {p:Kp × ah} {g:Bool} {Q Q':aJ} {E:Env} {D:List aL} {H:AHeap} (h:W M ctx p g Q E D H) (hq:∀ e E D H,Q e E D H->Q' e E D H):W M ctx p g Q' E D H:=by
 rw [jF] at h ⊢;exact Ap _ p.2 (qg _) hq h
end Go.Am
namespace Go.Am
noncomputable section
variable (X:WX) (Q:aJ) (E:Env) (D:List aL) (H:AHeap) (I:CL) (n:Nat)
theorem q21:ao X Q .normal E D H=X true Q E D H:=propext j5
theorem u7:ao X Q .ret E D H=Q .ret E D H:=propext j5
theorem q7t (l:Nat):ao X Q (.exit l) E D H=Q (.exit l) E D H:=propext j5
theorem q7u (l:Nat):ao X Q (.goto l) E D H=Q (.goto l) E D H:=propext j5
theorem q56 (c:aC):ao X Q (.panic c) E D H=Q (.panic c) E D H:=propext j5
theorem q2x (i:Nat):aK i Q .normal E D H=Q .normal E D H:=propext j5
theorem uc (i:Nat):aK i Q .ret E D H=Q .ret E D H:=propext j5
theorem q7h (i l:Nat):aK i Q (.goto l) E D H=Q (.goto l) E D H:=propext j5
theorem q5v (i:Nat) (c:aC):aK i Q (.panic c) E D H=Q (.panic c) E D H:=propext j5
theorem q7g (i l:Nat):aK i Q (.exit l) E D H=if i=l then Q .normal E D H else Q (.exit l) E D H:=by
 show Q (cond (Nat.beq i l) .normal (.exit l)) E D H=_
 by_cases h:i=l
 ·subst h;simp
 ·rw [qd h,DI h];rfl
section
variable (M:aO) (rs:List cU) (Q:bz->AHeap->Prop) (P:List AV->Prop) (R:AV->AHeap->Prop)
theorem rI:aP M rs Q .ret E [] H=dp E H rs λ l=>Q (.ret (dg l)) H:=propext j5
theorem q20:aP M rs Q .normal E [] H=dp E H rs λ l=>Q (.ret (dg l)) H:=propext j5
theorem q51 (c:aC):aP M rs Q (.panic c) E [] H=Q (.panic c) H:=propext j5
theorem uL:dp E H [] P=P []:=propext j5
theorem tz (t:Nat):dp E H (.tmp t::rs) P=LK true (lk E t) λ _ v=>dp E H rs λ vs=>P (v::vs):=propext j5
theorem q54 (t:Nat):dp E H (.gq t::rs) P=LK true (lk E t) λ _ v=>B3 true (Op.aa [v] H) λ _ v=>dp E H rs λ vs=>P (v::vs):=propext j5
theorem q55 (n t:Nat):dp E H (.cC n t::rs) P=LK true (lk E t) λ _ v=>B3 true (Op.aq n [v] H) λ _ v=>dp E H rs λ vs=>P (v::vs):=propext j5
theorem wS (v:AV):lM R (.ret v) H=R v H:=propext j5
end
theorem BG:((0:Nat):Int)=0:=rfl
theorem xw (l:List AV):AV.cells (.agg l)=l:=rfl
theorem q8b (k:IntKind) (n:Int):AV.cells (.int k n)=[.int k n]:=rfl
theorem q6g (b:Bool):AV.cells (.bool b)=[.bool b]:=rfl
theorem q8d (s:List UInt8):AV.cells (.str s)=[.str s]:=rfl
theorem q8c (b o:Nat):AV.cells (.ptr b o)=[.ptr b o]:=rfl
def rA (I:Nat->Env->AHeap->Prop) (D:List aL) (n:Nat) (Q:aJ):aJ:=λ e E D' H=>match e with
 | .normal=>D'=D /\ ∃ m E',I m E' H/\mX E' E/\m<n
 | e=>Q e E D' H
theorem bG.intro {M:aO} {ctx:Ctx} {p:Kp × ah} {Q:aJ} {E:Env} {D:List aL} {H:AHeap} (I:Nat->Env->AHeap->Prop) (h0:∃ n E0,I n E0 H/\mX E0 E) (h:∀ n E H,I n E H->W M ctx p true (rA I D n Q) E D H):bG (W M ctx p) Q E D H:=by
 obtain ⟨n,E0,h1,h2⟩:=h0;refine ⟨λ n E D' H=>D'=D/\I n E H,⟨n,E0,⟨rfl,h1⟩,h2.ss⟩,λ n E D' H ⟨e,hi⟩=>?_⟩;subst e;refine W.mono (h n E H hi) λ e E D'' H hq=>?_;cases e with
 | normal=>obtain ⟨q,m,E',a,b,c⟩:=hq;exact ⟨m,E',⟨q,a⟩,b.ss,c⟩
 | _=>exact hq
def wU (P:Env->List aL->AHeap->Prop) (Q:aJ):aJ:=λ e E D H=>match e with
 | .normal=>P E D H
 | e=>Q e E D H
theorem q52 (P:Env->List aL->AHeap->Prop) (Q:aJ) (E:Env) (D:List aL) (H:AHeap):wU P Q .normal E D H=P E D H:=propext j5
theorem xK (P:Env->List aL->AHeap->Prop) (Q:aJ) (E:Env) (D:List aL) (H:AHeap):wU P Q .ret E D H=Q .ret E D H:=propext j5
theorem uO (P:Env->List aL->AHeap->Prop) (Q:aJ) (E:Env) (D:List aL) (H:AHeap) (l:Nat):wU P Q (.exit l) E D H=Q (.exit l) E D H:=propext j5
def LN (X:WX) (Q:aJ):Nat->Env->List aL->AHeap->Prop
 | 0,_,_,_=>False
 | n+1,E,D,H=>X true (wU (LN X Q n) Q) E D H
theorem xL (X:WX) (Q:aJ) (n:Nat) (E:Env) (D:List aL) (H:AHeap):LN X Q (n+1) E D H=X true (wU (LN X Q n) Q) E D H:=propext j5
theorem q53 (I:Nat->Env->AHeap->Prop) (D:List aL) (n:Nat) (Q:aJ) (E:Env) (H:AHeap):rA I D n Q .normal E D H = ∃ m E',I m E' H/\mX E' E/\m<n:=propext ⟨λ h=>h.2,λ h=>⟨rfl,h⟩⟩
theorem yX (I:Nat->Env->AHeap->Prop) (D D':List aL) (n:Nat) (Q:aJ) (E:Env) (H:AHeap):rA I D n Q .ret E D' H=Q .ret E D' H:=propext j5
theorem rO (I:Nat->Env->AHeap->Prop) (D D':List aL) (n:Nat) (Q:aJ) (E:Env) (H:AHeap) (l:Nat):rA I D n Q (.exit l) E D' H=Q (.exit l) E D' H:=propext j5
theorem uZ (I:Nat->Env->AHeap->Prop) (D D':List aL) (n:Nat) (Q:aJ) (E:Env) (H:AHeap) (l:Nat):rA I D n Q (.goto l) E D' H=Q (.goto l) E D' H:=propext j5
theorem q7p (I:Nat->Env->AHeap->Prop) (D D':List aL) (n:Nat) (Q:aJ) (E:Env) (H:AHeap) (c:aC):rA I D n Q (.panic c) E D' H=Q (.panic c) E D' H:=propext j5
theorem Iy:(∀ {α:Type} (a:α) (K:Bool -> α->Prop),LK true (some a) K=K true a)/\(∀ {α:Type} (a:α) (K:Bool -> α->Prop),B3 true (some a) K=K true a)/\(∀ {α β:Type} (a:α) (b:β) (K:Bool -> α -> β->Prop),bf true (some (a,b)) K=K true a b)/\(∀ (A B:Bool->Prop),bF true (AV.bool true) A B=A true)/\(∀ (A B:Bool->Prop),bF true (AV.bool false) A B=B true)/\(∀ (A B:Bool->Prop),cF true true A B=A true)/\(∀ (A B:Bool->Prop),cF true false A B=B true)/\(∀ (v:AV) (K:Bool->Prop),rq true (some v) (some v) K=K true)/\(∀ (e:Nat) (z:List AV) (H:AHeap) (K:Bool->AV->AHeap->Prop),A3 true e z H K=K true (AV.ptr H.next 0) (H.alloc (bN.row z e (0,0) true)))/\(∀ {α:Type} (F:α->Prop) (K:α),JN F K=F K)/\(∀ (Q:aJ) (e:aF) (E:Env) (D:List aL) (H:AHeap),az true Q e E D H=Q e E D H)/\(∀ (g:Nat) (first cap args:List AV) (K:Bool->fj->List AV->Prop),V3 true (AV.fn (fj.func g) first cap::args) K=K true (fj.func g) (first++(args++cap)))/\(∀ (l:Nat) (first args:List AV) (K:Bool->fj->List AV->Prop),V3 true (AV.fn (fj.yield l) first []::args) K=K true (fj.yield l) (first++args))/\(∀ (M:aO) (name:String) (t:Nat) (v:AV) (args:List AV) (K:Bool->fj->List AV->Prop),N3 M true name (AV.iface t v::args) K=B3 true (M.lI t name) λ m g=>K m (fj.func g) (v::args))/\(∀ (k t:Nat) (v:AV) (E:Env),lk ((k,v)::E) t=if k=t then some v else lk E t)/\(∀ (t:Nat),lk [] t=none)/\(∀ (k:Nat) (v:AV) (r E:Env),mX ((k,v)::r) E=(lk E k=some v/\mX r E))/\(∀ (E:Env),mX [] E=True)/\(∀ (X:WX) (Q:aJ) (E:Env) (D:List aL) (H:AHeap),ao X Q aF.normal E D H=X true Q E D H)/\(∀ (X:WX) (Q:aJ) (E:Env) (D:List aL) (H:AHeap),ao X Q aF.ret E D H=Q aF.ret E D H)/\(∀ (X:WX) (Q:aJ) (E:Env) (D:List aL) (H:AHeap) (l:Nat),ao X Q (aF.exit l) E D H=Q (aF.exit l) E D H)/\(∀ (X:WX) (Q:aJ) (E:Env) (D:List aL) (H:AHeap) (l:Nat),ao X Q (aF.goto l) E D H=Q (aF.goto l) E D H)/\(∀ (X:WX) (Q:aJ) (E:Env) (D:List aL) (H:AHeap) (c:aC),ao X Q (aF.panic c) E D H=Q (aF.panic c) E D H)/\(∀ (Q:aJ) (E:Env) (D:List aL) (H:AHeap) (i:Nat),aK i Q aF.normal E D H=Q aF.normal E D H)/\(∀ (Q:aJ) (E:Env) (D:List aL) (H:AHeap) (i:Nat),aK i Q aF.ret E D H=Q aF.ret E D H)/\(∀ (Q:aJ) (E:Env) (D:List aL) (H:AHeap) (i l:Nat),aK i Q (aF.goto l) E D H=Q (aF.goto l) E D H)/\(∀ (Q:aJ) (E:Env) (D:List aL) (H:AHeap) (i:Nat) (c:aC),aK i Q (aF.panic c) E D H=Q (aF.panic c) E D H)/\(∀ (Q:aJ) (E:Env) (D:List aL) (H:AHeap) (i l:Nat),aK i Q (aF.exit l) E D H=if i=l then Q aF.normal E D H else Q (aF.exit l) E D H)/\(∀ (P:Env->List aL->AHeap->Prop) (Q:aJ) (E:Env) (D:List aL) (H:AHeap),wU P Q aF.normal E D H=P E D H)/\(∀ (P:Env->List aL->AHeap->Prop) (Q:aJ) (E:Env) (D:List aL) (H:AHeap),wU P Q aF.ret E D H=Q aF.ret E D H)/\(∀ (P:Env->List aL->AHeap->Prop) (Q:aJ) (E:Env) (D:List aL) (H:AHeap) (l:Nat),wU P Q (aF.exit l) E D H=Q (aF.exit l) E D H)/\(∀ (X:WX) (Q:aJ) (n:Nat) (E:Env) (D:List aL) (H:AHeap),LN X Q (n+1) E D H=X true (wU (LN X Q n) Q) E D H)/\(∀ (I:Nat->Env->AHeap->Prop) (D:List aL) (n:Nat) (Q:aJ) (E:Env) (H:AHeap),rA I D n Q aF.normal E D H = ∃ m E',I m E' H/\mX E' E/\m<n)/\(∀ (I:Nat->Env->AHeap->Prop) (D D':List aL) (n:Nat) (Q:aJ) (E:Env) (H:AHeap),rA I D n Q aF.ret E D' H=Q aF.ret E D' H)/\(∀ (I:Nat->Env->AHeap->Prop) (D D':List aL) (n:Nat) (Q:aJ) (E:Env) (H:AHeap) (l:Nat),rA I D n Q (aF.exit l) E D' H=Q (aF.exit l) E D' H)/\(∀ (I:Nat->Env->AHeap->Prop) (D D':List aL) (n:Nat) (Q:aJ) (E:Env) (H:AHeap) (l:Nat),rA I D n Q (aF.goto l) E D' H=Q (aF.goto l) E D' H)/\(∀ (I:Nat->Env->AHeap->Prop) (D D':List aL) (n:Nat) (Q:aJ) (E:Env) (H:AHeap) (c:aC),rA I D n Q (aF.panic c) E D' H=Q (aF.panic c) E D' H)/\(∀ (E:Env) (H:AHeap) (M:aO) (rs:List cU) (Q:bz->AHeap->Prop),aP M rs Q aF.ret E [] H=dp E H rs λ l=>Q (bz.ret (dg l)) H)/\(∀ (E:Env) (H:AHeap) (M:aO) (rs:List cU) (Q:bz->AHeap->Prop),aP M rs Q aF.normal E [] H=dp E H rs λ l=>Q (bz.ret (dg l)) H)/\(∀ (E:Env) (H:AHeap) (M:aO) (rs:List cU) (Q:bz->AHeap->Prop) (c:aC),aP M rs Q (aF.panic c) E [] H=Q (bz.panic c) H)/\(∀ (E:Env) (H:AHeap) (P:List AV->Prop),dp E H [] P=P [])/\(∀ (E:Env) (H:AHeap) (rs:List cU) (P:List AV->Prop) (t:Nat),dp E H (cU.tmp t::rs) P=LK true (lk E t) λ x v=>dp E H rs λ vs=>P (v::vs))/\(∀ (E:Env) (H:AHeap) (rs:List cU) (P:List AV->Prop) (t:Nat),dp E H (cU.gq t::rs) P=LK true (lk E t) λ x v=>B3 true (Op.aa [v] H) λ x v=>dp E H rs λ vs=>P (v::vs))/\(∀ (E:Env) (H:AHeap) (rs:List cU) (P:List AV->Prop) (n t:Nat),dp E H (cU.cC n t::rs) P=LK true (lk E t) λ x v=>B3 true (Op.aq n [v] H) λ x v=>dp E H rs λ vs=>P (v::vs))/\(∀ (H:AHeap) (R:AV->AHeap->Prop) (v:AV),lM R (bz.ret v) H=R v H)/\(∀ (E:Env) (K:Bool->AV->Prop) (n:Nat),Lz E n K=LK true (lk E n) K)/\(∀ (E:Env) (K:Bool->AV->Prop) (n:Nat),Ly true E n K=LK true (lk E n) K)/\(∀ (H:AHeap) (K:Bool->AV->Prop) (i:Nat) (a:AV),Fl true i a H K=B3 true (Op.fieldAddr i [a]) λ g x=>B3 g (Op.aa [x] H) K)/\(∀ (H:AHeap) (K:Bool->AV->Prop) (i:Nat) (a:AV),Nf true i a H K=B3 true (Op.nilCheck [a]) λ g x=>Fl g i x H K)/\(∀ (H:AHeap) (K2:Bool->AV->AHeap->Prop) (i:Nat) (a b:AV),Fs true i a b H K2=B3 true (Op.fieldAddr i [a]) λ g x=>bf g (Op.store 1 [x,b] H) K2)/\(∀ (H:AHeap) (K2:Bool->AV->AHeap->Prop) (i:Nat) (a b:AV),Ns true i a b H K2=B3 true (Op.nilCheck [a]) λ g x=>Fs g i x b H K2)/\(∀ (H:AHeap) (K:Bool->AV->Prop) (a b:AV),Xl true a b H K=B3 true (Op.aS 1 [a,b]) λ g x=>B3 g (Op.aa [x] H) K)/\(∀ (H:AHeap) (K2:Bool->AV->AHeap->Prop) (a b c:AV),Xs true a b c H K2=B3 true (Op.aS 1 [a,b]) λ g x=>bf g (Op.store 1 [x,c] H) K2)/\(∀ (K:Bool->AV->Prop) (o:BinOp) (a b:AV),Bn true o a b K=B3 true (Op.bin o [a,b]) K)/\(∀ (A B:Bool->Prop) (o:BinOp) (a b:AV),Cb true o a b A B=B3 true (Op.bin o [a,b]) λ g v=>bF g v A B)/\(∀ (E:Env) (H:AHeap) (M:aO) (c:Ctx) (p:Kp × ah) (Q:aJ) (D:List aL),Gt true M c p Q E D H=az true (ao (W M c p) Q) aF.normal E D H)/\dg []=AV.tuple []/\(∀ (v:AV),dg [v]=v) /\ ∀ (a b:AV) (l:List AV),dg (a::b::l)=AV.tuple (a::b::l) :=
 And.intro @yN<|And.intro @xQ<|And.intro @tQ<|And.intro vT<|And.intro q7m<|And.intro sM<|And.intro q7n<|And.intro Jx<|And.intro GO<|And.intro @qh<|And.intro uf <|
 And.intro xI<|And.intro vN<|And.intro rK<|And.intro ou<|And.intro vR<|And.intro si<|And.intro wW <|
 And.intro q21<|And.intro u7<|And.intro q7t<|And.intro q7u<|And.intro q56<|And.intro q2x<|And.intro uc<|And.intro q7h<|And.intro q5v<|And.intro q7g <|
 And.intro q52<|And.intro xK<|And.intro uO<|And.intro xL<|And.intro q53<|And.intro yX<|And.intro rO<|And.intro uZ<|And.intro q7p<|And.intro rI<|And.intro q20<|And.intro q51<|And.intro uL<|And.intro tz<|And.intro q54<|And.intro q55 <|
 And.intro wS<|And.intro Ku<|And.intro Kl<|And.intro MO<|And.intro KQ<|And.intro MQ<|And.intro NX<|And.intro LQ<|And.intro LP<|And.intro Lf<|And.intro Kz<|And.intro Nz<|And.intro LB<|And.intro Lr Nm
theorem Hj:(∀ (v:AV),Op.move [v]=some v)/\(∀ (q:Bool) (a b:AV),Op.pick [AV.bool q,a,b]=some (bif q then a else b))/\(∀ (k:IntKind) (a b:Int),Op.bin BinOp.add [AV.int k a,AV.int k b]=some (AV.int k (aZ k (a+b))))/\(∀ (k:IntKind) (a b:Int),Op.bin BinOp.sub [AV.int k a,AV.int k b]=some (AV.int k (aZ k (a-b))))/\(∀ (k:IntKind) (a b:Int),Op.bin BinOp.mul [AV.int k a,AV.int k b]=some (AV.int k (aZ k (a*b))))/\(∀ (k:IntKind) (a b:Int),Op.bin BinOp.eql [AV.int k a,AV.int k b]=some (AV.bool (decide (a=b))))/\(∀ (k:IntKind) (a b:Int),Op.bin BinOp.neq [AV.int k a,AV.int k b]=some (AV.bool (decide (a ≠ b))))/\(∀ (k:IntKind) (a b:Int),Op.bin BinOp.lss [AV.int k a,AV.int k b]=some (AV.bool (decide (a<b))))/\(∀ (k:IntKind) (a b:Int),Op.bin BinOp.leq [AV.int k a,AV.int k b]=some (AV.bool (decide (a<=b))))/\(∀ (k:IntKind) (a b:Int),Op.bin BinOp.gtr [AV.int k a,AV.int k b]=some (AV.bool (decide (b<a))))/\(∀ (k:IntKind) (a b:Int),Op.bin BinOp.geq [AV.int k a,AV.int k b]=some (AV.bool (decide (b<=a))))/\(∀ (k:IntKind) (a:Int) (k':IntKind),Op.wrap k [AV.int k' a]=some (AV.int k (aZ k a)))/\(∀ (q:Bool),Op.un UnOp.not [AV.bool q]=some (AV.bool !q))/\(∀ (a b:List UInt8),Op.bin BinOp.eql [AV.str a,AV.str b]=some (AV.bool (decide (a=b))))/\(∀ (a b:List UInt8),Op.bin BinOp.neq [AV.str a,AV.str b]=some (AV.bool (decide (a ≠ b))))/\(∀ (s:List UInt8),Op.oX [AV.str s]=some (AV.int IntKind.i64 ↑s.length))/\(∀ (f n:Nat) (l:List AV),Op.cB f n l=some (AV.fn (fj.func f) (List.take n l) (List.drop n l)))/\(∀ (t:Nat) (v:AV),Op.pG t [v]=some (AV.iface t v))/\(∀ (off b o:Nat),Op.fieldAddr off [AV.ptr b o]=some (AV.ptr b (o+off)))/\(∀ (off:Nat) (l:List AV),Op.field off none [AV.agg l]=l[off]?)/\(∀ (q:Bool),aE true (some (AV.bool q))=some q)/\(∀ (q:Bool),aE false (some (AV.bool q))=some !q)/\(∀ (b:Bool),aE b (some AV.undef)=some false)/\(∀ (b:Nat),Op.ptrTo b=AV.ptr b 0)/\(∀ (l:List AV),(AV.agg l).cells=l)/\(∀ (k:IntKind) (n:Int),(AV.int k n).cells=[AV.int k n])/\(∀ (b:Bool),(AV.bool b).cells=[AV.bool b])/\(∀ (s:List UInt8),(AV.str s).cells=[AV.str s])/\(∀ (b o:Nat),(AV.ptr b o).cells=[AV.ptr b o])/\(∀ (h:Decidable True),decide True=true)/\(∀ (h:Decidable False),decide False=false)/\(!true)=false/\(!false)=true/\(¬True)=False/\(¬False)=True/\(∀ {α:Type} (a b:α),(a ≠ b) = ¬a=b)/\(∀ (p:Prop),(True/\p)=p)/\(∀ (p:Prop),(p/\True)=p)/\(∀ (p:Prop),(False/\p)=False)/\(∀ (p:Prop),(p/\False)=False)/\(∀ {α:Type} (a b:α),(bif true then a else b)=a)/\(∀ {α:Type} (a b:α),(bif false then a else b)=b)/\(∀ {α:Type} {β:Type} (a:α) (f:α->Option β),(some a).bind f=f a)/\(∀ (n:Nat),n+0=n)/\(∀ (n:Nat),0+n=n)/\(∀ {α:Type} {a:α} {l:List α},(a::l)[0]? = some a)/\(∀ {α:Type} {a:α} {i:Nat} {l:List α},(a::l)[i+1]? = l[i]?)/\(∀ {α:Type} (as:List α),[]++as=as) /\ ∀ {α:Type} {a:α} {as bs:List α},a::as++bs=a::(as++bs) :=
 And.intro E5<|And.intro El<|And.intro @Hf<|And.intro @Ie<|And.intro @IM<|And.intro @IJ<|And.intro @IL<|And.intro @IC<|And.intro @Ir<|And.intro @Hw<|And.intro @HD<|And.intro @Ch<|And.intro Gy <|
 And.intro Cd<|And.intro DA<|And.intro uS<|And.intro rR<|And.intro q9m<|And.intro q3x<|And.intro tw<|And.intro DJ<|And.intro zN<|And.intro zY<|And.intro GP <|
 And.intro xw<|And.intro q8b<|And.intro q6g<|And.intro q8d<|And.intro q8c<|And.intro @decide_true<|And.intro @decide_false<|And.intro Bool.not_true<|And.intro Bool.not_false<|And.intro not_true_eq_false<|And.intro not_false_eq_true<|And.intro @ne_eq<|And.intro pe<|And.intro lG<|And.intro false_and<|And.intro and_false <|
 And.intro @xe<|And.intro @zd<|And.intro @qi<|And.intro qe<|And.intro yf<|And.intro @ji<|And.intro @zq<|And.intro @zt @EJ
theorem xa:type_of% BG/\type_of% Iy/\type_of% Hj:=⟨BG,Iy,Hj⟩
section
variable {α:Type} {enc:α->List AV} {e size:Nat} {H0 H H':AHeap} {v:AV} {xs:List α}
theorem mC.to3 {α β:Type} {m g:Bool} {o:Option (α × β)} {K:Bool -> α -> β->Prop} (h:mC m o λ _ a b=>K g a b):bf g o K:=by
 cases o with
 | none=>exact False.elim h
 | some a=>exact h
theorem q4m {H:AHeap} {e size bytes:Nat} {v:AV} {n:Nat} {cells:List AV} (h:Own H e size v n cells) {x:AV} {k:Nat} {new:List AV} (hx:Sl H size x k new) (hnew:ba new=true) (hs:0<size)
 (hf:(n+k)*bytes<=140737488355328) (hf':n+k<=140737488355328) {K:Bool->AV->AHeap->Prop} {m:Bool}
 (hk:∀ v' H',Own H' e size v' (n+k) (cells++new)->Fr (bH v) H H'->(∀ b,bH v' b->bH v b\/H.next<=b)->K m v' H'):bf m (Op.append e size bytes [v,x] H) K :=
 mC.to3 (m:=m) (qxy h hx hnew hs hf hf' hk)
theorem iM {H:AHeap} {e size bytes:Nat} {v:AV} {n:Nat} {cells:List AV} (h:Own H e size v n cells) {zero:List AV} {x:AV} (hz:zero.length=size) (hx:x.cells.length=size) (hnew:ba x.cells=true) (hs:0<size)
 (hf:(n+1)*bytes<=140737488355328) (hf':n+1<=140737488355328) {K:bN->(Nat->AV)->Bool->AV->AHeap->Prop} {m:Bool}
 (hk:∀ v' H',Own H' e size v' (n+1) (cells++x.cells)->Fr (bH v) H H'->(∀ b,bH v' b->bH v b\/H.next<=b)->K (.row x.cells e (0,0) true) (Op.sliceTo 1 1) m v' H') :
 bf m (Op.buildSlice e 1 zero [(0,size)] [x]) λ g o mk=>bf g (Op.append e size bytes [v,mk H.next] (H.alloc o)) (K o mk):=by
 have:=xJ (m:=m) h hz hx hnew hs hf hf' (K:=λ o mk _ v H=>K o mk m v H) hk;obtain ⟨o,mk,h1,h2⟩:∃ o mk,Op.buildSlice e 1 zero [(0,size)] [x]=some (o,mk)/\mC true (Op.append e size bytes [v,mk H.next] (H.alloc o)) (λ _ v H=>K o mk m v H):=by
  unfold mC at this;split at this
  ·rename_i a ha;exact ⟨a.1,a.2,ha,this⟩
  ·exact this.elim
 refine bf.intro h1 ?_;unfold mC at h2;split at h2
 ·rename_i a ha;exact bf.intro (a:=a.1) (b:=a.2) ha h2
 ·exact h2.elim
end
end
end Go.Am
namespace Go.Am
abbrev OR (c:List AV) (e:Nat):bN:=.row c e (0,0) true
theorem qf (b o:Nat):Op.nilCheck [.ptr b o]=some (.ptr b o):=rfl
theorem qp (i:Nat) (l:List AV):Op.extract i [.tuple l]=l[i]?:=q9l i l
abbrev WE (M:aO) (c:Ctx) (p:Kp × ah) (R:aJ->Env->List aL->AHeap->Prop):Prop:=∀ Q E D H,W M c p true Q E D H=R Q E D H
end Go.Am
