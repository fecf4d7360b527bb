/- B4: Logic Logic2 Val Sim Val2 Val3 Iter Logic3 Logic4 Logic5 Mono3 Sim3 Mem3. -/
import Derived.Test.YtiibohocdbaekaaAmHB2
import Derived.Test.YtiibohocdbaekaaAmHB1
set_option linter.unusedVariables false
set_option linter.unusedSimpArgs false
namespace Go.Am
def aA:Bool:=true
def bq {α:Type} (m:Bool) (o:Option α) (K:α->Prop):Prop:=match o with
 | some a=>K a
 | none=>False
def eM {α β:Type} (m:Bool) (o:Option (α × β)) (K:α -> β->Prop):Prop:=match o with
 | some a=>K a.1 a.2
 | none=>False
def Dr (m:Bool) (q:Bool) (A B:Prop):Prop:=match q with
 | true=>A
 | false=>B
@[congr] theorem C0 {α:Type} {m m':Bool} {o o':Option α} {K:α->Prop} (hm:m=m') (h:o=o'):bq m o K=bq m' o' K:=by rw [h,hm]
@[congr] theorem AJ {α β:Type} {m m':Bool} {o o':Option (α × β)} {K:α -> β->Prop} (hm:m=m') (h:o=o'):eM m o K=eM m' o' K:=by rw [h,hm]
@[congr] theorem Gb {m m' q q':Bool} {A B:Prop} (hm:m=m') (h:q=q'):Dr m q A B=Dr m' q' A B:=by rw [h,hm]
theorem bq.elim {α:Type} {m:Bool} {o:Option α} {K:α->Prop} (h:bq m o K):∃ a,o=some a/\K a:=by
 cases o with
 | none=>exact False.elim h
 | some a=>exact ⟨a,rfl,h⟩
theorem eM.elim {α β:Type} {m:Bool} {o:Option (α × β)} {K:α -> β->Prop} (h:eM m o K):∃ a b,o=some (a,b)/\K a b:=by
 cases o with
 | none=>exact False.elim h
 | some a=>exact ⟨a.1,a.2,rfl,h⟩
theorem bq.intro {α:Type} {m:Bool} {o:Option α} {K:α->Prop} {a:α} (h:o=some a) (hk:K a):bq m o K:=by subst h;exact hk
theorem eM.intro {α β:Type} {m:Bool} {o:Option (α × β)} {K:α -> β->Prop} {a:α} {b:β} (h:o=some (a,b)) (hk:K a b):eM m o K:=by subst h;exact hk
theorem Dr.cases {m:Bool} {q:Bool} {A B:Prop} (h1:q=true->A) (h2:q=false->B):Dr m q A B:=by
 cases q with
 | true=>exact h1 rfl
 | false=>exact h2 rfl
def asBool:AV->Option Bool
 | .bool q=>some q
 | _=>none
noncomputable section
structure aL where
 prog:ft
 told:bB
 mute:Nat->Bool
 ok:∀ f vs up H,mute f=false->told f vs up H=none
def aL.call (M:aL) (n:Nat):bB:=fJ M.prog M.told n
def aL.func (M:aL) (f:Nat):Option av:=cond (M.mute f) none (M.prog.func f)
def aL.lf (M:aL):Nat->String->Option Nat:=M.prog.lf
theorem aL.pX {M:aL} {f:Nat} {fn:av} (h:M.func f=some fn):M.mute f=false/\M.prog.func f=some fn:=by
 unfold aL.func at h;cases hm:M.mute f with
 | true=>rw [hm] at h;cases h
 | false=>rw [hm] at h;exact ⟨rfl,h⟩
theorem aL.qX {M:aL} {f:Nat} (h:M.mute f=false) (n:Nat) (vs:List AV) (up:Option aC) (H:AHeap):M.call (n+1) f vs up H=zL M.prog (M.call n) n f vs up H:=by
 show (match M.told f vs up H with|some r=>some r|none=>zL M.prog (fJ M.prog M.told n) n f vs up H)=_;rw [M.ok f vs up H h];rfl
variable (AP:aL)
def pC (n k:Nat) (ctx:Ctx):RT:=⟨AP.prog,AP.call n,rounds AP.prog (AP.call n) n k,n,ctx⟩
def m8 (f:Nat) (vs:List AV) (up:Option aC) (H:AHeap) (e:bo) (up':Option aC) (H':AHeap):Prop:=∃ n0,∀ n,n0<=n->AP.call n f vs up H=some (e,up',H')
def iG (f:Nat) (vs:List AV) (H:AHeap) (e:bo) (H':AHeap):Prop:=m8 AP f vs none H e none H'
def lX (l:Nat) (vs:List AV) (H:AHeap) (e:bo) (H':AHeap):Prop:=∃ n0,∀ n k,n0<=n->n0<=k->rounds AP.prog (AP.call n) n k vs l H=some (e,H')
def mX:eX->List AV->AHeap->bo->AHeap->Prop
 | .func g=>iG AP g
 | .yield l=>lX AP l
def gO (m:Bool) (f:eX) (vs:List AV) (H:AHeap) (K:AV->AHeap->Prop) (E:aC->AHeap->Prop):Prop :=
 ∃ e H',mX AP f vs H e H'/\match e with
  | .ret v=>K v H'
  | .panic c=>E c H'
@[congr] theorem AX {AP:aL} {m m':Bool} {f:eX} {vs vs':List AV} {H:AHeap} {K:AV->AHeap->Prop} {E:aC->AHeap->Prop} (hm:m=m') (h:vs=vs'):gO AP m f vs H K E=gO AP m' f vs' H K E:=by rw [h,hm]
def D7 (m:Bool) (vs:List AV) (K:eX->List AV->Prop):Prop:=match vs with
 | .fn (.func g) first cap::args=>K (.func g) (first++(args++cap))
 | .fn (.yield l) first []::args=>K (.yield l) (first++args)
 | _=>False
@[congr] theorem Fb {m m':Bool} {vs vs':List AV} {K:eX->List AV->Prop} (hm:m=m') (h:vs=vs'):D7 m vs K=D7 m' vs' K:=by rw [h,hm]
def EP (m:Bool) (name:String) (vs:List AV) (K:eX->List AV->Prop):Prop:=match vs with
 | .iface t v::args=>bq aA (AP.lf t name) λ g=>K (.func g) (v::args)
 | _=>False
@[congr] theorem FX {AP:aL} {m m':Bool} {name:String} {vs vs':List AV} {K:eX->List AV->Prop} (hm:m=m') (h:vs=vs'):EP AP m name vs K=EP AP m' name vs' K:=by rw [h,hm]
def jT (tm:T AV):List bA->(List AV->Prop)->Prop
 | [],K=>K []
 | .tmp t::xs,K=>bq aA (tm.get t) λ v=>jT tm xs λ vs=>K (v::vs)
 | .const v::xs,K=>jT tm xs λ vs=>K (v::vs)
 | .cX g::xs,K=>jT tm xs λ vs=>K (.ptr g 0::vs)
 | .func f::xs,K=>jT tm xs λ vs=>K (.fn (.func f) [] []::vs)
theorem jT.elim {tm:T AV}:∀ {l:List bA} {K:List AV->Prop},jT tm l K -> ∃ vs,gI tm l=some vs/\K vs
 | [],K,h=>⟨[],rfl,h⟩
 | .tmp t::xs,K,h=>by
  obtain ⟨v,hv,h⟩:=bq.elim (m:=aA) h;obtain ⟨vs,h1,h2⟩:=jT.elim h;exact ⟨v::vs,by simp [gI,kT,hv,h1],h2⟩
 | .const v::xs,K,h=>by
  obtain ⟨vs,h1,h2⟩:=jT.elim (l:=xs) h;exact ⟨v::vs,by simp [gI,kT,h1],h2⟩
 | .cX v::xs,K,h=>by
  obtain ⟨vs,h1,h2⟩:=jT.elim (l:=xs) h;exact ⟨_,by simp [gI,kT,h1],h2⟩
 | .func v::xs,K,h=>by
  obtain ⟨vs,h1,h2⟩:=jT.elim (l:=xs) h;exact ⟨_,by simp [gI,kT,h1],h2⟩
def wG (tm:T AV) (x:bA) (K:AV->Prop):Prop:=match x with
 | .tmp t=>bq aA (tm.get t) K
 | .const v=>K v
 | .cX g=>K (.ptr g 0)
 | .func f=>K (.fn (.func f) [] [])
theorem wG.elim {tm:T AV} {x:bA} {K:AV->Prop} (h:wG tm x K):∃ v,kT tm x=some v/\K v:=by
 cases x with
 | tmp t=>exact bq.elim (m:=aA) h
 | const v=>exact ⟨v,rfl,h⟩
 | cX v=>exact ⟨_,rfl,h⟩
 | func v=>exact ⟨_,rfl,h⟩
abbrev bT:=aE->St->Prop
def wU (ps:Option (List Nat)) (tm:T AV) (aS:List aO) (up:Option aC) (Q:bT) (c:aC) (H:AHeap):Prop:=match ps with
 | some ds=>Q (.panic c) ⟨forget ds tm,aS,up,H⟩
 | none=>False
def mY (m:Bool) (ctx:Ctx) (up:Option aC) (K:AV->Option aC->Prop):Prop:=ctx.round=none/\match up with
 | some ((v,false)::older)=>K v (some ((v,true)::older))
 | _=>K .nili up
@[congr] theorem Bb {m m':Bool} {ctx:Ctx} {up up':Option aC} {K:AV->Option aC->Prop} (hm:m=m') (h:up=up'):mY m ctx up K=mY m' ctx up' K:=by rw [h,hm]
def rP (m:Bool) (ctx:Ctx) (vs:List AV) (aS:List aO) (K:List aO->Prop):Prop:=ctx.round=none/\match vs with
 | .fn (.func f) first cap::args=>K (.fn (.func f) (first++(args++cap))::aS)
 | _=>False
@[congr] theorem Dc {m m':Bool} {ctx:Ctx} {vs vs':List AV} {aS:List aO} {K:List aO->Prop} (hm:m=m') (h:vs=vs'):rP m ctx vs aS K=rP m' ctx vs' aS K:=by rw [h,hm]
def dS (vs:List AV) (H:AHeap) (E:aC->AHeap->Prop):Prop:=match vs with
 | [.iface t v]=>E [(.iface t v,false)] H
 | _=>False
@[congr] theorem wZ {vs vs':List AV} {H:AHeap} {E:aC->AHeap->Prop} (h:vs=vs'):dS vs H E=dS vs' H E:=by rw [h]
def jS (ctx:Ctx) (dst:Option Nat) (ps:Option (List Nat)) (st:St) (Q:bT) (K:St->Prop) (vs:List AV):dG->Prop
 | .pure f=>bq aA (f vs) λ v=>K ⟨cN dst v st.tm,st.aS,st.up,st.H⟩
 | .read f=>bq aA (f vs st.H) λ v=>K ⟨cN dst v st.tm,st.aS,st.up,st.H⟩
 | .alloc f=>eM aA (f vs) λ o mk=>K ⟨cN dst (mk st.H.next) st.tm,st.aS,st.up,st.H.alloc o⟩
 | .eD f=>eM aA (f vs st.H) λ v H=>K ⟨cN dst v st.tm,st.aS,st.up,H⟩
 | .eC g=>gO AP aA (.func g) vs st.H (λ v H=>K ⟨cN dst v st.tm,st.aS,st.up,H⟩) (wU ps st.tm st.aS st.up Q)
 | .eh=>D7 aA vs λ f vs=>gO AP aA f vs st.H (λ v H=>K ⟨cN dst v st.tm,st.aS,st.up,H⟩) (wU ps st.tm st.aS st.up Q)
 | .invoke name=>EP AP aA name vs λ f vs=>gO AP aA f vs st.H (λ v H=>K ⟨cN dst v st.tm,st.aS,st.up,H⟩) (wU ps st.tm st.aS st.up Q)
 | .recover=>match vs with
  | []=>mY aA ctx st.up λ v up=>K ⟨cN dst v st.tm,st.aS,up,st.H⟩
  | _=>False
 | .defer=>rP aA ctx vs st.aS λ aS=>K ⟨cN dst .undef st.tm,aS,st.up,st.H⟩
 | .panic=>dS vs st.H (wU ps st.tm st.aS st.up Q)
def HZ (dst:Option Nat) (st:St) (vs:List AV):dG->Prop
 | .read f=>match dst with
  | some d=>bq aA (f vs st.H) λ v=>bq aA (st.tm.get d) λ v'=>v=v'
  | none=>False
 | _=>False
def oZ (ctx:Ctx) (s:aU) (st:St) (Q:bT) (K:St->Prop):Prop :=
 match s.eB with
 | false=>match s.guard with
  | none=>jT st.tm s.args λ vs=>jS AP ctx s.dst s.bM st Q K vs s.op
  | some g=>bq aA (aw g.2 (st.tm.get g.1)) λ w=>Dr aA w (jT st.tm s.args λ vs=>jS AP ctx s.dst s.bM st Q K vs s.op) (K ⟨cN s.dst .undef st.tm,st.aS,st.up,st.H⟩)
 | true=>match s.guard with
  | none=>jT st.tm s.args λ vs=>HZ s.dst st vs s.op/\K st
  | some g=>bq aA (aw g.2 (st.tm.get g.1)) λ w=>Dr aA w (jT st.tm s.args λ vs=>HZ s.dst st vs s.op/\K st) (s.dst.isSome=true/\K st)
def kZ (ctx:Ctx):List aU->St->bT->Prop
 | [],st,Q=>Q .normal st
 | s::rest,st,Q=>oZ AP ctx s st Q λ st'=>kZ ctx rest st' Q
def MY (W:St->bT->Prop) (Q:bT):bT:=λ e st=>match e with
 | .normal=>W st Q
 | e=>Q e st
def BLK (id:Nat) (Q:bT):bT:=λ e st=>match e with
 | .exit id'=>Q (cond (Nat.beq id id') .normal (.exit id')) st
 | e=>Q e st
def SCP (b:ah) (Q:bT):bT:=λ e st=>match e with
 | .goto l=>wH b l=false/\Q (.goto l) st
 | e=>Q e st
def fR (ae:Option (List Nat)) (st:St):St:=match ae with
 | none=>st
 | some ks=>{ st with tm:=Ll st.tm ks .nil }
def Cd (W:St->bT->Prop) (ae:Option (List Nat)) (st:St) (Q:bT):Prop :=
 ∃ I:Nat->St->Prop,(∃ n,I n st) /\ ∀ n st,I n st->W (fR ae st) λ e st'=>match e with
  | .normal=>∃ m,m<n/\I m st'
  | e=>Q e st'
def Nd (st:St) (aS:List aO) (l:Nat) (Q:bT) (e:bo) (H:AHeap):Prop:=match e with
 | .panic c=>Q (.panic c) { st with aS:=aS,H:=H }
 | .ret _=>∃ s p f k tm d,H.get l=some (.loop s p f k tm d)/\s ≠ .busy/\Q (kI p) { st with aS:=aS,H:=H.set l (.loop .exhausted p f k tm d) }
def gJ (ctx:Ctx) (st:St) (k:Nat) (H0:AHeap) (aS:List aO) (d:Nat) (Q:bT):AV->Prop
 | .fn (.func g) first cap=>∃ e H',iG AP g (first++(.fn (.yield H0.next) [] []::cap)) (H0.alloc (.loop .ready none ctx.fn k st.tm d)) e H'/\Nd st aS H0.next Q e H'
 | _=>False
def BA (ctx:Ctx) (k:Nat) (st:St) (Q:bT) (v:AV):Prop:=match ctx.round with
 | none=>gJ AP ctx st k (st.H.alloc (.deferred (some []))) (.eW st.H.next::st.aS) st.H.next Q v
 | some l=>bq aA (tl st.H l) λ d=>gJ AP ctx st k st.H st.aS d Q v
def WP (ctx:Ctx):ah->St->bT->Prop
 | .skip,st,Q=>Q .normal st
 | .label _,st,Q=>Q .normal st
 | .region steps,st,Q=>kZ AP ctx steps st Q
 | .seq a b,st,Q=>WP ctx a st (MY (WP ctx b) Q)
 | .cond c a b,st,Q=>wG st.tm c λ v=>bq aA (asBool v) λ q=>Dr aA q (WP ctx a st Q) (WP ctx b st Q)
 | .block id b,st,Q=>WP ctx b st (BLK id Q)
 | .loop ae b,st,Q=>Cd (WP ctx b) ae st Q
 | .exit id,st,Q=>Q (.exit id) st
 | .goto l,st,Q=>Q (.goto l) st
 | .ret,st,Q=>Q .ret st
 | .stuck,_,_=>False
 | .scope b,st,Q=>WP ctx b st (SCP b Q)
 | .rangeFunc f k,st,Q=>wG st.tm f λ v=>BA AP ctx k st Q v
section
variable (ctx:Ctx) (st:St) (Q:bT)
theorem N1 (s:aU) (l:List aU):kZ AP ctx (s::l) st Q=oZ AP ctx s st Q λ st'=>kZ AP ctx l st' Q:=propext j3
end
def EX (ctx:Ctx) (c:ah) (st:St) (r:aE × St):Prop:=∃ n0,∀ n k,n0<=n->n0<=k->(bf c).run (pC AP n k ctx) st=some r
def EXS (ctx:Ctx) (l:List aU) (st:St) (r:aE × St):Prop:=∃ n0,∀ n k,n0<=n->n0<=k->(dR l).run (pC AP n k ctx) st=some r
theorem mX.run {AP:aL} {f:eX} {vs:List AV} {H:AHeap} {e:bo} {H':AHeap} (h:mX AP f vs H e H') :
 ∃ n0,∀ n k,n0<=n->n0<=k->bR (AP.call n) (rounds AP.prog (AP.call n) n k) f vs H=some (e,H'):=by
 cases f with
 | func g=>obtain ⟨n0,h⟩:=h;exact ⟨n0,λ n k hn _=>by simp [bR,h n hn]⟩
 | yield l=>obtain ⟨n0,h⟩:=h;exact ⟨n0,λ n k hn hk=>by simp [bR,h n k hn hk]⟩
theorem qx9:(∀ v,bG v v=true)/\(∀ l,cZ l l=true):=by
 have e1:∀ n,Nat.beq n n=true:=λ n=>by simp
 have e2:∀ k,nX k k=true:=λ k=>by cases k<;>rfl
 have e3:∀ i,pH i i=true:=λ i=>by rw [AA];simp
 have e4:∀ s,rp s s=true:=λ s=>by rw [FL];simp
 refine ⟨λ v=>?_,λ l=>?_⟩
 ·refine AV.rec (motive_1:=λ v=>bG v v=true) (motive_2:=λ l=>cZ l l=true) ?_ ?_ ?_ ?_ ?_ ?_ ?_ ?_ ?_ ?_ ?_ ?_ ?_ ?_ ?_ ?_ ?_ ?_ ?_ v
  all_goals (intros;first|rfl|(simp only [bG,cZ,e1,e2,e3,e4,jd,beq_self_eq_true, *];done) | (rename_i f _ _ _ _;cases f<;>simp only [bG,cZ,e1,jd, *]))
 ·refine AV.rec_1 (motive_1:=λ v=>bG v v=true) (motive_2:=λ l=>cZ l l=true) ?_ ?_ ?_ ?_ ?_ ?_ ?_ ?_ ?_ ?_ ?_ ?_ ?_ ?_ ?_ ?_ ?_ ?_ ?_ l
  all_goals (intros;first|rfl|(simp only [bG,cZ,e1,e2,e3,e4,jd,beq_self_eq_true, *];done) | (rename_i f _ _ _ _;cases f<;>simp only [bG,cZ,e1,jd, *]))
theorem q7k (v:AV):bG v v=true:=qx9.1 v
theorem HZ.run {d:Option Nat} {st:St} {vs:List AV} {op:dG} (h:HZ d st vs op):∃ t,d=some t/\kC (T.iT (T.path t)).run st vs op=true:=by
 cases op with
 | read f =>
  cases d with
  | none=>exact False.elim h
  | some t =>
   refine ⟨t,rfl,?_⟩;obtain ⟨v,h1,h⟩:=bq.elim (m:=aA) h;obtain ⟨v',h2,h⟩:=bq.elim (m:=aA) h;subst h;have h2':(T.iT (T.path t)).run st.tm=some v:=by rw [T.fw];exact h2
   simp [kC,h1,h2',q7k]
 | _=>exact False.elim h
theorem jS.run {AP:aL} {ctx:Ctx} {dst:Option Nat} {ps:Option (List Nat)} {st:St} {Q:bT} {K:St->Prop} {vs:List AV} {op:dG} (h:jS AP ctx dst ps st Q K vs op)
 {kk:Nat->Nat->St->dN} (hK:∀ st,K st -> ∃ e st',Q e st' /\ ∃ n0,∀ n k,n0<=n->n0<=k->kk n k st=some (e,st')) :
 ∃ e st',Q e st' /\ ∃ n0,∀ n k,n0<=n->n0<=k->(jU (gf dst).run ps op).run (pC AP n k ctx) st (kk n k) vs=some (e,st'):=by
 have hp:∀ v tm,(gf dst).run v tm=cN dst v tm:=Mq dst;have call:∀ {f vs},gO AP aA f vs st.H (λ v H=>K ⟨cN dst v st.tm,st.aS,st.up,H⟩) (wU ps st.tm st.aS st.up Q) ->
  ∃ e st',Q e st' /\ ∃ n0,∀ n k,n0<=n->n0<=k->((bR (AP.call n) (rounds AP.prog (AP.call n) n k) f vs st.H).bind λ r=>df (gf dst).run ps st (kk n k) r)=some (e,st'):=by
  rintro f vs ⟨e,H',h1,h⟩;obtain ⟨n0,h1⟩:=h1.run;cases e with
  | ret v =>
   obtain ⟨e,st',hq,n1,h2⟩:=hK _ h;refine ⟨e,st',hq,max n0 n1,λ n k hn hk=>?_⟩;rw [h1 n k (by omega) (by omega)]
   simpa [df,hp] using h2 n k (by omega) (by omega)
  | panic c =>
   cases ps with
   | none=>exact False.elim h
   | some ds =>
    refine ⟨_,_,h,n0,λ n k hn hk=>?_⟩;rw [h1 n k (by omega) (by omega)];simp [df]
 cases op with
 | pure f =>
  obtain ⟨v,h1,h⟩:=bq.elim (m:=aA) h;obtain ⟨e,st',hq,n1,h2⟩:=hK _ h;exact ⟨e,st',hq,n1,λ n k hn hk=>by simp [jU,tV,h1,hp,h2 n k hn hk]⟩
 | read f =>
  obtain ⟨v,h1,h⟩:=bq.elim (m:=aA) h;obtain ⟨e,st',hq,n1,h2⟩:=hK _ h;exact ⟨e,st',hq,n1,λ n k hn hk=>by simp [jU,uP,h1,hp,h2 n k hn hk]⟩
 | alloc f =>
  simp only [jS] at h;obtain ⟨o,mk,h1,h⟩:=eM.elim (m:=aA) h;obtain ⟨e,st',hq,n1,h2⟩:=hK _ h;exact ⟨e,st',hq,n1,λ n k hn hk=>by simp [jU,pc,h1,hp,h2 n k hn hk]⟩
 | eD f =>
  simp only [jS] at h;obtain ⟨o,mk,h1,h⟩:=eM.elim (m:=aA) h;obtain ⟨e,st',hq,n1,h2⟩:=hK _ h;exact ⟨e,st',hq,n1,λ n k hn hk=>by simp [jU,Ew,h1,hp,h2 n k hn hk]⟩
 | eC f=>exact call h
 | eh =>
  simp only [jS,D7] at h;split at h
  ·exact call h
  ·exact call h
  ·exact False.elim h
 | invoke name =>
  simp only [jS,EP] at h;split at h
  ·obtain ⟨g,hg,h⟩:=bq.elim (m:=aA) h;obtain ⟨e,st',hq,n1,h2⟩:=call h;exact ⟨e,st',hq,n1,λ n k hn hk=>by simpa [jU,mr,pC,(show AP.prog.lf _ name=some g from hg)] using h2 n k hn hk⟩
  ·exact False.elim h
 | recover =>
  simp only [jS] at h;split at h
  ·obtain ⟨hr,h⟩:=h;split at h
   ·rename_i v older hup;obtain ⟨e,st',hq,n1,h2⟩:=hK _ h;exact ⟨e,st',hq,n1,λ n k hn hk=>by simpa [jU,Jq,pC,hr,Il,hup,hp] using h2 n k hn hk⟩
   ·rename_i hup;obtain ⟨e,st',hq,n1,h2⟩:=hK _ h;refine ⟨e,st',hq,n1,λ n k hn hk=>?_⟩;have:Il (gf dst).run st=⟨cN dst .nili st.tm,st.aS,st.up,st.H⟩:=by
     unfold Il;split
     ·rename_i v older hu;exact (hup _ _ hu).elim
     ·rw [hp]
    simpa [jU,Jq,pC,hr,this] using h2 n k hn hk
  ·exact False.elim h
 | defer =>
  obtain ⟨hr,h⟩:=h;split at h
  ·obtain ⟨e,st',hq,n1,h2⟩:=hK _ h;exact ⟨e,st',hq,n1,λ n k hn hk=>by simpa [jU,oS,pC,hr,hp] using h2 n k hn hk⟩
  ·exact False.elim h
 | panic =>
  simp only [jS,dS] at h;split at h
  ·cases ps with
   | none=>exact False.elim h
   | some ds=>exact ⟨_,_,h,0,λ n k hn hk=>by simp [jU,oR,df]⟩
  ·exact False.elim h
theorem oZ.run {AP:aL} {ctx:Ctx} {s:aU} {st:St} {Q:bT} {K:St->Prop} (h:oZ AP ctx s st Q K)
 {kk:Nat->Nat->St->dN} (hK:∀ st,K st -> ∃ e st',Q e st' /\ ∃ n0,∀ n k,n0<=n->n0<=k->kk n k st=some (e,st')) :
 ∃ e st',Q e st' /\ ∃ n0,∀ n k,n0<=n->n0<=k->(dM s).run (pC AP n k ctx) (kk n k) st=some (e,st'):=by
 obtain ⟨eB,dst,guard,args,op,ps⟩:=s;have hp:∀ v tm,(gf dst).run v tm=cN dst v tm:=Mq dst;have hc:∀ g,(T.iT (T.path g)).run st.tm=st.tm.get g:=λ g=>by rw [T.fw];rfl
 cases eB with
 | false =>
  cases guard with
  | none =>
   obtain ⟨vs,h1,h⟩:=jT.elim h;obtain ⟨e,st',hq,n0,h2⟩:=h.run hK;exact ⟨e,st',hq,n0,λ n k hn hk=>by simpa [dM,AE,h1] using h2 n k hn hk⟩
  | some g =>
   obtain ⟨w,hw,h⟩:=bq.elim (m:=aA) h;cases w with
   | true =>
    obtain ⟨vs,h1,h⟩:=jT.elim h;obtain ⟨e,st',hq,n0,h2⟩:=h.run hK;exact ⟨e,st',hq,n0,λ n k hn hk=>by simpa [dM,hc,hw,AE,h1] using h2 n k hn hk⟩
   | false =>
    obtain ⟨e,st',hq,n0,h2⟩:=hK _ h;exact ⟨e,st',hq,n0,λ n k hn hk=>by simpa [dM,hc,hw,hp] using h2 n k hn hk⟩
 | true =>
  cases guard with
  | none =>
   obtain ⟨vs,h1,hk,h'⟩:=jT.elim h;obtain ⟨t,rfl,hk⟩:=hk.run;obtain ⟨e,st',hq,n0,h2⟩:=hK _ h';exact ⟨e,st',hq,n0,λ n k hn hkk=>by simpa [dM,AE,h1,hk] using h2 n k hn hkk⟩
  | some g =>
   obtain ⟨w,hw,h⟩:=bq.elim (m:=aA) h;cases w with
   | true =>
    obtain ⟨vs,h1,hk,h'⟩:=jT.elim h;obtain ⟨t,rfl,hk⟩:=hk.run;obtain ⟨e,st',hq,n0,h2⟩:=hK _ h';exact ⟨e,st',hq,n0,λ n k hn hkk=>by simpa [dM,hc,hw,AE,h1,hk] using h2 n k hn hkk⟩
   | false =>
    obtain ⟨hd,h⟩:=h;obtain ⟨e,st',hq,n0,h2⟩:=hK _ h;cases dst with
    | none=>cases hd
    | some d=>exact ⟨e,st',hq,n0,λ n k hn hkk=>by simpa [dM,hc,hw] using h2 n k hn hkk⟩
theorem kZ.run {AP:aL} {ctx:Ctx}:∀ {l:List aU} {st:St} {Q:bT},kZ AP ctx l st Q -> ∃ e st',Q e st'/\EXS AP ctx l st (e,st')
 | [],st,Q,h=>⟨_,_,h,0,λ _ _ _ _=>rfl⟩
 | s::rest,st,Q,h=>by
  obtain ⟨e,st',hq,n0,h⟩:=oZ.run (kk:=λ n k=>(dR rest).run (pC AP n k ctx)) h λ st' hs=>kZ.run hs;exact ⟨e,st',hq,n0,h⟩
theorem tI {AP:aL} {ctx:Ctx} {ae:Option (List Nat)} {b:ah} {Q:bT} {I:Nat->St->Prop}
 (hb:∀ n st,I n st -> ∃ e st',(match e with | .normal=>∃ m,m<n/\I m st'|e=>Q e st')/\EX AP ctx b (fR ae st) (e,st')) :
 ∀ m n,n<=m -> ∀ st,I n st -> ∃ e st',Q e st' /\ ∃ n0 c,∀ n k,n0<=n->n0<=k -> ∀ c',c<=c'->dL ae ((bf b).run (pC AP n k ctx)) c' st=some (e,st'):=by
 intro m
 induction m with
 | zero =>
  intro n hn st hi;obtain ⟨e,st',h,n0,hx⟩:=hb n st hi;cases e with
  | normal=>obtain ⟨j,hj,_⟩:=h;omega
  | exit id=>exact ⟨_,_,h,n0,1,λ n k hn hk c' hc=>by obtain ⟨c,rfl⟩:∃ c,c'=c+1:=⟨c'-1,by omega⟩;have:=hx n k hn hk;cases ae<;>simp [dL,fR] at this ⊢<;>simp [this]⟩
  | goto l=>exact ⟨_,_,h,n0,1,λ n k hn hk c' hc=>by obtain ⟨c,rfl⟩:∃ c,c'=c+1:=⟨c'-1,by omega⟩;have:=hx n k hn hk;cases ae<;>simp [dL,fR] at this ⊢<;>simp [this]⟩
  | ret=>exact ⟨_,_,h,n0,1,λ n k hn hk c' hc=>by obtain ⟨c,rfl⟩:∃ c,c'=c+1:=⟨c'-1,by omega⟩;have:=hx n k hn hk;cases ae<;>simp [dL,fR] at this ⊢<;>simp [this]⟩
  | panic p=>exact ⟨_,_,h,n0,1,λ n k hn hk c' hc=>by obtain ⟨c,rfl⟩:∃ c,c'=c+1:=⟨c'-1,by omega⟩;have:=hx n k hn hk;cases ae<;>simp [dL,fR] at this ⊢<;>simp [this]⟩
 | succ m ih =>
  intro n hn st hi;obtain ⟨e,st',h,n0,hx⟩:=hb n st hi;cases e with
  | normal =>
   obtain ⟨j,hj,hi'⟩:=h;obtain ⟨e,st2,hq,n1,c,h2⟩:=ih j (by omega) st' hi';refine ⟨e,st2,hq,max n0 n1,c+1,λ n k hn hk c' hc=>?_⟩;obtain ⟨c'',rfl⟩:∃ c,c'=c+1:=⟨c'-1,by omega⟩
   have:=hx n k (by omega) (by omega);have h3:=h2 n k (by omega) (by omega) c'' (by omega);cases ae<;>simp [dL,fR] at this ⊢<;>simp [this,h3]
  | exit id=>exact ⟨_,_,h,n0,1,λ n k hn hk c' hc=>by obtain ⟨c,rfl⟩:∃ c,c'=c+1:=⟨c'-1,by omega⟩;have:=hx n k hn hk;cases ae<;>simp [dL,fR] at this ⊢<;>simp [this]⟩
  | goto l=>exact ⟨_,_,h,n0,1,λ n k hn hk c' hc=>by obtain ⟨c,rfl⟩:∃ c,c'=c+1:=⟨c'-1,by omega⟩;have:=hx n k hn hk;cases ae<;>simp [dL,fR] at this ⊢<;>simp [this]⟩
  | ret=>exact ⟨_,_,h,n0,1,λ n k hn hk c' hc=>by obtain ⟨c,rfl⟩:∃ c,c'=c+1:=⟨c'-1,by omega⟩;have:=hx n k hn hk;cases ae<;>simp [dL,fR] at this ⊢<;>simp [this]⟩
  | panic p=>exact ⟨_,_,h,n0,1,λ n k hn hk c' hc=>by obtain ⟨c,rfl⟩:∃ c,c'=c+1:=⟨c'-1,by omega⟩;have:=hx n k hn hk;cases ae<;>simp [dL,fR] at this ⊢<;>simp [this]⟩
theorem gJ.run {AP:aL} {ctx:Ctx} {st:St} {k0:Nat} {H0:AHeap} {aS:List aO} {d:Nat} {Q:bT} {v:AV} (h:gJ AP ctx st k0 H0 aS d Q v) :
 ∃ e st',Q e st' /\ ∃ n0,∀ n k,n0<=n->n0<=k->eY (AP.call n) (rounds AP.prog (AP.call n) n k) ctx st k0 H0 aS d v=some (e,st'):=by
 unfold gJ at h;split at h
 ·obtain ⟨e,H',⟨n0,hc⟩,h⟩:=h;cases e with
  | panic c=>exact ⟨_,_,h,n0,λ n k hn hk=>by simp [eY,bR,hc n hn,FA]⟩
  | ret v =>
   obtain ⟨s,p,f,k,tm,d,hg,hs,h⟩:=h;refine ⟨_,_,h,n0,λ n k hn hk=>?_⟩;simp only [eY,bR,hc n hn,FA,qm,hg]
 ·exact False.elim h
theorem WP.run {AP:aL} {ctx:Ctx}:∀ {c:ah} {st:St} {Q:bT},WP AP ctx c st Q -> ∃ e st',Q e st'/\EX AP ctx c st (e,st')
 | .skip,st,Q,h=>⟨_,_,h,0,λ _ _ _ _=>rfl⟩
 | .label _,st,Q,h=>⟨_,_,h,0,λ _ _ _ _=>rfl⟩
 | .exit _,st,Q,h=>⟨_,_,h,0,λ _ _ _ _=>rfl⟩
 | .goto _,st,Q,h=>⟨_,_,h,0,λ _ _ _ _=>rfl⟩
 | .ret,st,Q,h=>⟨_,_,h,0,λ _ _ _ _=>rfl⟩
 | .stuck,st,Q,h=>False.elim h
 | .region steps,st,Q,h=>kZ.run h
 | .seq a b,st,Q,h=>by
  obtain ⟨e,bU,h1,n0,hx⟩:=WP.run (c:=a) h;cases e with
  | normal =>
   obtain ⟨e,st2,hq,n1,hy⟩:=WP.run (c:=b) h1;exact ⟨e,st2,hq,max n0 n1,λ n k hn hk=>by simp [bf,hx n k (by omega) (by omega),ny,hy n k (by omega) (by omega)]⟩
  | exit id=>exact ⟨_,_,h1,n0,λ n k hn hk=>by simp [bf,hx n k hn hk,ny]⟩
  | goto id=>exact ⟨_,_,h1,n0,λ n k hn hk=>by simp [bf,hx n k hn hk,ny]⟩
  | ret=>exact ⟨_,_,h1,n0,λ n k hn hk=>by simp [bf,hx n k hn hk,ny]⟩
  | panic p=>exact ⟨_,_,h1,n0,λ n k hn hk=>by simp [bf,hx n k hn hk,ny]⟩
 | .cond c a b,st,Q,h=>by
  obtain ⟨v,hv,h⟩:=wG.elim h;obtain ⟨q,hq,h⟩:=bq.elim (m:=aA) h;have hv':v=.bool q:=by
   unfold asBool at hq;split at hq
   ·injection hq with hq;rw [hq]
   ·cases hq
  subst hv';cases q with
  | true =>
   obtain ⟨e,bU,h1,n0,hx⟩:=WP.run (c:=a) h;exact ⟨e,bU,h1,n0,λ n k hn hk=>by simp [bf,Bh,hv,na,hx n k hn hk]⟩
  | false =>
   obtain ⟨e,bU,h1,n0,hx⟩:=WP.run (c:=b) h;exact ⟨e,bU,h1,n0,λ n k hn hk=>by simp [bf,Bh,hv,na,hx n k hn hk]⟩
 | .block id b,st,Q,h=>by
  obtain ⟨e,bU,h1,n0,hx⟩:=WP.run (c:=b) h;cases e with
  | exit id'=>exact ⟨_,_,h1,n0,λ n k hn hk=>by simp [bf,hx n k hn hk,fF]⟩
  | normal=>exact ⟨_,_,h1,n0,λ n k hn hk=>by simp [bf,hx n k hn hk,fF]⟩
  | goto id=>exact ⟨_,_,h1,n0,λ n k hn hk=>by simp [bf,hx n k hn hk,fF]⟩
  | ret=>exact ⟨_,_,h1,n0,λ n k hn hk=>by simp [bf,hx n k hn hk,fF]⟩
  | panic p=>exact ⟨_,_,h1,n0,λ n k hn hk=>by simp [bf,hx n k hn hk,fF]⟩
 | .scope b,st,Q,h=>by
  obtain ⟨e,bU,h1,n0,hx⟩:=WP.run (c:=b) h;cases e with
  | exit id'=>exact ⟨_,_,h1,n0,λ n k hn hk=>by simp [bf,hx n k hn hk,gw]⟩
  | normal=>exact ⟨_,_,h1,n0,λ n k hn hk=>by simp [bf,hx n k hn hk,gw]⟩
  | goto id=>exact ⟨_,_,h1.2,n0,λ n k hn hk=>by simp [bf,hx n k hn hk,gw,h1.1]⟩
  | ret=>exact ⟨_,_,h1,n0,λ n k hn hk=>by simp [bf,hx n k hn hk,gw]⟩
  | panic p=>exact ⟨_,_,h1,n0,λ n k hn hk=>by simp [bf,hx n k hn hk,gw]⟩
 | .loop ae b,st,Q,⟨I,⟨n,hi⟩,h⟩=>by
  obtain ⟨e,st',hq,n0,c,hx⟩:=tI (AP:=AP) (ctx:=ctx) (ae:=ae) (b:=b) (Q:=Q) (I:=I) (λ n st hi=>by
   obtain ⟨e,st',h1,h2⟩:=WP.run (c:=b) (h n st hi);exact ⟨e,st',h1,h2⟩) n n (qh n) st hi
  exact ⟨e,st',hq,max n0 c,λ n k hn hk=>hx n k (by omega) (by omega) n (by omega)⟩
 | .rangeFunc f k0,st,Q,h=>by
  obtain ⟨v,hv,h⟩:=wG.elim h;unfold BA at h;cases hr:ctx.round with
  | none =>
   rw [hr] at h;obtain ⟨e,st',hq,n0,hx⟩:=gJ.run h;exact ⟨e,st',hq,n0,λ n k hn hk=>by simpa [bf,Bh,hv,kG,pC,hr] using hx n k hn hk⟩
  | some l =>
   rw [hr] at h;obtain ⟨d,hd,h⟩:=bq.elim (m:=aA) h;obtain ⟨e,st',hq,n0,hx⟩:=gJ.run h;exact ⟨e,st',hq,n0,λ n k hn hk=>by simpa [bf,Bh,hv,kG,pC,hr,hd] using hx n k hn hk⟩
def rB (AP:aL) (rs:List cP) (tm:T AV) (Q:bo->AHeap->Prop):List aO->Option aC->AHeap->Prop
 | [],none,H=>bq aA (cF H tm rs) λ l=>Q (.ret (c6 l)) H
 | [],some c,H=>Q (.panic c) H
 | .eW b::ds,m,H=>H.get b=some (.deferred (some []))/\rB AP rs tm Q ds m (H.set b (.deferred none))
 | .fn (.func f) args::ds,m,H=>∃ v up' H',m8 AP f args (some (m.getD [])) H (.ret v) (some up') H'/\bq aA (iJ m up') λ m'=>rB AP rs tm Q ds m' H'
 | .fn (.yield _) _::_,_,_=>False
theorem rB.run {AP:aL} {rs:List cP} {tm:T AV} {Q:bo->AHeap->Prop}:∀ {ds:List aO} {m:Option aC} {H:AHeap},rB AP rs tm Q ds m H ->
 ∃ e H',Q e H' /\ ∃ n0,∀ n,n0<=n->bE (AP.call n) rs tm ds m H=some (e,H')
 | [],none,H,h=>by
  obtain ⟨l,hl,h⟩:=bq.elim (m:=aA) h;exact ⟨_,_,h,0,λ n _=>by simp [bE,hl]⟩
 | [],some c,H,h=>⟨_,_,h,0,λ n _=>by simp [bE]⟩
 | .eW b::ds,m,H,⟨hb,h⟩=>by
  obtain ⟨e,H',hq,n0,hx⟩:=rB.run h;exact ⟨e,H',hq,n0,λ n hn=>by simp [bE,hb,hx n hn]⟩
 | .fn (.func f) args::ds,m,H,⟨v,up',H',⟨n0,hc⟩,h⟩=>by
  obtain ⟨m',hm,h⟩:=bq.elim (m:=aA) h;obtain ⟨e,H2,hq,n1,hx⟩:=rB.run h;exact ⟨e,H2,hq,max n0 n1,λ n hn=>by simp [bE,hc n (by omega),hm,hx n (by omega)]⟩
 | .fn (.yield _) _::_,_,_,h=>False.elim h
def FIN (AP:aL) (rs:List cP) (Q:bo->Option aC->AHeap->Prop):bT:=λ e st=>match e with
 | .normal=>rB AP rs st.tm (λ e H=>Q e st.up H) st.aS none st.H
 | .ret=>rB AP rs st.tm (λ e H=>Q e st.up H) st.aS none st.H
 | .panic c=>rB AP rs st.tm (λ e H=>Q e st.up H) st.aS (some c) st.H
 | _=>False
theorem q3q {AP:aL} {f:Nat} {fn:av} (hf:AP.func f=some fn) {vs:List AV} {up:Option aC} {H:AHeap} {Q:bo->Option aC->AHeap->Prop}
 (h:WP AP ⟨none,f⟩ fn.body ⟨fj 0 vs .nil,[],up,H⟩ (FIN AP fn.results Q)):∃ e up' H',m8 AP f vs up H e up' H'/\Q e up' H':=by
 obtain ⟨hmu,hf⟩:=aL.pX hf;obtain ⟨e,st,h1,n0,hx⟩:=h.run;have key:∀ m,rB AP fn.results st.tm (λ e H=>Q e st.up H) st.aS m st.H->(∀ call,jQ call fn (e,st)=(bE call fn.results st.tm st.aS m st.H).bind λ q=>some (q.1,st.up,q.2)) ->
  ∃ e up' H',m8 AP f vs up H e up' H'/\Q e up' H':=by
  intro m h1 he;obtain ⟨e',H',hq,n1,hy⟩:=h1.run;refine ⟨e',st.up,H',⟨max n0 n1+1,λ n hn=>?_⟩,hq⟩;obtain ⟨n,rfl⟩:∃ j,n=j+1:=⟨n-1,by omega⟩
  have:=hx n n (by omega) (by omega);simp only [pC] at this;rw [aL.qX hmu];simp only [zL,hf,qm,exec,this,he,hy n (by omega)]
 cases e with
 | normal=>exact key none h1 λ _=>rfl
 | ret=>exact key none h1 λ _=>rfl
 | panic c=>exact key (some c) h1 λ _=>rfl
 | exit _=>exact False.elim h1
 | goto _=>exact False.elim h1
theorem q6l {AP:aL} {f:Nat} {fn:av} (hf:AP.func f=some fn) {vs:List AV} {H:AHeap} {Q:bo->AHeap->Prop}
 (h:WP AP ⟨none,f⟩ fn.body ⟨fj 0 vs .nil,[],none,H⟩ (FIN AP fn.results λ e up H=>up=none/\Q e H)):∃ e H',iG AP f vs H e H'/\Q e H':=by
 obtain ⟨e,up',H',h1,rfl,h2⟩:=q3q hf h;exact ⟨e,H',h1,h2⟩
def RE (l:Nat) (Q:bo->AHeap->Prop):bT:=λ e st=>st.aS=[]/\match e with
 | .panic c=>Q (.panic c) st.H
 | e=>bq aA (bP st.H l (cond (ra e) .ready .done) (fP e)) λ H=>Q (.ret (.bool (ra e))) H
def RB (W:St->bT->Prop) (l:Nat) (Q:bo->AHeap->Prop):bT:=λ e st=>match e with
 | .normal=>bq aA (beginRound st.H l) λ H=>W { st with H:=H } (RE l Q)
 | _=>False
theorem qw5 {AP:aL} {l:Nat} {H:AHeap} {s:hH} {p:Option dW} {f k:Nat} {tm:T AV} {d:Nat} {fn:av} {lp:du} {vs:List AV} {tm1:T AV} {Q:bo->AHeap->Prop}
 (hl:H.get l=some (.loop s p f k tm d)) (hf:AP.func f=some fn) (hk:nth fn.loops k=some lp) (hb:CY tm lp.params vs=some tm1)
 (h:WP AP ⟨some l,f⟩ lp.assign ⟨tm1,[],none,H⟩ (RB (WP AP ⟨some l,f⟩ lp.body) l Q)):∃ e H',lX AP l vs H e H'/\Q e H':=by
 obtain ⟨hmu,hf⟩:=aL.pX hf;obtain ⟨e,st,h1,n0,hx⟩:=h.run;cases e with
 | normal =>
  obtain ⟨H2,hbr,h1⟩:=bq.elim (m:=aA) h1;obtain ⟨e,st2,⟨hd,h2⟩,n1,hy⟩:=WP.run h1;have key:∀ e' H',Q e' H'->xW l (e,st2)=some (e',H') -> ∃ e H',lX AP l vs H e H'/\Q e H':=by
   intro e' H' hq he;refine ⟨e',H',⟨max n0 n1+1,λ n j hn hj=>?_⟩,hq⟩;obtain ⟨j,rfl⟩:∃ i,j=i+1:=⟨j-1,by omega⟩
   have hx':=hx n j (by omega) (by omega);have hy':=hy n j (by omega) (by omega);simp only [pC] at hx' hy';simp only [rounds,roundOf,hl,hf,qm,hk,hb,exec,hx',hbr,hy',hd,roundOf.noDefs,xh,he]
  cases e with
  | panic c=>exact key _ _ h2 rfl
  | normal=>obtain ⟨H3,h3,h2⟩:=bq.elim (m:=aA) h2;exact key _ _ h2 (by simp [xW,h3])
  | exit id=>obtain ⟨H3,h3,h2⟩:=bq.elim (m:=aA) h2;exact key _ _ h2 (by simp [xW,h3])
  | goto id=>obtain ⟨H3,h3,h2⟩:=bq.elim (m:=aA) h2;exact key _ _ h2 (by simp [xW,h3])
  | ret=>obtain ⟨H3,h3,h2⟩:=bq.elim (m:=aA) h2;exact key _ _ h2 (by simp [xW,h3])
 | exit _=>exact False.elim h1
 | goto _=>exact False.elim h1
 | ret=>exact False.elim h1
 | panic _=>exact False.elim h1
theorem iG.wA {AP:aL} {f:Nat} {vs:List AV} {H:AHeap} {e:bo} {H':AHeap} (h:iG AP f vs H e H'):∃ n,AP.call n f vs none H=some (e,none,H'):=by
 obtain ⟨n,h⟩:=h;exact ⟨n,h n (qh n)⟩
end
end Go.Am
namespace Go.Am
abbrev Env:=List (Nat × AV)
def lG (dst:Option Nat) (v:AV) (E:Env):Env:=match dst with
 | some d=>(d,v)::E
 | none=>E
def BI {α:Type} (m:Bool) (o:Option α) (K:Bool -> α->Prop):Prop:=match o with
 | some a=>K aA a
 | none=>False
def mC {α β:Type} (m:Bool) (o:Option (α × β)) (K:Bool -> α -> β->Prop):Prop:=match o with
 | some a=>K aA a.1 a.2
 | none=>False
def IG (m:Bool) (q:Bool) (A B:Bool->Prop):Prop:=match q with
 | true=>A aA
 | false=>B aA
def LK {α:Type} (m:Bool) (o:Option α) (K:Bool -> α->Prop):Prop:=match o with
 | some a=>K m a
 | none=>False
theorem xC {α:Type} (a:α) (K:Bool -> α->Prop):LK true (some a) K=K true a:=propext j3
@[congr] theorem HG {α:Type} {m m':Bool} {o o':Option α} {K:Bool -> α->Prop} (hm:m=m') (h:o=o'):LK m o K=LK m' o' K:=by subst hm;subst h;rfl
@[congr] theorem Iu {α:Type} {m m':Bool} {o o':Option α} {K:Bool -> α->Prop} (hm:m=m') (h:o=o'):BI m o K=BI m' o' K:=by subst hm;subst h;rfl
@[congr] theorem FO {α β:Type} {m m':Bool} {o o':Option (α × β)} {K:Bool -> α -> β->Prop} (hm:m=m') (h:o=o'):mC m o K=mC m' o' K:=by subst hm;subst h;rfl
@[congr] theorem G9 {m m' q q':Bool} {A B:Bool->Prop} (hm:m=m') (h:q=q'):IG m q A B=IG m' q' A B:=by subst hm;subst h;rfl
theorem BI.intro {α:Type} {m:Bool} {o:Option α} {K:Bool -> α->Prop} {a:α} (h:o=some a) (hk:K aA a):BI m o K:=by subst h;exact hk
theorem mC.intro {α β:Type} {m:Bool} {o:Option (α × β)} {K:Bool -> α -> β->Prop} {a:α} {b:β} (h:o=some (a,b)) (hk:K aA a b):mC m o K:=by subst h;exact hk
theorem IG.cases {m:Bool} {q:Bool} {A B:Bool->Prop} (h1:q=true->A aA) (h2:q=false->B aA):IG m q A B:=by
 cases q with
 | true=>exact h1 rfl
 | false=>exact h2 rfl
noncomputable section
variable (AP:aL)
def CA (m:Bool) (f:eX) (vs:List AV) (H:AHeap) (K:Bool->AV->AHeap->Prop) (E:aC->AHeap->Prop):Prop:=gO AP m f vs H (K aA) E
@[congr] theorem G7 {AP:aL} {m m':Bool} {f f':eX} {vs vs':List AV} {H:AHeap} {K:Bool->AV->AHeap->Prop} {E:aC->AHeap->Prop} (hm:m=m') (hf:f=f') (h:vs=vs'):CA AP m f vs H K E=CA AP m' f' vs' H K E:=by subst hm;subst h;subst hf;rfl
theorem CA.ret {AP:aL} {m:Bool} {f:Nat} {vs:List AV} {H:AHeap} {K:Bool->AV->AHeap->Prop} {E:aC->AHeap->Prop} {v:AV} {H':AHeap} (h:iG AP f vs H (.ret v) H') (hk:K aA v H'):CA AP m (.func f) vs H K E :=
 ⟨_,_,h,hk⟩
theorem CA.panic {AP:aL} {m:Bool} {f:Nat} {vs:List AV} {H:AHeap} {K:Bool->AV->AHeap->Prop} {E:aC->AHeap->Prop} {c:aC} {H':AHeap} (h:iG AP f vs H (.panic c) H') (hk:E c H'):CA AP m (.func f) vs H K E :=
 ⟨_,_,h,hk⟩
def VI (m:Bool) (vs:List AV) (K:Bool->eX->List AV->Prop):Prop:=D7 m vs (K aA)
@[congr] theorem Ho {m m':Bool} {vs vs':List AV} {K:Bool->eX->List AV->Prop} (hm:m=m') (h:vs=vs'):VI m vs K=VI m' vs' K:=by subst hm;subst h;rfl
def IV (m:Bool) (name:String) (vs:List AV) (K:Bool->eX->List AV->Prop):Prop:=EP AP m name vs (K aA)
@[congr] theorem Gu {AP:aL} {m m':Bool} {name:String} {vs vs':List AV} {K:Bool->eX->List AV->Prop} (hm:m=m') (h:vs=vs'):IV AP m name vs K=IV AP m' name vs' K:=by subst hm;subst h;rfl
def RC (m:Bool) (ctx:Ctx) (up:Option aC) (K:Bool->AV->Option aC->Prop):Prop:=mY m ctx up (K aA)
@[congr] theorem Ig {m m':Bool} {ctx:Ctx} {up up':Option aC} {K:Bool->AV->Option aC->Prop} (hm:m=m') (h:up=up'):RC m ctx up K=RC m' ctx up' K:=by subst hm;subst h;rfl
def DF (m:Bool) (ctx:Ctx) (vs:List AV) (aS:List aO) (K:Bool->List aO->Prop):Prop:=rP m ctx vs aS (K aA)
@[congr] theorem HD {m m':Bool} {ctx:Ctx} {vs vs':List AV} {aS:List aO} {K:Bool->List aO->Prop} (hm:m=m') (h:vs=vs'):DF m ctx vs aS K=DF m' ctx vs' aS K:=by subst hm;subst h;rfl
end
end Go.Am
namespace Go.Am
theorem xat (n:Int):aW .i64 n=(n+9223372036854775808) % 18446744073709551616-9223372036854775808:=by
 simp [aW,IntKind.wrap,IntKind.bits,IntKind.signed];split<;>omega
theorem vl {n:Int} (h:-9223372036854775808<=n) (h':n<9223372036854775808):aW .i64 n=n:=by rw [xat];omega
section
variable (k:IntKind) (a b:Int)
theorem CB (v:AV):Op.move [v]=some v:=rfl
theorem BW (q:Bool) (a b:AV):Op.pick [.bool q,a,b]=some (cond q a b):=rfl
theorem Hs:Op.bin .add [.int k a,.int k b]=some (.int k (aW k (a+b))):=by cases k<;>rfl
theorem GC:Op.bin .sub [.int k a,.int k b]=some (.int k (aW k (a-b))):=by cases k<;>rfl
theorem Gx:Op.bin .mul [.int k a,.int k b]=some (.int k (aW k (a*b))):=by cases k<;>rfl
theorem Gw (hb:b ≠ 0):Op.bin .quo [.int k a,.int k b]=some (.int k (aW k (a.tdiv b))):=by
 have:pH b 0=false:=by rw [AA];simpa using hb
 cases k<;>simp [Op.bin,jJ,cQ,nX,gW,dC,this]
theorem Bz (hb:b ≠ 0):Op.bin .rem [.int k a,.int k b]=some (.int k (a.tmod b)):=by
 have:pH b 0=false:=by rw [AA];simpa using hb
 cases k<;>simp [Op.bin,jJ,cQ,nX,gW,dC,this]
theorem GU:Op.bin .eql [.int k a,.int k b]=some (.bool (decide (a=b))):=by
 have:pH a b=decide (a=b):=by rw [AA];rfl
 cases k<;>simp [Op.bin,jJ,cQ,nX,gW,dC,this]
theorem Ik:Op.bin .neq [.int k a,.int k b]=some (.bool (decide (a ≠ b))):=by
 have:pH a b=decide (a=b):=by rw [AA];rfl
 cases k<;>simp [Op.bin,jJ,cQ,nX,gW,dC,this]
theorem Ir:Op.bin .lss [.int k a,.int k b]=some (.bool (decide (a<b))):=by
 cases k<;>simp [Op.bin,jJ,cQ,nX,gW,dC,IX]
theorem Gv:Op.bin .leq [.int k a,.int k b]=some (.bool (decide (a<=b))):=by
 cases k<;>simp [Op.bin,jJ,cQ,nX,gW,dC,zI]
theorem HH:Op.bin .gtr [.int k a,.int k b]=some (.bool (decide (b<a))):=by
 cases k<;>simp [Op.bin,jJ,cQ,nX,gW,dC,IX]
theorem Iz:Op.bin .geq [.int k a,.int k b]=some (.bool (decide (b<=a))):=by
 cases k<;>simp [Op.bin,jJ,cQ,nX,gW,dC,zI]
theorem Ck (k':IntKind):Op.wrap k [.int k' a]=some (.int k (aW k a)):=rfl
theorem Iy (q:Bool):Op.un .not [.bool q]=some (.bool (!q)):=rfl
theorem q82 (a b:List UInt8):rp a b=decide (a=b):=by
 by_cases h:a=b
 ·subst h;simp [FL]
 ·simp [FL,h]
theorem Ee (a b:List UInt8):Op.bin .eql [.str a,.str b]=some (.bool (decide (a=b))):=by
 simp only [Op.bin,jJ,kD,q82]
theorem Db (a b:List UInt8):Op.bin .neq [.str a,.str b]=some (.bool (decide (a ≠ b))):=by
 simp [Op.bin,jJ,kD,q82]
theorem wD (s:List UInt8):Op.oU [.str s]=some (.int .i64 s.length):=by simp [Op.oU,gA,zO]
theorem q9s (i:Nat) (l:List AV):Op.extract i [.tuple l]=l[i]?:=by simp [Op.extract,iN]
theorem ug (f n:Nat) (l:List AV):Op.cw f n l=some (.fn (.func f) (l.take n) (l.drop n)):=rfl
theorem q9t (t:Nat) (v:AV):Op.pL t [v]=some (.iface t v):=rfl
theorem q4d (off b o:Nat):Op.fieldAddr off [.ptr b o]=some (.ptr b (o+off)):=rfl
theorem rE (off:Nat) (l:List AV):Op.field off none [.agg l]=l[off]?:=by simp [Op.field,partAt,iN]
theorem Ep (q:Bool):aw true (some (.bool q))=some q:=by cases q<;>rfl
theorem yW (q:Bool):aw false (some (.bool q))=some (!q):=by cases q<;>rfl
theorem zA (b:Bool):aw b (some .undef)=some false:=rfl
end
structure Fr (W:Nat->Prop) (H H':AHeap):Prop where
 next:H.next<=H'.next
 ae:∀ b,b<H.next -> ¬ W b->H'.get b=H.get b
def Em:Nat->Prop:=λ _=>False
def On (b:Nat):Nat->Prop:=λ x=>x=b
theorem Fr.refl {W:Nat->Prop} (H:AHeap):Fr W H H:=⟨qh _,λ _ _ _=>rfl⟩
theorem Fr.trans {W W':Nat->Prop} {H H1 H2:AHeap} (a:Fr W H H1) (b:Fr W' H1 H2) (h:∀ x,W' x->W x\/H.next<=x):Fr W H H2 :=
 ⟨xy a.next b.next,λ x hx hw=>by
  rw [b.ae x (qt hx a.next) (λ hw'=>(h x hw').elim hw (λ q=>by omega)),a.ae x hx hw]⟩
theorem Fr.em {W:Nat->Prop} {H H1 H2:AHeap} (a:Fr W H H1) (b:Fr Em H1 H2):Fr W H H2:=a.trans b λ _ h=>h.elim
theorem Fr.mono {W W':Nat->Prop} {H H':AHeap} (a:Fr W H H') (h:∀ x,x<H.next->W x->W' x):Fr W' H H':=⟨a.next,λ x hx hw=>a.ae x hx λ q=>hw (h x hx q)⟩
theorem xn (H:AHeap) (o:bJ):(H.alloc o).next=H.next+1:=rfl
theorem FT (H:AHeap) (b:Nat) (o:bJ):(H.set b o).next=H.next:=rfl
theorem zD (H:AHeap) (b:Nat):(H.kill b).next=H.next:=rfl
theorem Fr.alloc {W:Nat->Prop} {H H1:AHeap} (a:Fr W H H1) (o:bJ):Fr W H (H1.alloc o) :=
 ⟨FH a.next,λ x hx hw=>by rw [AHeap.bj,qd (by have:=a.next;omega),a.ae x hx hw]⟩
theorem Fr.set {W:Nat->Prop} {H H1:AHeap} (a:Fr W H H1) {b:Nat} (h:W b\/H.next<=b) (o:bJ):Fr W H (H1.set b o) :=
 ⟨a.next,λ x hx hw=>by rw [AHeap.aJ,qd (by rintro rfl;exact h.elim hw (λ q=>by omega)),a.ae x hx hw]⟩
theorem Fr.kill {W:Nat->Prop} {H H1:AHeap} (a:Fr W H H1) {b:Nat} (h:W b\/H.next<=b):Fr W H (H1.kill b) :=
 ⟨a.next,λ x hx hw=>by rw [AHeap.jW,qd (by rintro rfl;exact h.elim hw (λ q=>by omega)),a.ae x hx hw]⟩
theorem xc {H:AHeap} {b:Nat} {c:List AV} {e:Nat} {fz:Nat × Nat} {ow:Bool} (h:H.get b=some (.row c e fz ow)):H.bQ b=some c:=by simp [AHeap.bQ,h]
theorem KO {H:AHeap} {b m s:Nat} {c:List AV} {e:Nat} {fz:Nat × Nat} (h:H.get b=some (.grown m s c e fz)):H.bQ b=some c:=by simp [AHeap.bQ,h]
theorem q6n {H H':AHeap} {b:Nat} (h:H'.get b=H.get b):H'.bQ b=H.bQ b:=by simp [AHeap.bQ,h]
theorem Fr.cells {W:Nat->Prop} {H H':AHeap} (a:Fr W H H') {b:Nat} (hb:b<H.next) (hw:¬ W b):H'.bQ b=H.bQ b:=q6n (a.ae b hb hw)
theorem ze {H:AHeap} {b:Nat} {c:List AV} (h:H.bQ b=some c) (o:Nat):Op.aa [.ptr b o] H=c[o]?:=by simp [Op.aa,AHeap.aa,h,iN]
theorem wW {H:AHeap} {b:Nat} {c:List AV} (h:H.bQ b=some c) {o n:Nat} (hn:o+n<=c.length):Op.ao n [.ptr b o] H=some (.agg ((c.drop o).take n)):=by
 simp only [Op.ao,AHeap.ao,h,qm,oI];rw [qr (by omega)];rfl
def Sl (H:AHeap) (size:Nat) (v:AV) (n:Nat) (cells:List AV):Prop :=
 cells.length=n*size/\match v with
 | .nils=>n=0
 | .slice b o m c=>m=n/\n<=c/\(n=0\/b<H.next /\ ∃ all,H.bQ b=some all/\dO all o (n*size)=some cells)
 | .gslice b i m s alt k=>k=n/\s=size/\i+n<=m/\(n=0\/b<H.next /\ ∃ all,H.bQ b=some all/\dO all (i*size) (n*size)=some cells)
 | .eslice b=>n=0/\b<H.next
 | _=>False
def aN:AV->Nat
 | .slice b _ _ _=>b
 | .gslice b _ _ _ _ _=>b
 | .eslice b=>b
 | _=>0
def b9 (size:Nat):AV->Nat->Nat
 | .slice _ o _ _,j=>o+j*size
 | .gslice _ i _ s _ _,j=>i*s+j*s
 | _,_=>0
theorem Sl.dJ {H:AHeap} {size:Nat} {v:AV} {n:Nat} {cells:List AV} (h:Sl H size v n cells):dJ v=some n:=by
 obtain ⟨_,h⟩:=h;split at h
 ·subst h;rfl
 ·obtain ⟨rfl,_⟩:=h;rfl
 ·obtain ⟨rfl,_⟩:=h;rfl
 ·obtain ⟨rfl,_⟩:=h;rfl
 ·exact h.elim
theorem Sl.len {H:AHeap} {size:Nat} {v:AV} {n:Nat} {cells:List AV} (h:Sl H size v n cells):Op.bO [v]=some (.int .i64 n):=by
 obtain ⟨_,h⟩:=h;split at h
 ·subst h;rfl
 ·obtain ⟨rfl,_⟩:=h;rfl
 ·obtain ⟨rfl,_⟩:=h;rfl
 ·obtain ⟨rfl,_⟩:=h;rfl
 ·exact h.elim
theorem NZ {z:Int} {i n:Nat} (hz:z=i) (h:i<n):within z n=some i:=by
 subst hz;show cond (Nat.blt i n) (some i) none=some i;have:Nat.blt i n=true:=by simpa [nM] using h
 rw [this];rfl
theorem EG {i j:Nat} (h:i ≠ j):Nat.beq i j=false:=by
 cases q:Nat.beq i j with
 | false=>rfl
 | true=>exact (h (Nat.eq_of_beq_eq_true q)).elim
theorem yI {i n:Nat} (h:i<n):Nat.blt i n=true:=by simpa [nM] using h
theorem yo {i n:Nat} (h:i<=n):Nat.ble i n=true:=by simpa using h
theorem Sl.idx {H:AHeap} {size:Nat} {v:AV} {n:Nat} {cells:List AV} (h:Sl H size v n cells) {i:Nat} (hi:i<n) {z:Int} (hz:z=i) (k:IntKind) :
 Op.aQ size [v,.int k z]=some (.ptr (aN v) (b9 size v i)):=by
 obtain ⟨hl,h⟩:=h;split at h
 ·omega
 ·rename_i b o m c;obtain ⟨rfl,hc,h⟩:=h;have h1:=yI hi;simp [Op.aQ,Am.dJ,NZ hz hi,elemAt,h1,aN,b9]
 ·rename_i b j m s alt k;obtain ⟨rfl,rfl,hm,h⟩:=h;have h1:=yI hi;have h2:=yI (show j+i<m by omega);simp [Op.aQ,Am.dJ,NZ hz hi,elemAt,h1,h2,aN,b9]
 ·omega
 ·exact h.elim
theorem Jz {α:Type} {l r:List α} {o n:Nat} (h:dO l o n=some r):n<=l.length-o/\r=(l.drop o).take n:=by
 rw [oI] at h;split at h
 ·rename_i hn;injection h with h;exact ⟨hn,h.symm⟩
 ·cases h
theorem Sl.at {H:AHeap} {size:Nat} {v:AV} {n:Nat} {cells:List AV} (hs0:0<size) (h:Sl H size v n cells) {i:Nat} (hi:i<n) :
 aN v<H.next /\ ∃ all,H.bQ (aN v)=some all/\b9 size v i+size<=all.length /\ ∀ j,j<size->all[b9 size v i+j]? = cells[i*size+j]?:=by
 obtain ⟨hl,h⟩:=h;have hps:0<n*size:=Nat.mul_pos (by omega) hs0;have hsz:i*size+size<=n*size:=by rw [<-wx];exact ke _ hi
 split at h
 ·omega
 ·rename_i b o m c;obtain ⟨rfl,hc,h⟩:=h;rcases h with h|⟨hb,all,h1,h2⟩
  ·omega
  obtain ⟨h3,rfl⟩:=Jz h2;refine ⟨hb,all,h1,?_,λ j hj=>?_⟩
  ·simp only [b9];simp at hl;omega
  ·simp only [b9];rw [kt,qr (by omega),ya];congr 1;omega
 ·rename_i b q m s alt k;obtain ⟨rfl,rfl,hm,h⟩:=h;rcases h with h|⟨hb,all,h1,h2⟩
  ·omega
  obtain ⟨h3,rfl⟩:=Jz h2;refine ⟨hb,all,h1,?_,λ j hj=>?_⟩
  ·simp only [b9];simp at hl;omega
  ·simp only [b9];rw [kt,qr (by omega),ya];congr 1;omega
 ·omega
 ·exact h.elim
theorem Sl.fr {H H':AHeap} {W:Nat->Prop} {size:Nat} {v:AV} {n:Nat} {cells:List AV} (h:Sl H size v n cells) (f:Fr W H H') (hw:n=0 \/ ¬ W (aN v)):Sl H' size v n cells:=by
 obtain ⟨hl,h⟩:=h;refine ⟨hl,?_⟩;split at h
 ·exact h
 ·obtain ⟨h1,h2,h3⟩:=h;refine ⟨h1,h2,?_⟩;rcases h3 with h3|⟨hb,all,h3,h4⟩
  ·exact .inl h3
  ·rcases hw with hw|hw
   ·exact .inl hw
   ·exact .inr ⟨qt hb f.next,all,by rw [f.cells hb hw];exact h3,h4⟩
 ·obtain ⟨h1,h2,h0,h3⟩:=h;refine ⟨h1,h2,h0,?_⟩;rcases h3 with h3|⟨hb,all,h3,h4⟩
  ·exact .inl h3
  ·rcases hw with hw|hw
   ·exact .inl hw
   ·exact .inr ⟨qt hb f.next,all,by rw [f.cells hb hw];exact h3,h4⟩
 ·exact ⟨h.1,qt h.2 f.next⟩
 ·exact h.elim
theorem Sl.em {H H':AHeap} {size:Nat} {v:AV} {n:Nat} {cells:List AV} (h:Sl H size v n cells) (f:Fr Em H H'):Sl H' size v n cells:=h.fr f (.inr id)
theorem Sl.first {H:AHeap} {size:Nat} {v:AV} {n:Nat} {cells:List AV} (h:Sl H size v n cells):firstCells H size n v=some cells:=by
 obtain ⟨hl,h⟩:=h;split at h
 ·subst h;simp at hl;subst hl;rfl
 ·rename_i b o m c;obtain ⟨rfl,hc,h⟩:=h;rcases h with rfl|⟨hb,all,h1,h2⟩
  ·simp at hl;subst hl;rfl
  ·by_cases hn:m=0
   ·subst hn;simp at hl;subst hl;rfl
   ·have:Nat.beq m 0=false:=EG hn;simp only [firstCells,this,zg,AHeap.ao,h1,qm,h2]
 ·rename_i b i m s alt k;obtain ⟨rfl,rfl,hm,h⟩:=h;rcases h with rfl|⟨hb,all,h1,h2⟩
  ·simp at hl;subst hl;rfl
  ·by_cases hn:k=0
   ·subst hn;simp at hl;subst hl;rfl
   ·have:Nat.beq k 0=false:=EG hn;have h3:=yI (show i<m by omega);simp [firstCells,this,h3,AHeap.ao,h1,h2]
 ·obtain ⟨rfl,_⟩:=h;simp at hl;subst hl;rfl
 ·exact h.elim
def dZ {α:Type} (enc:α->List AV) (size:Nat) (H:AHeap) (v:AV) (xs:List α):Prop:=Sl H size v xs.length (xs.flatMap enc)
section
variable {α:Type} {enc:α->List AV} {size:Nat} {H H':AHeap} {v:AV} {xs:List α}
theorem dZ.len (h:dZ enc size H v xs):Op.bO [v]=some (.int .i64 xs.length):=Sl.len h
theorem dZ.fr {W:Nat->Prop} (h:dZ enc size H v xs) (f:Fr W H H') (hw:¬ W (aN v)):dZ enc size H' v xs:=Sl.fr h f (.inr hw)
theorem dZ.em (h:dZ enc size H v xs) (f:Fr Em H H'):dZ enc size H' v xs:=Sl.em h f
theorem DR (hs:∀ x,(enc x).length=size):∀ (xs:List α) {i:Nat} {x:α},xs[i]? = some x -> ∀ {j:Nat},j<size->(xs.flatMap enc)[i*size+j]? = (enc x)[j]?
 | [],i,x,h,j,hj=>by simp at h
 | y::ys,0,x,h,j,hj=>by
  simp at h;subst h;rw [jm,kn (by rw [hs];omega)];simp
 | y::ys,i+1,x,h,j,hj=>by
  simp only [zu] at h;rw [jm,jq (by rw [hs,wx];omega),hs,<-DR hs ys h hj];congr 1;rw [wx];omega
theorem BH {i:Nat} {x:α} (h:xs[i]? = some x):i<xs.length:=(qi.1 h).1
theorem dZ.idx (h:dZ enc size H v xs) {i:Nat} {x:α} (hx:xs[i]? = some x) {z:Int} (hz:z=i) (k:IntKind):Op.aQ size [v,.int k z]=some (.ptr (aN v) (b9 size v i)) :=
 Sl.idx h (BH hx) hz k
theorem dZ.aa (hs:∀ x,(enc x).length=size) (h:dZ enc size H v xs) {i:Nat} {x:α} (hx:xs[i]? = some x) {j:Nat} (hj:j<size):Op.aa [.ptr (aN v) (b9 size v i+j)] H=(enc x)[j]?:=by
 obtain ⟨_,all,h1,h2,h3⟩:=Sl.at (by omega) h (BH hx);rw [ze h1,h3 j hj,DR hs xs hx hj]
theorem dZ.nO (hs:∀ x,(enc x).length=size) (h:dZ enc size H v xs) {i:Nat} {x:α} (hx:xs[i]? = some x) (hj:0<size):Op.aa [.ptr (aN v) (b9 size v i)] H=(enc x)[0]?:=h.aa hs hx hj
theorem dZ.ao (hs:∀ x,(enc x).length=size) (hs0:0<size) (h:dZ enc size H v xs) {i:Nat} {x:α} (hx:xs[i]? = some x):Op.ao size [.ptr (aN v) (b9 size v i)] H=some (.agg (enc x)):=by
 obtain ⟨_,all,h1,h2,h3⟩:=Sl.at hs0 h (BH hx);rw [wW h1 h2];congr 2;refine kx λ j=>?_
 by_cases hj:j<size
 ·rw [kt,qr hj,ya,h3 j hj,DR hs xs hx hj]
 ·rw [zq (by simp;omega),zq (by rw [hs];omega)]
end
def Own (H:AHeap) (e size:Nat) (v:AV) (n:Nat) (cells:List AV):Prop :=
 cells.length=n*size/\(n=0/\(v=.nils \/ ∃ b,v=.slice b 0 0 0/\b<H.next) \/ ∃ b,v=.gslice b 0 n size 0 n/\b<H.next/\H.get b=some (.grown n size cells e (0,0)))
def bC (v:AV):Nat->Prop:=λ x=>v ≠ .nils/\x=aN v
theorem Own.nil (H:AHeap) (e size:Nat):Own H e size .nils 0 []:=⟨by simp,.inl ⟨rfl,.inl rfl⟩⟩
theorem Own.sl {H:AHeap} {e size:Nat} {v:AV} {n:Nat} {cells:List AV} (h:Own H e size v n cells):Sl H size v n cells:=by
 obtain ⟨hl,⟨rfl,rfl|⟨b,rfl,hb⟩⟩|⟨b,rfl,h1,h2⟩⟩:=h
 ·exact ⟨hl,rfl⟩
 ·exact ⟨hl,rfl,qh _,.inl rfl⟩
 ·refine ⟨hl,rfl,rfl,by omega,.inr ⟨h1,cells,KO h2,?_⟩⟩;rw [oI,qr (by simp [hl])];simp [<-hl]
theorem Own.fr {H H':AHeap} {W:Nat->Prop} {e size:Nat} {v:AV} {n:Nat} {cells:List AV} (h:Own H e size v n cells) (f:Fr W H H') (hw:∀ x,bC v x -> ¬ W x):Own H' e size v n cells:=by
 obtain ⟨hl,⟨h0,h|⟨b,rfl,hb⟩⟩|⟨b,rfl,h1,h2⟩⟩:=h
 ·exact ⟨hl,.inl ⟨h0,.inl h⟩⟩
 ·exact ⟨hl,.inl ⟨h0,.inr ⟨b,rfl,qt hb f.next⟩⟩⟩
 ·exact ⟨hl,.inr ⟨b,rfl,qt h1 f.next,by rw [f.ae b h1 (hw b ⟨by simp,rfl⟩)];exact h2⟩⟩
theorem Own.em {H H':AHeap} {e size:Nat} {v:AV} {n:Nat} {cells:List AV} (h:Own H e size v n cells) (f:Fr Em H H'):Own H' e size v n cells:=h.fr f λ _ _ h=>h
theorem Own.lt {H:AHeap} {e size:Nat} {v:AV} {n:Nat} {cells:List AV} (h:Own H e size v n cells):∀ x,bC v x->x<H.next:=by
 rintro x ⟨h1,rfl⟩;obtain ⟨hl,⟨h0,h|⟨b,rfl,hb⟩⟩|⟨b,rfl,h1,h2⟩⟩:=h
 ·exact (h1 h).elim
 ·exact hb
 ·exact h1
theorem Sl.one {H:AHeap} {size:Nat} {v:AV} {n:Nat} {cells:List AV} (h:Sl H size v n cells):bm v=true:=by
 obtain ⟨_,h⟩:=h;cases v<;>first|rfl|exact h.elim
theorem JH {n bytes:Nat} (h1:n*bytes<=140737488355328) (h2:n<=140737488355328):fits n bytes=true:=by
 simp [fits,h1,h2]
theorem qyc {H:AHeap} {e size bytes:Nat} {v:AV} {n:Nat} {cells:List AV} (h:Own H e size v n cells) {x:AV} {k:Nat} {new:List AV} (hx:Sl H size x k new) (hnew:aY new=true) (hs:0<size)
 (hf:(n+k)*bytes<=140737488355328) (hf':n+k<=140737488355328) {K:Bool->AV->AHeap->Prop} {m:Bool}
 (hk:∀ v' H',Own H' e size v' (n+k) (cells++new)->Fr (bC v) H H'->(∀ b,bC v' b->bC v b\/H.next<=b)->K aA v' H'):mC m (Op.append e size bytes [v,x] H) K:=by
 have hfit:=JH hf hf';have hlen:new.length=k*size:=hx.1;have hs':=yI hs;have e1:∀ n,Nat.beq n n=true:=λ n=>by simp
 simp only [Op.append,hx.dJ,hx.first,qm,hnew,xh];obtain ⟨hl,⟨rfl,rfl|⟨b,rfl,hb⟩⟩|⟨b,rfl,h1,h2⟩⟩:=h
 ·simp only [vp,yb] at hl;subst hl
  by_cases hk0:k=0
  ·subst hk0;simp at hlen;subst hlen;exact hk .nils H (Own.nil H e size) (Fr.refl H) λ b hb=>.inl hb
  ·have h0:Nat.beq k 0=false:=EG hk0;simp only [bV,h0,zg,ko] at hfit ⊢;simp only [hfit,hs',jd,xh,cq,mC];refine hk _ _ ⟨by simpa using hlen,.inr ⟨H.next,by simp,by rw [xn];omega,?_⟩⟩ ((Fr.refl H).alloc _) λ b hb=>.inr (by rw [hb.2];exact qh _);rw [AHeap.bj,qr rfl];simp
 ·simp only [vp,yb] at hl;subst hl
  by_cases hk0:k=0
  ·subst hk0;simp at hlen;subst hlen;simp only [bV,qe,yo (qh 0),xh,e1,mC];exact hk _ H ⟨by simp,.inl ⟨rfl,.inr ⟨b,rfl,hb⟩⟩⟩ (Fr.refl H) λ b hb=>.inl hb
  ·have h0:Nat.beq k 0=false:=EG hk0;have h3:Nat.ble k 0=false:=by cases hq:Nat.ble k 0 with|false=>rfl|true=>rw [wc] at hq;omega
   have h4:firstCells H size 0 (.slice b 0 0 0)=some []:=rfl;simp only [bV,ko,h3,zg] at hfit ⊢;simp only [hfit,yo (zp k),hs',jd,xh,h4,qm,i9,zy,cq,mC];refine hk _ _ ⟨by simpa using hlen,.inr ⟨H.next,by simp,by rw [xn];omega,?_⟩⟩ ((Fr.refl H).alloc _) λ b hb=>.inr (by rw [hb.2];exact qh _);rw [AHeap.bj,qr rfl];simp
 ·by_cases hk0:k=0
  ·subst hk0;simp at hlen;subst hlen;simp only [bV,Nat.beq,xh,ko,yo (qh n),mC];refine hk _ _ ⟨by simpa using hl,.inr ⟨b,rfl,h1,by simpa using h2⟩⟩ (Fr.refl H) λ b hb=>.inl hb
  ·have h0:Nat.beq k 0=false:=EG hk0;have h3:Nat.ble (0+n+k) n=false:=by cases hq:Nat.ble (0+n+k) n with|false=>rfl|true=>rw [wc] at hq;omega
   simp only [bV,h0,zg,e1,ko,yo (qh n),hs',jd,xh] at h3 ⊢;simp only [h3,zg,hfit,xh,h2,e1,jd,Nat.beq,yo (zp (n*size)),cq,mC];refine hk _ _ ⟨by simp [hl,hlen,ki],.inr ⟨H.next,by simp [zD],by rw [xn,zD];omega,?_⟩⟩ (((Fr.refl H).kill (.inl ⟨by simp,rfl⟩)).alloc _) λ b hb=>.inr (by rw [hb.2];exact qh _);rw [AHeap.bj,zD,qr rfl,i9]
theorem KH (e n:Nat) (zero:List AV) (v:AV) (hz:zero.length=n) (hv:v.cells.length=n):Op.buildSlice e 1 zero [(0,n)] [v]=some (.row v.cells e (0,0) true,Op.sliceTo 1 1):=by
 have e1:∀ n,Nat.beq n n=true:=λ n=>by simp
 simp only [Op.buildSlice,dh,i9,zd,eV,zO,hv,e1,xh,wO,ko,hz,qr (qh n),EH,zy,qm];rw [j4 (by omega)];simp
theorem tN {H:AHeap} {size e:Nat} {cells:List AV} (hc:cells.length=size):Sl (H.alloc (.row cells e (0,0) true)) size (Op.sliceTo 1 1 H.next) 1 cells:=by
 refine ⟨by simp [hc],rfl,qh 1,.inr ⟨by rw [xn];omega,cells,xc (by rw [AHeap.bj,qr rfl]),?_⟩⟩;rw [oI,qr (by simp [hc])];simp [<-hc]
theorem yZ {H:AHeap} {e size bytes:Nat} {v:AV} {n:Nat} {cells:List AV} (h:Own H e size v n cells) {zero:List AV} {x:AV} (hz:zero.length=size) (hx:x.cells.length=size) (hnew:aY x.cells=true) (hs:0<size)
 (hf:(n+1)*bytes<=140737488355328) (hf':n+1<=140737488355328) {K:bJ->(Nat->AV)->Bool->AV->AHeap->Prop} {m:Bool}
 (hk:∀ v' H',Own H' e size v' (n+1) (cells++x.cells)->Fr (bC v) H H'->(∀ b,bC v' b->bC v b\/H.next<=b)->K (.row x.cells e (0,0) true) (Op.sliceTo 1 1) aA v' H') :
 mC m (Op.buildSlice e 1 zero [(0,size)] [x]) λ g o mk=>mC g (Op.append e size bytes [v,mk H.next] (H.alloc o)) (K o mk):=by
 rw [KH e size zero x hz hx];have hfr:Fr Em H (H.alloc (.row x.cells e (0,0) true)):=(Fr.refl H).alloc _;refine mC.intro rfl ?_;refine qyc (m:=aA) (h.em hfr) (tN hx) hnew hs hf hf' λ v' H' h1 h2 h3=>hk v' H' h1 ?_ λ b hb=>?_
 ·exact ⟨xy hfr.next h2.next,λ b hb hw=>by rw [h2.ae b (qt hb hfr.next) hw,hfr.ae b hb (λ q=>q)]⟩
 ·exact (h3 b hb).imp id λ q=>xy hfr.next q
theorem Cd.intro {W:St->bT->Prop} {ae:Option (List Nat)} {st:St} {Q:bT} (I:Nat->St->Prop) (n:Nat) (h0:I n st)
 (h:∀ n st,I n st->W (fR ae st) λ e st'=>match e with
  | .normal=>∃ m,m<n/\I m st'
  | e=>Q e st'):Cd W ae st Q:=⟨I,⟨n,h0⟩,h⟩
end Go.Am
namespace Go.Am
theorem zG (H:AHeap) (tm:T AV) (t:Nat) (rs:List cP):cF H tm (.tmp t::rs)=(tm.get t).bind λ v=>(cF H tm rs).bind λ vs=>some (v::vs):=rfl
theorem q96 (H:AHeap) (tm:T AV) (t:Nat) (rs:List cP):cF H tm (.gB t::rs)=(((tm.get t).bind λ v=>Op.aa [v] H)).bind λ v=>(cF H tm rs).bind λ vs=>some (v::vs):=by
 simp only [cF,FJ];congr 1;cases tm.get t with
 | none=>rfl
 | some v=>cases v<;>rfl
theorem q97 (H:AHeap) (tm:T AV) (n t:Nat) (rs:List cP):cF H tm (.bY n t::rs)=(((tm.get t).bind λ v=>Op.ao n [v] H)).bind λ v=>(cF H tm rs).bind λ vs=>some (v::vs):=by
 simp only [cF,FJ];congr 1;cases tm.get t with
 | none=>rfl
 | some v=>cases v<;>rfl
theorem Lv (v:AV):c6 [v]=v:=rfl
theorem Kz:c6 []=.tuple []:=rfl
theorem LB (a b:AV) (l:List AV):c6 (a::b::l)=.tuple (a::b::l):=rfl
theorem GH (b:Nat):Op.ptrTo b=.ptr b 0:=rfl
theorem uC (t:bL) (x y:AV) (H:AHeap) (q:Bool) (h:ba t x y=some q):Op.eq (.agg t) true [x,y] H=some (.bool (!q)):=by simp [Op.eq,A9,h]
theorem qP (t:bL) (x y:AV) (H:AHeap) (q:Bool) (h:ba t x y=some q):Op.eq (.agg t) false [x,y] H=some (.bool q):=by simp [Op.eq,A9,h]
structure JO where
 kind:Int
 time:Int
 core:Int
 block:Int
 Lk:Int
 lane:Int
 addr:Int
 value:Int
 code:Int
deriving DecidableEq
def JO.enc (x:JO):List AV:=[.int .i64 x.kind,.int .i64 x.time,.int .i64 x.core,.int .i64 x.block,.int .i64 x.Lk,.int .i64 x.lane,.int .i64 x.addr,.int .u64 x.value,.int .i64 x.code]
theorem JO.len (x:JO):x.enc.length=9:=rfl
end Go.Am
namespace Go.Am
theorem qx (H:AHeap) (o:bJ):(H.alloc o).get H.next=some o:=by rw [AHeap.bj,qr rfl]
theorem L9 {H:AHeap} {b:Nat} (h:b<H.next) (o:bJ):(H.alloc o).get b=H.get b:=by rw [AHeap.bj,qd (by omega)]
theorem xf (H:AHeap) (b:Nat) (o:bJ):(H.set b o).get b=some o:=by rw [AHeap.aJ,qr rfl]
theorem wh {H:AHeap} {b b':Nat} (h:b ≠ b') (o:bJ):(H.set b o).get b'=H.get b':=by rw [AHeap.aJ,qd h]
theorem oh {H:AHeap} {b:Nat} {c:List AV} {e:Nat} (h:H.get b=some (.row c e (0,0) true)) {o n:Nat} {v:AV} (hv:v.cells.length=n) (hn:o+n<=c.length) (h1:aY v.cells=true) :
 Op.store n [.ptr b o,v] H=some (.undef,H.set b (.row (c.take o++v.cells++c.drop (o+n)) e (0,0) true)):=by
 have e1:∀ n,Nat.beq n n=true:=λ n=>by simp
 simp only [Op.store,zO,hv,e1,xh,AHeap.store,h1,h];have:cH (0,0) o n=true:=by simp [cH]
 simp only [this,xh,wO,hv,qr hn,qm]
theorem q4s {H:AHeap} {b m s:Nat} {c:List AV} {e:Nat} (h:H.get b=some (.grown m s c e (0,0))) {o n:Nat} {v:AV} (hv:v.cells.length=n) (hn:o+n<=c.length) (h1:aY v.cells=true) :
 Op.store n [.ptr b o,v] H=some (.undef,H.set b (.grown m s (c.take o++v.cells++c.drop (o+n)) e (0,0))):=by
 have e1:∀ n,Nat.beq n n=true:=λ n=>by simp
 simp only [Op.store,zO,hv,e1,xh,AHeap.store,h1,h];have:cH (0,0) o n=true:=by simp [cH]
 simp only [this,xh,wO,hv,qr hn,qm]
def d8 {α:Type} (enc:α->List AV) (e size:Nat) (H:AHeap) (v:AV) (xs:List α):Prop:=Own H e size v xs.length (xs.flatMap enc)
structure pe {α:Type} (enc:α->List AV) (e size:Nat) (H0 H:AHeap) (v:AV) (xs:List α):Prop where
 own:d8 enc e size H v xs
 fr:Fr Em H0 H
 fresh:∀ b,bC v b->H0.next<=b
section
variable {α:Type} {enc:α->List AV} {e size:Nat} {H0 H H':AHeap} {v:AV} {xs:List α}
theorem dZ.one (h:dZ enc size H v xs):bm v=true:=Sl.one h
theorem pe.nil (H:AHeap):pe enc e size H H .nils ([]:List α):=⟨Own.nil H e size,Fr.refl H,λ b h=>(h.1 rfl).elim⟩
theorem pe.sl (h:pe enc e size H0 H v xs):dZ enc size H v xs:=Own.sl h.own
theorem d8.sl (h:d8 enc e size H v xs):dZ enc size H v xs:=Own.sl h
theorem pe.em (h:pe enc e size H0 H v xs) (f:Fr Em H H'):pe enc e size H0 H' v xs:=⟨Own.em h.own f,h.fr.em f,h.fresh⟩
theorem pe.len (h:pe enc e size H0 H v xs):Op.bO [v]=some (.int .i64 xs.length):=h.sl.len
theorem pe.step (h:pe enc e size H0 H v xs) {v':AV} {ys:List α} (h1:d8 enc e size H' v' ys) (h2:Fr (bC v) H H') (h3:∀ b,bC v' b->bC v b\/H.next<=b):pe enc e size H0 H' v' ys :=
 ⟨h1,h.fr.trans h2 λ x hx=>.inr (h.fresh x hx),λ b hb=>(h3 b hb).elim (h.fresh b) λ q=>xy h.fr.next q⟩
theorem Ks {f:α->List AV} (hs:∀ x,(f x).length=size):∀ (xs:List α) {i:Nat} {x:α},xs[i]? = some x -> ∀ (y:α),(xs.set i y).flatMap f=(xs.flatMap f).take (i*size)++f y++(xs.flatMap f).drop (i*size+size)
 | [],i,x,h,y=>by simp at h
 | z::zs,0,x,h,y=>by
  simp at h;subst h;simp only [List.set_cons_zero,jm,vp,EH,zy,ko];rw [kw (by rw [hs];omega),j4 (by rw [hs];omega),zy]
 | z::zs,i+1,x,h,y=>by
  simp only [zu] at h;have e1:(f z++zs.flatMap f).take ((i+1)*size)=f z++(zs.flatMap f).take (i*size):=by
   rw [show (i+1)*size=(f z).length+i*size from by rw [hs,wx];omega,List.take_length_add_append]
  have e2:(f z++zs.flatMap f).drop ((i+1)*size+size)=(zs.flatMap f).drop (i*size+size):=by
   rw [show (i+1)*size+size=(f z).length+(i*size+size) from by rw [hs,wx];omega,List.drop_length_add_append]
  rw [List.set_cons_succ,jm,jm,Ks hs zs h y,e1,e2];simp only [zk]
theorem zF (hs:∀ x,(enc x).length=size) (l:List α):(l.flatMap enc).length=l.length*size:=by
 induction l with
 | nil=>simp
 | cons a l ih=>rw [jm,xa,hs,ih,yk,wx];omega
theorem yC {L E:List AV} {k0 j:Nat} {u:AV} (hE:E.length=size) (hj:j<size) (hk:k0+size<=L.length) (h:∀ r,r<size->L[k0+r]? = E[r]?) :
 L.take k0++E.set j u++L.drop (k0+size)=L.set (k0+j) u:=by
 refine kx λ k=>?_;have h1:(L.take k0).length=k0:=by rw [j7];omega
 rw [zk,List.getElem?_set];rcases js k k0 with q|q
 ·rw [kn (by omega),kt,qr q,qd (by omega)]
 ·rw [jq (by omega),h1];obtain ⟨r,rfl⟩:∃ r,k=k0+r:=⟨k-k0,by omega⟩
  rw [show k0+r-k0=r from by omega];rcases js r size with q'|q'
  ·rw [kn (by rw [xd];omega),List.getElem?_set]
   by_cases hjr:j=r
   ·subst hjr;rw [qr rfl,qr rfl,qr (by omega),qr (by omega)]
   ·rw [qd hjr,qd (by omega),h r q']
  ·rw [jq (by rw [xd];omega),xd,ya,qd (by omega)];congr 1;omega
end
end Go.Am
namespace Go.Am
theorem py {k mx d:Nat} {z:Int} (hz:z=k) (h:k<=mx) (kk:IntKind):bound (some (.int kk z)) d mx=some k:=by
 subst hz;show cond (Nat.ble k mx) (some k) none=some k;rw [yo h];rfl
theorem Sl.from {H:AHeap} {size:Nat} {v:AV} {n:Nat} {cells:List AV} (h:Sl H size v n cells) {k:Nat} (hk:k<=n) {z:Int} (hz:z=k) (kk:IntKind) :
 ∃ v',Op.aR size [some 0,none,none] [v,.int kk z]=some v'/\Sl H size v' (n-k) (cells.drop (k*size))/\(v'=.nils\/aN v'=aN v):=by
 obtain ⟨hl,h⟩:=h;have hlen:(cells.drop (k*size)).length=(n-k)*size:=by rw [j6,hl,Nat.sub_mul]
 have hkn:k*size<=n*size:=ke _ hk;have hsub:(n-k)*size=n*size-k*size:=Nat.sub_mul n k size;split at h
 ·subst h;have:k=0:=by omega
  subst this;refine ⟨.nils,?_,⟨hlen,rfl⟩,.inl rfl⟩;have hbn:bound none 0 0=some 0:=rfl;simp [Op.aR,arg,iN,c7,hbn,py hz (qh 0)]
 ·rename_i b o m c;obtain ⟨rfl,hc,h⟩:=h;have hb1:∀ d m,bound none d m=some d:=λ _ _=>rfl;refine ⟨.slice b (cond (Nat.beq c k) o (o+k*size)) (m-k) (c-k),by simp [Op.aR,arg,iN,c7,hb1,py hz hk],⟨hlen,rfl,by omega,?_⟩,.inr rfl⟩;rcases h with h|⟨hb,all,h1,h2⟩
  ·left;omega
  ·by_cases he:c=k
   ·left;omega
   ·right;obtain ⟨h3,rfl⟩:=Jz h2;refine ⟨hb,all,h1,?_⟩;rw [EG he,zg,oI,qr (by omega),List.drop_take,AW];simp [hsub]
 ·rename_i b i m s alt q;obtain ⟨rfl,rfl,hm,h⟩:=h;have e1:∀ n,Nat.beq n n=true:=λ n=>by simp
  have hb1:∀ d m,bound none d m=some d:=λ _ _=>rfl;have hq:=yo (show q<=m-i by omega);have him:=yo (show i<=m by omega);refine ⟨.gslice b (i+k) m s (cond (Nat.beq k 0) alt (i*s)) (q-k),by simp only [Op.aR,arg,iN,jj,qm,c7,hb1,py hz hk,e1,him,hq,jd,xh],⟨hlen,rfl,rfl,by omega,?_⟩,.inr rfl⟩;rcases h with h|⟨hb,all,h1,h2⟩
  ·left;omega
  ·right;obtain ⟨h3,rfl⟩:=Jz h2;refine ⟨hb,all,h1,?_⟩;rw [oI,qr (by rw [ki];omega),List.drop_take,AW,ki];simp [hsub]
 ·rename_i b;obtain ⟨rfl,hb⟩:=h;have:k=0:=by omega
  subst this;have hbn:bound none 0 0=some 0:=rfl;refine ⟨.eslice b,?_,⟨hlen,rfl,hb⟩,.inr rfl⟩;simp [Op.aR,arg,iN,c7,hbn,py hz (qh 0)]
 ·exact h.elim
section
variable {α:Type} {enc:α->List AV} {size:Nat} {H H':AHeap} {v:AV} {xs:List α}
theorem qsx (hs:∀ x,(enc x).length=size):∀ (xs:List α) (k:Nat),(xs.flatMap enc).drop (k*size)=(xs.drop k).flatMap enc
 | [],k=>by simp
 | x::xs,0=>by simp
 | x::xs,k+1=>by
  rw [jm,show (k+1)*size=(enc x).length+k*size from by rw [hs,wx];omega,List.drop_length_add_append,qsx hs xs k];rfl
theorem dZ.from (hs:∀ x,(enc x).length=size) (h:dZ enc size H v xs) {k:Nat} (hk:k<=xs.length) {z:Int} (hz:z=k) (kk:IntKind) :
 ∃ v',Op.aR size [some 0,none,none] [v,.int kk z]=some v'/\dZ enc size H v' (xs.drop k)/\(v'=.nils\/aN v'=aN v):=by
 obtain ⟨v',h1,h2,h3⟩:=Sl.from h hk hz kk
 refine ⟨v',h1,?_,h3⟩;unfold dZ;rw [j6,<-qsx hs];exact h2
def db (enc:α->List AV) (e size:Nat) (H:AHeap) (v:AV) (xs:List α):Prop:=∃ b,v=.slice b 0 xs.length xs.length/\b<H.next/\H.get b=some (.row (xs.flatMap enc) e (0,0) true)
theorem db.sl {e:Nat} (hs:∀ x,(enc x).length=size) (h:db enc e size H v xs):dZ enc size H v xs:=by
 obtain ⟨b,rfl,h1,h2⟩:=h;refine ⟨zF hs xs,rfl,qh _,.inr ⟨h1,_,xc h2,?_⟩⟩;rw [oI,qr (by rw [zF hs];omega),Fw,jb (by rw [zF hs];omega)]
theorem db.fr {e:Nat} {W:Nat->Prop} (h:db enc e size H v xs) (f:Fr W H H') (hw:¬ W (aN v)):db enc e size H' v xs:=by
 obtain ⟨b,rfl,h1,h2⟩:=h;exact ⟨b,rfl,qt h1 f.next,by rw [f.ae b h1 hw];exact h2⟩
theorem db.lt {e:Nat} (h:db enc e size H v xs):aN v<H.next:=by
 obtain ⟨b,rfl,h1,h2⟩:=h;exact h1
theorem db.sj {e:Nat} (hs:∀ x,(enc x).length=size) (h:db enc e size H v xs) {i:Nat} {x y:α} (hx:xs[i]? = some x) {j:Nat} (hj:j<size) {u:AV} (hu:bm u=true) (hy:enc y=(enc x).set j u) :
 ∃ H',Op.store 1 [.ptr (aN v) (b9 size v i+j),u] H=some (.undef,H')/\db enc e size H' v (xs.set i y)/\Fr (On (aN v)) H H':=by
 obtain ⟨b,rfl,h1,h2⟩:=h;have hi:=BH hx;have hl:=zF hs xs;have hb:(i+1)*size<=xs.length*size:=ke _ hi;rw [wx] at hb;have hc:u.cells=[u]:=by cases u<;>first|rfl|cases hu
 have hst:=oh h2 (o:=i*size+j) (n:=1) (v:=u) (by rw [hc];rfl) (by omega) (by rw [hc,nS];simpa using hu);have ho:b9 size (AV.slice b 0 xs.length xs.length) i=i*size:=by simp [b9]
 rw [ho];refine ⟨_,hst,⟨b,?_,h1,?_⟩,(Fr.refl H).set (W:=On b) (.inl rfl) _⟩
 ·rw [xd]
 ·rw [xf,Ks hs xs hx,hy,hc,yC (L:=xs.flatMap enc) (E:=enc x) (hs x) hj (by omega) (λ r hr=>DR hs xs hx hr),List.set_eq_take_append_cons_drop,qr (by omega)];simp
end
theorem I4 (e bytes:Nat) (z:List AV) (n:Nat) (k k':IntKind) (h:n*bytes<=140737488355328) (h':n<=140737488355328) :
 Op.mkSlice e bytes z [.int k n,.int k' n]=some (.row (dh n z) e (0,0) true,Op.sliceTo n n):=by
 have h1:nQ 0 (n:Int)=true:=by rw [zI];simp
 have h2:nQ (n:Int) n=true:=by rw [zI];simp
 have h3:nQ ((n:Int)*(bytes:Int)) 140737488355328=true:=by rw [zI];simp;omega
 have h4:nQ (n:Int) 140737488355328=true:=by rw [zI];simp;omega
 simp [Op.mkSlice,h1,h2,h3,h4]
end Go.Am
namespace Go.Am
theorem q4w {tm:T AV} {x:bA} {K K':AV->Prop} (h:wG tm x K) (hk:∀ v,K v->K' v):wG tm x K':=by
 obtain ⟨v,h1,h2⟩:=h.elim;cases x with
 | tmp t=>simp only [kT] at h1;simp only [wG,bq,h1];exact hk v h2
 | const c=>injection h1 with h1;subst h1;exact hk _ h2
 | cX c=>injection h1 with h1;subst h1;exact hk _ h2
 | func c=>injection h1 with h1;subst h1;exact hk _ h2
theorem BD {tm:T AV}:∀ {l:List bA} {K K':List AV->Prop},jT tm l K->(∀ v,K v->K' v)->jT tm l K'
 | [],K,K',h,hk=>hk _ h
 | .tmp t::xs,K,K',h,hk=>by
  simp only [jT] at h ⊢;unfold bq at h ⊢;split at h
  ·exact BD h λ vs=>hk _
  ·exact h.elim
 | .const v::xs,K,K',h,hk=>BD (l:=xs) h λ vs=>hk _
 | .cX v::xs,K,K',h,hk=>BD (l:=xs) h λ vs=>hk _
 | .func v::xs,K,K',h,hk=>BD (l:=xs) h λ vs=>hk _
theorem wQ {α:Type} {m:Bool} {o:Option α} {K K':α->Prop} (h:bq m o K) (hk:∀ a,K a->K' a):bq m o K':=by
 cases o with
 | none=>exact h
 | some a=>exact hk a h
theorem qyb {α β:Type} {m:Bool} {o:Option (α × β)} {K K':α -> β->Prop} (h:eM m o K) (hk:∀ a b,K a b->K' a b):eM m o K':=by
 cases o with
 | none=>exact h
 | some a=>exact hk a.1 a.2 h
section
variable {AP:aL}
theorem Jt {m:Bool} {f:eX} {vs:List AV} {H:AHeap} {K K':AV->AHeap->Prop} {E E':aC->AHeap->Prop} (h:gO AP m f vs H K E) (hk:∀ v H,K v H->K' v H) (he:∀ c H,E c H->E' c H):gO AP m f vs H K' E':=by
 obtain ⟨e,H',h1,h2⟩:=h;refine ⟨e,H',h1,?_⟩;cases e with
 | ret v=>exact hk _ _ h2
 | panic c=>exact he _ _ h2
theorem HT {ps:Option (List Nat)} {tm:T AV} {aS:List aO} {up:Option aC} {Q Q':bT} (hq:∀ e st,Q e st->Q' e st) (c:aC) (H:AHeap) (h:wU ps tm aS up Q c H):wU ps tm aS up Q' c H:=by
 cases ps with
 | none=>exact h
 | some ds=>exact hq _ _ h
theorem q4y {ctx:Ctx} {dst:Option Nat} {ps:Option (List Nat)} {st:St} {Q Q':bT} {K K':St->Prop} {vs:List AV} {op:dG} (h:jS AP ctx dst ps st Q K vs op) (hq:∀ e st,Q e st->Q' e st) (hk:∀ st,K st->K' st):jS AP ctx dst ps st Q' K' vs op:=by
 cases op with
 | pure f=>exact wQ (m:=aA) h λ _=>hk _
 | read f=>exact wQ (m:=aA) h λ _=>hk _
 | alloc f=>simp only [jS] at h ⊢;exact qyb h λ _ _=>hk _
 | eD f=>simp only [jS] at h ⊢;exact qyb h λ _ _=>hk _
 | eC f=>exact Jt (m:=aA) h (λ _ _=>hk _) (HT hq)
 | eh =>
  simp only [jS,D7] at h ⊢;split at h
  ·exact Jt h (λ _ _=>hk _) (HT hq)
  ·exact Jt h (λ _ _=>hk _) (HT hq)
  ·exact h.elim
 | invoke n =>
  simp only [jS,EP] at h ⊢;split at h
  ·exact wQ h λ _ q=>Jt q (λ _ _=>hk _) (HT hq)
  ·exact h.elim
 | recover =>
  simp only [jS,mY] at h ⊢;split at h
  ·refine ⟨h.1,?_⟩;have h2:=h.2;split at h2<;>exact hk _ h2
  ·exact h.elim
 | defer =>
  simp only [jS,rP] at h ⊢;refine ⟨h.1,?_⟩;have h2:=h.2;split at h2
  ·exact hk _ h2
  ·exact h2.elim
 | panic =>
  simp only [jS,dS] at h ⊢;split at h
  ·exact HT hq _ _ h
  ·exact h.elim
theorem q76 {ctx:Ctx} {s:aU} {st:St} {Q Q':bT} {K K':St->Prop} (h:oZ AP ctx s st Q K) (hq:∀ e st,Q e st->Q' e st) (hk:∀ st,K st->K' st):oZ AP ctx s st Q' K':=by
 obtain ⟨eB,dst,guard,args,op,ps⟩:=s;cases eB with
 | false =>
  cases guard with
  | none=>exact BD h λ _ q=>q4y q hq hk
  | some g =>
   refine wQ (m:=aA) h λ w q=>?_;cases w with
   | true=>exact BD (K:=_) q λ _ q=>q4y q hq hk
   | false=>exact hk _ q
 | true =>
  cases guard with
  | none=>exact BD h λ _ q=>⟨q.1,hk _ q.2⟩
  | some g =>
   refine wQ (m:=aA) h λ w q=>?_;cases w with
   | true=>exact BD (K:=_) q λ _ q=>⟨q.1,hk _ q.2⟩
   | false=>exact ⟨q.1,hk _ q.2⟩
theorem q4z {ctx:Ctx}:∀ {l:List aU} {st:St} {Q Q':bT},kZ AP ctx l st Q->(∀ e st,Q e st->Q' e st)->kZ AP ctx l st Q'
 | [],st,Q,Q',h,hq=>hq _ _ h
 | s::rest,st,Q,Q',h,hq=>q76 h hq λ st' h'=>q4z h' hq
theorem FQ {ctx:Ctx} {st:St} {k:Nat} {H0:AHeap} {aS:List aO} {d:Nat} {Q Q':bT} {v:AV} (h:gJ AP ctx st k H0 aS d Q v) (hq:∀ e st,Q e st->Q' e st):gJ AP ctx st k H0 aS d Q' v:=by
 unfold gJ at h ⊢;split at h
 ·obtain ⟨e,H',h1,h2⟩:=h;refine ⟨e,H',h1,?_⟩;cases e with
  | panic c=>exact hq _ _ h2
  | ret v=>obtain ⟨s,p,f,k,tm,d,q1,q2,q3⟩:=h2;exact ⟨s,p,f,k,tm,d,q1,q2,hq _ _ q3⟩
 ·exact h.elim
theorem mb {ctx:Ctx}:∀ {c:ah} {st:St} {Q Q':bT},WP AP ctx c st Q->(∀ e st,Q e st->Q' e st)->WP AP ctx c st Q'
 | .skip,st,Q,Q',h,hq=>hq _ _ h
 | .label _,st,Q,Q',h,hq=>hq _ _ h
 | .exit _,st,Q,Q',h,hq=>hq _ _ h
 | .goto _,st,Q,Q',h,hq=>hq _ _ h
 | .ret,st,Q,Q',h,hq=>hq _ _ h
 | .stuck,st,Q,Q',h,hq=>h.elim
 | .region l,st,Q,Q',h,hq=>q4z h hq
 | .seq a b,st,Q,Q',h,hq=>mb (c:=a) h λ e st' h'=>by
  cases e with
  | normal=>exact mb (c:=b) h' hq
  | exit _=>exact hq _ _ h'
  | goto _=>exact hq _ _ h'
  | ret=>exact hq _ _ h'
  | panic _=>exact hq _ _ h'
 | .cond c a b,st,Q,Q',h,hq=>q4w h λ v q=>wQ (m:=aA) q λ w q=>by
  cases w with
  | true=>exact mb (c:=a) q hq
  | false=>exact mb (c:=b) q hq
 | .block id b,st,Q,Q',h,hq=>mb (c:=b) h λ e st' h'=>by cases e<;>exact hq _ _ h'
 | .scope b,st,Q,Q',h,hq=>mb (c:=b) h λ e st' h'=>by
  cases e with
  | goto l=>exact ⟨h'.1,hq _ _ h'.2⟩
  | normal=>exact hq _ _ h'
  | exit _=>exact hq _ _ h'
  | ret=>exact hq _ _ h'
  | panic _=>exact hq _ _ h'
 | .loop ae b,st,Q,Q',⟨I,h0,h⟩,hq=>⟨I,h0,λ n st hi=>mb (c:=b) (h n st hi) λ e st' h'=>by cases e<;>first|exact h'|exact hq _ _ h'⟩
 | .rangeFunc f k,st,Q,Q',h,hq=>q4w h λ v q=>by
  unfold BA at q ⊢;split at q
  ·exact FQ q hq
  ·exact wQ (m:=aA) q λ d q=>FQ q hq
def dB:aE->Prop
 | .exit _=>True
 | .goto _=>True
 | .ret=>True
 | _=>False
end
end Go.Am
namespace Go.Am
noncomputable section
abbrev aH:=aE->Env->List aO->AHeap->Prop
def lk (E:Env) (t:Nat):Option AV:=List.rec (motive:=λ _=>Option AV) none (λ p _ ih=>cond (Nat.beq p.1 t) (some p.2) ih) E
theorem sQ (t:Nat):lk [] t=none:=rfl
theorem oE (k t:Nat) (v:AV) (E:Env):lk ((k,v)::E) t=if k=t then some v else lk E t:=by
 show cond (Nat.beq k t) (some v) (lk E t)=_;cases hb:Nat.beq k t with
 | true=>rw [qr (Nat.eq_of_beq_eq_true hb)];rfl
 | false=>rw [qd (Gk hb)];rfl
def bK (t:Nat) (l:List Nat):Bool:=List.rec (motive:=λ _=>Bool) false (λ x _ ih=>cond (Nat.beq x t) true ih) l
def dq (ks:List Nat) (E:Env) (tm:T AV):Prop:=∀ t v,lk E t=some v->tm.get t=some v/\bK t ks=true
def mV:Env->Env->Prop
 | [],_=>True
 | (k,v)::r,E=>lk E k=some v/\mV r E
theorem yK (E:Env):mV [] E=True:=rfl
theorem vJ (k:Nat) (v:AV) (r E:Env):mV ((k,v)::r) E=(lk E k=some v/\mV r E):=rfl
theorem mV.look:∀ {A E:Env},mV A E -> ∀ {t:Nat} {v:AV},lk A t=some v->lk E t=some v
 | [],E,_,t,v,h=>by cases h
 | (k,w)::r,E,h,t,v,hl=>by
  rw [oE] at hl;split at hl
  ·rename_i e;subst e;injection hl with hl;subst hl;exact h.1
  ·exact mV.look h.2 hl
theorem mV.sub {ks:List Nat} {A E:Env} (h:mV A E) {tm:T AV} (he:dq ks E tm):dq ks A tm:=λ t v hl=>he t v (h.look hl)
def SS (A E:Env):Prop:=∀ t v,lk A t=some v->lk E t=some v
theorem mV.ss {A E:Env} (h:mV A E):SS A E:=λ t v hl=>h.look hl
theorem SS.sub {ks:List Nat} {A E:Env} (h:SS A E) {tm:T AV} (he:dq ks E tm):dq ks A tm:=λ t v hl=>he t v (h t v hl)
def B3 {α:Type} (m:Bool) (o:Option α) (K:Bool -> α->Prop):Prop:=match o with
 | some a=>K m a
 | none=>False
def aX {α β:Type} (m:Bool) (o:Option (α × β)) (K:Bool -> α -> β->Prop):Prop:=match o with
 | some a=>K m a.1 a.2
 | none=>False
def br (m:Bool) (v:AV) (A B:Bool->Prop):Prop:=match v with
 | .bool q=>match q with
  | true=>A m
  | false=>B m
 | _=>False
def bZ (m:Bool) (q:Bool) (A B:Bool->Prop):Prop:=match q with
 | true=>A m
 | false=>B m
def tE (m:Bool) (o o':Option AV) (K:Bool->Prop):Prop:=(∃ v,o=some v/\o'=some v)/\K m
def A3 (m:Bool) (e:Nat) (z:List AV) (H:AHeap) (K:Bool->AV->AHeap->Prop):Prop:=K m (.ptr H.next 0) (H.alloc (.row z e (0,0) true))
def JN {α:Type} (F:α->Prop) (K:α):Prop:=F K
def az (m:Bool) (Q:aH) (e:aE) (E:Env) (D:List aO) (H:AHeap):Prop:=Q e E D H
theorem xS {α:Type} (a:α) (K:Bool -> α->Prop):B3 true (some a) K=K true a:=propext j3
theorem rQ {α β:Type} (a:α) (b:β) (K:Bool -> α -> β->Prop):aX true (some (a,b)) K=K true a b:=propext j3
theorem ub (A B:Bool->Prop):br true (.bool true) A B=A true:=propext j3
theorem q7x (A B:Bool->Prop):br true (.bool false) A B=B true:=propext j3
theorem tv (A B:Bool->Prop):bZ true true A B=A true:=propext j3
theorem q7y (A B:Bool->Prop):bZ true false A B=B true:=propext j3
theorem Jv (v:AV) (K:Bool->Prop):tE true (some v) (some v) K=K true:=propext ⟨λ h=>h.2,λ h=>⟨⟨v,rfl,rfl⟩,h⟩⟩
theorem HV (e:Nat) (z:List AV) (H:AHeap) (K:Bool->AV->AHeap->Prop):A3 true e z H K=K true (.ptr H.next 0) (H.alloc (.row z e (0,0) true)):=propext j3
theorem qg {α:Type} (F:α->Prop) (K:α):JN F K=F K:=propext j3
theorem t8 (Q:aH) (e:aE) (E:Env) (D:List aO) (H:AHeap):az true Q e E D H=Q e E D H:=propext j3
@[congr] theorem HE {α:Type} {m m':Bool} {o o':Option α} {K:Bool -> α->Prop} (hm:m=m') (h:o=o'):B3 m o K=B3 m' o' K:=by subst hm;subst h;rfl
@[congr] theorem Fk {α β:Type} {m m':Bool} {o o':Option (α × β)} {K:Bool -> α -> β->Prop} (hm:m=m') (h:o=o'):aX m o K=aX m' o' K:=by subst hm;subst h;rfl
@[congr] theorem Fi {m m':Bool} {v v':AV} {A B:Bool->Prop} (hm:m=m') (h:v=v'):br m v A B=br m' v' A B:=by subst hm;subst h;rfl
@[congr] theorem F9 {m m':Bool} {v v':Bool} {A B:Bool->Prop} (hm:m=m') (h:v=v'):bZ m v A B=bZ m' v' A B:=by subst hm;subst h;rfl
@[congr] theorem FP {m m':Bool} {o o' p p':Option AV} {K:Bool->Prop} (hm:m=m') (h:o=o') (h':p=p'):tE m o p K=tE m' o' p' K:=by subst hm;subst h;subst h';rfl
@[congr] theorem Ie {m m':Bool} {e:Nat} {z z':List AV} {H H':AHeap} {K:Bool->AV->AHeap->Prop} (hm:m=m') (h:z=z') (h':H=H'):A3 m e z H K=A3 m' e z' H' K:=by subst hm;subst h;subst h';rfl
theorem B3.elim {α:Type} {m:Bool} {o:Option α} {K:Bool -> α->Prop} (h:B3 m o K):∃ a,o=some a/\K m a:=by
 cases o with
 | none=>exact False.elim h
 | some a=>exact ⟨a,rfl,h⟩
theorem aX.elim {α β:Type} {m:Bool} {o:Option (α × β)} {K:Bool -> α -> β->Prop} (h:aX m o K):∃ a b,o=some (a,b)/\K m a b:=by
 cases o with
 | none=>exact False.elim h
 | some a=>exact ⟨a.1,a.2,rfl,h⟩
theorem LK.elim {α:Type} {m:Bool} {o:Option α} {K:Bool -> α->Prop} (h:LK m o K):∃ a,o=some a/\K m a:=by
 cases o with
 | none=>exact False.elim h
 | some a=>exact ⟨a,rfl,h⟩
theorem B3.intro {α:Type} {m:Bool} {o:Option α} {K:Bool -> α->Prop} {a:α} (h:o=some a) (hk:K m a):B3 m o K:=by subst h;exact hk
theorem aX.intro {α β:Type} {m:Bool} {o:Option (α × β)} {K:Bool -> α -> β->Prop} {a:α} {b:β} (h:o=some (a,b)) (hk:K m a b):aX m o K:=by subst h;exact hk
theorem br.cases {m:Bool} {q:Bool} {A B:Bool->Prop} (h1:q=true->A m) (h2:q=false->B m):br m (.bool q) A B:=by
 cases q with
 | true=>exact h1 rfl
 | false=>exact h2 rfl
theorem bZ.cases {m:Bool} {q:Bool} {A B:Bool->Prop} (h1:q=true->A m) (h2:q=false->B m):bZ m q A B:=by
 cases q with
 | true=>exact h1 rfl
 | false=>exact h2 rfl
theorem br.elim {m:Bool} {v:AV} {A B:Bool->Prop} (h:br m v A B):∃ q,v=.bool q/\(match q with|true=>A m|false=>B m):=by
 unfold br at h;split at h
 ·exact ⟨_,rfl,h⟩
 ·exact h.elim
section
variable (M:aL)
structure Kp where
 ae:List Nat
 ct:Bool
 named:List Nat
def cU (K:List Nat) (E L:Env):Env:=List.rec (motive:=λ _=>Env) E (λ p _ ih=>cond (bK p.1 K) (p::ih) ih) L
def lY (ds:List Nat) (E:Env):Env:=List.rec (motive:=λ _=>Env) [] (λ p _ ih=>cond (bK p.1 ds) ih (p::ih)) E
def iz (L:Env):List Nat:=List.rec (motive:=λ _=>List Nat) [] (λ p _ ih=>p.1::ih) L
abbrev KR:=Bool->Env->Env->AHeap->Prop
def TV (E L R:Env) (t:Nat) (g:Bool) (K:Bool->Env->AV->Prop):Prop :=
 Option.rec (motive:=λ _=>Prop) (Option.rec (motive:=λ _=>Prop) (LK g (lk E t) λ g v=>K g ((t,v)::R) v) (λ v=>K g R v) (lk R t)) (λ v=>K g R v) (lk L t)
def pS (E L:Env) (l:List bA):Bool->Env->(Bool->Env->List AV->Prop)->Prop:=List.rec (motive:=λ _=>Bool->Env->(Bool->Env->List AV->Prop)->Prop) (λ g R K=>K g R [])
 (λ x _ ih g R K=>bA.casesOn x (λ t=>TV E L R t g λ g R v=>ih g R λ g R vs=>K g R (v::vs)) (λ v=>ih g R λ g R vs=>K g R (v::vs)) (λ b=>ih g R λ g R vs=>K g R (.ptr b 0::vs)) (λ f=>ih g R λ g R vs=>K g R (.fn (.func f) [] []::vs))) l
def C3 (m:Bool) (f:eX) (vs:List AV) (H:AHeap) (K:Bool->AV->AHeap->Prop):Prop:=∃ v H',mX M f vs H (.ret v) H'/\K m v H'
def P3 (m:Bool) (X:aC->AHeap->Prop) (f:eX) (vs:List AV) (H:AHeap) (K:Bool->AV->AHeap->Prop):Prop:=∃ e H',mX M f vs H e H'/\match e with
 | .ret v=>K m v H'
 | .panic c=>X c H'
@[congr] theorem HQ {M:aL} {m m':Bool} {f f':eX} {vs vs':List AV} {H H':AHeap} {K:Bool->AV->AHeap->Prop} (hm:m=m') (hf:f=f') (h:vs=vs') (h':H=H'):C3 M m f vs H K=C3 M m' f' vs' H' K:=by subst hm;subst h;subst hf;subst h';rfl
@[congr] theorem GZ {M:aL} {m m':Bool} {X:aC->AHeap->Prop} {f f':eX} {vs vs':List AV} {H H':AHeap} {K:Bool->AV->AHeap->Prop} (hm:m=m') (hf:f=f') (h:vs=vs') (h':H=H'):P3 M m X f vs H K=P3 M m' X f' vs' H' K:=by subst hm;subst h;subst hf;subst h';rfl
def V3 (m:Bool) (vs:List AV) (K:Bool->eX->List AV->Prop):Prop:=match vs with
 | .fn (.func g) first cap::args=>K m (.func g) (first++(args++cap))
 | .fn (.yield l) first []::args=>K m (.yield l) (first++args)
 | _=>False
@[congr] theorem Hj {m m':Bool} {vs vs':List AV} {K:Bool->eX->List AV->Prop} (hm:m=m') (h:vs=vs'):V3 m vs K=V3 m' vs' K:=by subst hm;subst h;rfl
theorem xZ (g:Nat) (first cap args:List AV) (K:Bool->eX->List AV->Prop):V3 true (.fn (.func g) first cap::args) K=K true (.func g) (first++(args++cap)):=propext j3
theorem tn (l:Nat) (first args:List AV) (K:Bool->eX->List AV->Prop):V3 true (.fn (.yield l) first []::args) K=K true (.yield l) (first++args):=propext j3
def N3 (m:Bool) (name:String) (vs:List AV) (K:Bool->eX->List AV->Prop):Prop:=match vs with
 | .iface t v::args=>B3 m (M.lf t name) λ m g=>K m (.func g) (v::args)
 | _=>False
@[congr] theorem GG {M:aL} {m m':Bool} {name:String} {vs vs':List AV} {K:Bool->eX->List AV->Prop} (hm:m=m') (h:vs=vs'):N3 M m name vs K=N3 M m' name vs' K:=by subst hm;subst h;rfl
theorem sH (name:String) (t:Nat) (v:AV) (args:List AV) (K:Bool->eX->List AV->Prop):N3 M true name (.iface t v::args) K=B3 true (M.lf t name) λ m g=>K m (.func g) (v::args):=propext j3
def PX (ps:Option (List Nat)) (ks:List Nat) (Q:aH) (E:Env) (D:List aO) (c:aC) (H:AHeap):Prop:=match ps with
 | some ds=>Q (.panic c) (lY ds (lY ks E)) D H
 | none=>False
def uM (ct:Bool) (ps:Option (List Nat)) (L:Env) (Q:aH) (E:Env) (D:List aO) (g:Bool) (f:eX) (vs:List AV) (H:AHeap) (K:Bool->AV->AHeap->Prop):Prop :=
 cond ct (P3 M g (PX ps (iz L) Q E D) f vs H K) (C3 M g f vs H K)
def nT (ct:Bool) (dst:Option Nat) (ps:Option (List Nat)) (Q:aH) (E:Env) (D:List aO) (L R:Env) (H:AHeap) (K:KR) (g:Bool) (vs:List AV):dG->Prop
 | .pure f=>B3 g (f vs) λ g v=>K g (lG dst v L) R H
 | .read f=>B3 g (f vs H) λ g v=>K g (lG dst v L) R H
 | .alloc f=>aX g (f vs) λ g o mk=>K g (lG dst (mk H.next) L) R (H.alloc o)
 | .eD f=>aX g (f vs H) λ g v H=>K g (lG dst v L) R H
 | .eC f=>uM M ct ps L Q E D g (.func f) vs H (λ g v H=>K g (lG dst v L) R H)
 | .eh=>V3 g vs λ g f vs=>uM M ct ps L Q E D g f vs H (λ g v H=>K g (lG dst v L) R H)
 | .invoke name=>N3 M g name vs λ g f vs=>uM M ct ps L Q E D g f vs H (λ g v H=>K g (lG dst v L) R H)
 | .panic=>cond ct (dS vs H (PX ps (iz L) Q E D)) False
 | _=>False
def Nb (L E:Env) (d:Nat):Option AV:=Option.rec (motive:=λ _=>Option AV) (lk E d) (λ v=>some v) (lk L d)
def IW (dst:Option Nat) (E L R:Env) (H:AHeap) (K:KR) (g:Bool) (vs:List AV):dG->Prop
 | .read f=>match dst with
  | some d=>tE g (f vs H) (Nb L E d) λ g=>K g L R H
  | none=>False
 | _=>False
def wL (ct:Bool) (s:aU) (Q:aH) (E:Env) (D:List aO) (K:KR):KR:=λ g L R H =>
 pS E L s.args g R λ g R vs=>match s.eB with
  | false=>nT M ct s.dst s.bM Q E D L R H K g vs s.op
  | true=>IW s.dst E L R H K g vs s.op
def jE (ct:Bool) (Q:aH) (E:Env) (D:List aO) (K:KR) (l:List aU):KR:=List.rec (motive:=λ _=>KR) K (λ s _ ih=>wL M ct s Q E D ih) l
abbrev wY:=Option (Nat × Bool) × List aU
def lR:Option (Nat × Bool)->Option (Nat × Bool)->Bool
 | none,none=>true
 | some (t,b),some (u,c)=>cond (Nat.beq t u) (cond b c (!c)) false
 | _,_=>false
def C1 (l:List aU):List wY:=List.rec (motive:=λ _=>List wY) [] (λ s _ ih=>List.casesOn (motive:=λ _=>List wY) ih [(s.guard,[s])] λ g r=>cond (lR g.1 s.guard) ((g.1,s::g.2)::r) ((s.guard,[s])::g::r)) l
def EK (o:Option Nat) (t:Nat):Bool:=Option.rec (motive:=λ _=>Bool) false (λ d=>Nat.beq d t) o
def po (t:Nat) (l:List aU):Bool:=List.rec (motive:=λ _=>Bool) true (λ s _ ih=>cond (EK s.dst t) false (cond s.eB (cond s.dst.isSome ih false) ih)) l
def CT (n:Nat):Type:=Nat.rec (motive:=λ _=>Type) (AHeap->Prop) (λ _ T=>AV->T) n
def kB (n:Nat):(List AV->AHeap->Prop)->CT n:=Nat.rec (motive:=λ n=>(List AV->AHeap->Prop)->CT n) (λ f=>f []) (λ _ ih f v=>ih λ l=>f (v::l)) n
def jN (n:Nat):CT n->List AV->AHeap->Prop:=Nat.rec (motive:=λ n=>CT n->List AV->AHeap->Prop) (λ k _=>k) (λ _ ih k l=>List.casesOn (motive:=λ _=>AHeap->Prop) l (λ _=>False) λ v l=>ih (k v) l) n
def bl (l:List aU):List Nat->List Nat:=List.rec (motive:=λ _=>List Nat->List Nat) (λ acc=>acc) (λ s _ ih acc=>ih (cond s.eB acc (Option.rec (motive:=λ _=>List Nat) acc (λ d=>d::acc) s.dst))) l
def fZ (ks:List Nat) (L:Env):List AV->Env:=List.rec (motive:=λ _=>List AV->Env) (λ _=>L) (λ k _ ih l=>List.casesOn (motive:=λ _=>Env) l L λ v l=>(k,v)::ih l) ks
def lS (n:Nat):Env->List AV:=Nat.rec (motive:=λ _=>Env->List AV) (λ _=>[]) (λ _ ih L=>List.casesOn (motive:=λ _=>List AV) L [] λ p L=>p.2::ih L) n
def mH (n:Nat):List AV:=Nat.rec (motive:=λ _=>List AV) [] (λ _ ih=>.undef::ih) n
def JQ (ct:Bool) (Q:aH) (E:Env) (D:List aO) (x:wY) (K:KR):KR:=λ g L R H=>match x.1 with
 | none=>jE M ct Q E D K x.2 g L R H
 | some q=>cond (po q.1 x.2) (TV E L R q.1 g λ g R v=>JN (α:=Bool->CT (cu (bl x.2 [])))
  (λ k=>B3 g (aw q.2 (some v)) λ g w=>bZ g w (λ g=>jE M ct Q E D (λ g L _ H=>jN (cu (bl x.2 [])) (k g) (lS (cu (bl x.2 [])) L) H) x.2 g L R H) (λ g=>jN (cu (bl x.2 [])) (k g) (mH (cu (bl x.2 []))) H))
  (λ g=>kB (cu (bl x.2 [])) λ vs H=>K g (fZ (bl x.2 []) L vs) R H)) False
def qD (ct:Bool) (Q:aH) (E:Env) (D:List aO) (K:KR) (l:List wY):KR:=List.rec (motive:=λ _=>KR) K (λ x _ ih=>JQ M ct Q E D x ih) l
def lK (ct:Bool) (Q:aH) (E:Env) (D:List aO) (l:List aU) (g:Bool) (H:AHeap) (K:KR):Prop:=qD M ct Q E D K (C1 l) g [] [] H
abbrev WX:=Bool->aH->Env->List aO->AHeap->Prop
def ak (X:WX) (Q:aH):aH:=λ e E D H=>match e with
 | .normal=>X true Q E D H
 | e=>Q e E D H
def aI (id:Nat) (Q:aH):aH:=λ e E D H=>match e with
 | .exit id'=>Q (cond (Nat.beq id id') .normal (.exit id')) E D H
 | e=>Q e E D H
def o9 (b:ah) (Q:aH):aH:=λ e E D H=>match e with
 | .goto l=>wH b l=false/\Q (.goto l) E D H
 | e=>Q e E D H
abbrev D5:=Nat->Env->List aO->AHeap->Prop
def LP3 (I:D5) (n:Nat) (Q:aH):aH:=λ e E D H=>match e with
 | .normal=>∃ m E',I m E' D H/\SS E' E/\m<n
 | e=>Q e E D H
def bn (X:WX) (Q:aH) (E:Env) (D:List aO) (H:AHeap):Prop :=
 ∃ I:D5,(∃ n E0,I n E0 D H/\SS E0 E) /\ ∀ n E D H,I n E D H->X true (LP3 I n Q) E D H
def fh (ks:List Nat) (ctx:Ctx) (k:Nat) (E:Env) (D:List aO) (H:AHeap) (Q:aH) (v:AV):Prop :=
 ∀ tm up,dq ks E tm->BA M ctx k ⟨tm,D,up,H⟩ (λ e st=>st.up=up/\st.tm=tm/\Q e E st.aS st.H) v
def OV (E:Env) (x:bA) (g:Bool) (K:Bool->AV->Prop):Prop:=match x with
 | .tmp t=>LK g (lk E t) K
 | .const v=>K g v
 | .cX b=>K g (.ptr b 0)
 | .func f=>K g (.fn (.func f) [] [])
def CV (E L R:Env) (x:bA) (g:Bool) (K:Bool->AV->Prop):Prop:=match x with
 | .tmp t=>TV E L R t g λ g _ v=>K g v
 | .const v=>K g v
 | .cX b=>K g (.ptr b 0)
 | .func f=>K g (.fn (.func f) [] [])
def W3 (ctx:Ctx) (K:Kp):ah->Bool->aH->Env->List aO->AHeap->Prop
 | .skip,g,Q,E,D,H=>az g Q .normal E D H
 | .label _,g,Q,E,D,H=>az g Q .normal E D H
 | .exit id,g,Q,E,D,H=>az g Q (.exit id) E D H
 | .goto l,g,Q,E,D,H=>az g Q (.goto l) E D H
 | .ret,g,Q,E,D,H=>az g Q .ret E D H
 | .stuck,_,_,_,_,_=>False
 | .region l,g,Q,E,D,H=>lK M K.ct Q E D l g H λ g L _ H=>az g Q .normal (cU K.ae E L) D H
 | .seq a b,g,Q,E,D,H=>match a,b with
  | .region l,.cond c x y=>lK M K.ct Q E D l g H λ g L R H=>CV E L R c g λ g v=>br g v (λ g=>W3 ctx K x g Q (cU K.ae E L) D H) (λ g=>W3 ctx K y g Q (cU K.ae E L) D H)
  | .region l,.seq (.cond c x y) r=>lK M K.ct Q E D l g H λ g L R H=>CV E L R c g λ g v=>br g v (λ g=>W3 ctx K x g (ak (W3 ctx K r) Q) (cU K.ae E L) D H) (λ g=>W3 ctx K y g (ak (W3 ctx K r) Q) (cU K.ae E L) D H)
  | .region l,b=>lK M K.ct Q E D l g H λ g L _ H=>W3 ctx K b g Q (cU K.ae E L) D H
  | a,b=>W3 ctx K a g (ak (W3 ctx K b) Q) E D H
 | .cond c x y,g,Q,E,D,H=>OV E c g λ g v=>br g v (λ g=>W3 ctx K x g Q E D H) (λ g=>W3 ctx K y g Q E D H)
 | .block id b,g,Q,E,D,H=>W3 ctx K b g (aI id Q) E D H
 | .scope b,g,Q,E,D,H=>W3 ctx K b g (o9 b Q) E D H
 | .loop (some _) _,_,_,_,_,_=>False
 | .loop none b,g,Q,E,D,H=>bn (W3 ctx K b) Q E D H
 | .rangeFunc f k,g,Q,E,D,H=>OV E f g λ g v=>fh M K.ae ctx k E D H Q v
end
structure gn (E L R:Env) (tm:T AV):Prop where
 l:∀ t v,lk L t=some v->tm.get t=some v
 r:∀ t v,lk L t=none->lk R t=some v->tm.get t=some v
 e:∀ t v,lk L t=none->lk E t=some v->tm.get t=some v
theorem gn.first {ks:List Nat} {E:Env} {tm:T AV} (h:dq ks E tm):gn E [] [] tm:=⟨λ _ _ h=>(by cases h),λ _ _ _ h=>(by cases h),λ t v _ hv=>(h t v hv).1⟩
theorem gn.put {E L R:Env} {tm:T AV} (h:gn E L R tm) (dst:Option Nat) (v:AV):gn E (lG dst v L) R (cN dst v tm):=by
 cases dst with
 | none=>exact h
 | some d =>
  show gn E ((d,v)::L) R (tm.set d v);refine ⟨λ t w hw=>?_,λ t w hn hw=>?_,λ t w hn hw=>?_⟩
  ·rw [oE] at hw;rw [T.aJ];split at hw
   ·rename_i e;rw [qr e];exact hw
   ·rename_i e;rw [qd e];exact h.l t w hw
  ·rw [oE] at hn;rw [T.aJ];split at hn
   ·cases hn
   ·rename_i e;rw [qd e];exact h.r t w hn hw
  ·rw [oE] at hn;rw [T.aJ];split at hn
   ·cases hn
   ·rename_i e;rw [qd e];exact h.e t w hn hw
theorem TV.elim {E L R:Env} {t:Nat} {g:Bool} {K:Bool->Env->AV->Prop} {tm:T AV} (hr:gn E L R tm) (h:TV E L R t g K):∃ v R',tm.get t=some v/\gn E L R' tm/\K g R' v:=by
 unfold TV at h;cases hl:lk L t with
 | some v=>rw [hl] at h;exact ⟨v,R,hr.l t v hl,hr,h⟩
 | none =>
  rw [hl] at h;cases hq:lk R t with
  | some v=>rw [hq] at h;exact ⟨v,R,hr.r t v hl hq,hr,h⟩
  | none =>
   rw [hq] at h;obtain ⟨v,hv,h⟩:=LK.elim h;refine ⟨v,_,hr.e t v hl hv,⟨hr.l,λ u w hn hw=>?_,hr.e⟩,h⟩;rw [oE] at hw;split at hw
   ·rename_i e;subst e;injection hw with hw;subst hw;exact hr.e t v hl hv
   ·exact hr.r u w hn hw
theorem Ft {tm:T AV}:∀ {l:List bA} {vs:List AV} {K:List AV->Prop},gI tm l=some vs->K vs->jT tm l K
 | [],vs,K,h,hk=>by injection h with h;subst h;exact hk
 | x::xs,vs,K,h,hk=>by
  simp only [gI,qb] at h;obtain ⟨v,h1,ws,h2,h3⟩:=h;injection h3 with h3;subst h3
  cases x with
  | tmp t=>exact bq.intro (m:=aA) h1 (Ft h2 hk)
  | const c=>injection h1 with h1;subst h1;exact Ft (K:=λ vs=>K (c::vs)) h2 hk
  | cX c=>injection h1 with h1;subst h1;exact Ft (K:=λ vs=>K (_::vs)) h2 hk
  | func c=>injection h1 with h1;subst h1;exact Ft (K:=λ vs=>K (_::vs)) h2 hk
theorem pS.elim {E L:Env} {tm:T AV} {g:Bool}:∀ {l:List bA} {R:Env} {K:Bool->Env->List AV->Prop},gn E L R tm->pS E L l g R K -> ∃ vs R',gI tm l=some vs/\gn E L R' tm/\K g R' vs
 | [],R,K,hr,h=>⟨[],R,rfl,hr,h⟩
 | .tmp t::xs,R,K,hr,h=>by
  obtain ⟨v,R1,h1,hr1,h⟩:=TV.elim hr (show TV E L R t g (λ g R v=>pS E L xs g R λ g R vs=>K g R (v::vs)) from h);obtain ⟨vs,R2,h2,hr2,h⟩:=pS.elim hr1 h;exact ⟨v::vs,R2,by simp [gI,kT,h1,h2],hr2,h⟩
 | .const v::xs,R,K,hr,h=>by
  obtain ⟨vs,R2,h2,hr2,h⟩:=pS.elim (l:=xs) hr h;exact ⟨v::vs,R2,by simp [gI,kT,h2],hr2,h⟩
 | .cX v::xs,R,K,hr,h=>by
  obtain ⟨vs,R2,h2,hr2,h⟩:=pS.elim (l:=xs) hr h;exact ⟨_,R2,by simp [gI,kT,h2],hr2,h⟩
 | .func v::xs,R,K,hr,h=>by
  obtain ⟨vs,R2,h2,hr2,h⟩:=pS.elim (l:=xs) hr h;exact ⟨_,R2,by simp [gI,kT,h2],hr2,h⟩
theorem IP (ds:List Nat):∀ (E:Env) (t:Nat),lk (lY ds E) t=if bK t ds then none else lk E t
 | [],t=>by simp [lY,sQ]
 | (k,v)::r,t=>by
  show lk (cond (bK k ds) (lY ds r) ((k,v)::lY ds r)) t=_;cases hm:bK k ds with
  | true =>
   rw [xh,IP ds r,oE]
   by_cases e:k=t
   ·subst e;rw [hm];rfl
   ·rw [qd e]
  | false =>
   rw [zg,oE,IP ds r,oE]
   by_cases e:k=t
   ·subst e;rw [hm];simp
   ·rw [qd e,qd e]
theorem q2b:∀ (L:Env) (t:Nat),bK t (iz L)=false->lk L t=none
 | [],t,_=>rfl
 | (k,v)::r,t,h=>by
  have h:cond (Nat.beq k t) true (bK t (iz r))=false:=h;rw [oE];cases hb:Nat.beq k t with
  | true=>rw [hb] at h;cases h
  | false=>rw [hb,zg] at h;rw [qd (Gk hb)];exact q2b r t h
theorem q5m {t:Nat}:∀ {l:List Nat},t ∈ l->bK t l=true
 | x::r,h=>by
  show cond (Nat.beq x t) true (bK t r)=true;cases hb:Nat.beq x t with
  | true=>rfl
  | false =>
   rw [zg];rcases je.1 h with e|h
   ·exact (Gk hb e.symm).elim
   ·exact q5m h
theorem qvp:∀ (ds:List Nat) (tm:T AV) (t:Nat),t ∉ ds->(forget ds tm).get t=tm.get t
 | [],tm,t,_=>rfl
 | d::ds,tm,t,h=>by
  show (forget ds (tm.put d none)).get t=_;rw [qvp ds _ t (λ q=>h (Ef _ q)),T.fN,qd (λ e=>h (by rw [e];exact BX ..))]
def QQ (ks:List Nat) (Q:aH) (up:Option aC):bT:=λ e st=>st.up=up /\ ∃ E',dq ks E' st.tm/\Q e E' st.aS st.H
section
variable {M:aL} {ctx:Ctx} {ct:Bool} {Q:aH} {E:Env} {D:List aO} {up:Option aC}
theorem PX.BP {Z:bT} (hp:∀ c tm H E',(∀ t v,lk E' t=some v->tm.get t=some v/\lk E t=some v)->Q (.panic c) E' D H->Z (.panic c) ⟨tm,D,up,H⟩) {ps:Option (List Nat)} {L R:Env} {tm:T AV} (hr:gn E L R tm) {c:aC} {H:AHeap} (h:PX ps (iz L) Q E D c H):wU ps tm D up Z c H:=by
 cases ps with
 | none=>exact h
 | some ds =>
  refine hp _ _ _ _ (λ t v hv=>?_) h;rw [IP,IP] at hv;split at hv
  ·cases hv
  ·rename_i h1;split at hv
   ·cases hv
   ·rename_i h2;rw [qvp ds tm t (λ q=>h1 (q5m q))];exact ⟨hr.e t v (q2b L t (by simpa using h2)) hv,hv⟩
theorem uM.pz {Z:bT} (hp:∀ c tm H E',(∀ t v,lk E' t=some v->tm.get t=some v/\lk E t=some v)->Q (.panic c) E' D H->Z (.panic c) ⟨tm,D,up,H⟩) {ps:Option (List Nat)} {L R:Env} {tm:T AV} (hr:gn E L R tm) {g:Bool} {f:eX} {vs:List AV} {H:AHeap} {K:Bool->AV->AHeap->Prop} {K':AV->AHeap->Prop}
 (h:uM M ct ps L Q E D g f vs H K) (hk:∀ v H,K g v H->K' v H):gO M aA f vs H K' (wU ps tm D up Z):=by
 cases ct with
 | false =>
  obtain ⟨v,H',h1,h2⟩:=(show C3 M g f vs H K from h)
  exact ⟨_,H',h1,hk _ _ h2⟩
 | true =>
  obtain ⟨e,H',h1,h2⟩:=(show P3 M g (PX ps (iz L) Q E D) f vs H K from h)
  refine ⟨_,H',h1,?_⟩;cases e with
  | ret v=>exact hk _ _ h2
  | panic c=>exact PX.BP hp hr h2
theorem wL.body {Z:bT} (hp:∀ c tm H E',(∀ t v,lk E' t=some v->tm.get t=some v/\lk E t=some v)->Q (.panic c) E' D H->Z (.panic c) ⟨tm,D,up,H⟩) {s:aU} {K:KR} {g:Bool} {L R R0:Env} {tm:T AV} {H:AHeap} (hr:gn E L R tm) (hr0:gn E L R0 tm) (h:wL M ct s Q E D K g L R H) {KK:St->Prop}
 (hK:∀ L' R' tm' H',(s.eB=true/\L'=L/\tm'=tm \/ ∃ v,s.eB=false/\L'=lG s.dst v L/\tm'=cN s.dst v tm)->gn E L' R' tm'->gn E L' R0 tm'->K g L' R' H'->KK ⟨tm',D,up,H'⟩) :
 match s.eB with
 | false=>jT tm s.args λ vs=>jS M ctx s.dst s.bM ⟨tm,D,up,H⟩ Z KK vs s.op
 | true=>jT tm s.args λ vs=>HZ s.dst ⟨tm,D,up,H⟩ vs s.op/\KK ⟨tm,D,up,H⟩:=by
 obtain ⟨eB,dst,guard,args,op,ps⟩:=s;obtain ⟨vs,R1,h1,hr1,h⟩:=pS.elim hr h;cases eB with
 | true =>
  refine Ft h1 ?_;have h:IW dst E L R1 H K g vs op:=h;cases op with
  | read f =>
   cases dst with
   | none=>exact h.elim
   | some d =>
    have h:tE g (f vs H) (Nb L E d) (λ g=>K g L R1 H):=h;obtain ⟨⟨v,e1,e2⟩,h⟩:=h;refine ⟨?_,hK L R1 tm H (.inl ⟨rfl,rfl,rfl⟩) hr1 hr0 h⟩;refine bq.intro (m:=aA) e1 (bq.intro (m:=aA) (a:=v) ?_ rfl);unfold Nb at e2;cases hl:lk L d with
    | some w=>rw [hl] at e2;injection e2 with e2;subst e2;exact hr.l d w hl
    | none=>rw [hl] at e2;exact hr.e d v hl e2
  | _=>exact h.elim
 | false =>
  have put:∀ v H',K g (lG dst v L) R1 H'->KK ⟨cN dst v tm,D,up,H'⟩:=λ v H' hk=>hK _ R1 _ H' (.inr ⟨v,rfl,rfl,rfl⟩) (hr1.put dst v) (hr0.put dst v) hk;refine Ft h1 ?_;have h:nT M ct dst ps Q E D L R1 H K g vs op:=h;cases op with
  | pure f=>simp only [nT] at h;obtain ⟨v,e,h⟩:=B3.elim h;exact bq.intro (m:=aA) e (put _ _ h)
  | read f=>simp only [nT] at h;obtain ⟨v,e,h⟩:=B3.elim h;exact bq.intro (m:=aA) e (put _ _ h)
  | alloc f=>simp only [nT] at h;simp only [jS];obtain ⟨o,mk,e,h⟩:=aX.elim h;exact eM.intro (m:=aA) e (put _ _ h)
  | eD f=>simp only [nT] at h;simp only [jS];obtain ⟨v,H',e,h⟩:=aX.elim h;exact eM.intro (m:=aA) e (put _ _ h)
  | eC f=>exact uM.pz hp hr1 h λ v H' hk=>put v H' hk
  | eh =>
   simp only [nT,V3] at h;simp only [jS,D7];split at h
   ·exact uM.pz hp hr1 h λ v H' hk=>put v H' hk
   ·exact uM.pz hp hr1 h λ v H' hk=>put v H' hk
   ·exact h.elim
  | invoke n =>
   simp only [nT,N3] at h;simp only [jS,EP];split at h
   ·obtain ⟨f,e,h⟩:=B3.elim h;exact bq.intro (m:=aA) e (uM.pz hp hr1 h λ v H' hk=>put v H' hk)
   ·exact h.elim
  | recover=>exact False.elim h
  | defer=>exact False.elim h
  | panic =>
   cases ct with
   | false=>exact False.elim h
   | true =>
    have h:dS vs H (PX ps (iz L) Q E D):=h;show dS vs H (wU ps tm D up Z);unfold dS at h ⊢;split at h
    ·exact PX.BP hp hr1 h
    ·exact h.elim
def Ff (g:Option (Nat × Bool)) (l:List aU):Prop:=∀ s ∈ l,s.guard=g
theorem jE.free {Z:bT} (hp:∀ c tm H E',(∀ t v,lk E' t=some v->tm.get t=some v/\lk E t=some v)->Q (.panic c) E' D H->Z (.panic c) ⟨tm,D,up,H⟩) {K:KR} {g:Bool} {R0:Env} {rest:List aU} (hK:∀ L R tm H,gn E L R tm->gn E L R0 tm->K g L R H->kZ M ctx rest ⟨tm,D,up,H⟩ Z) :
 ∀ {l:List aU} {L R:Env} {tm:T AV} {H:AHeap},Ff none l->gn E L R tm->gn E L R0 tm->jE M ct Q E D K l g L R H->kZ M ctx (l++rest) ⟨tm,D,up,H⟩ Z
 | [],L,R,tm,H,_,hr,hr0,h=>hK _ _ _ _ hr hr0 h
 | s::l,L,R,tm,H,hg,hr,hr0,h=>by
  rw [DH,N1];have hs:s.guard=none:=hg s (BX ..);have:=wL.body hp (ctx:=ctx) (up:=up) (KK:=λ st'=>kZ M ctx (l++rest) st' Z) hr hr0 (show wL M ct s Q E D (jE M ct Q E D K l) g L R H from h)
   λ L' R' tm' H' _ q1 q2 q3=>jE.free hp hK (λ x hx=>hg x (Ef _ hx)) q1 q2 q3
  obtain ⟨eB,dst,guard,args,op,ps⟩:=s;subst hs;cases eB<;>exact this
theorem Mb:∀ (n:Nat) (f:List AV->AHeap->Prop) (l:List AV) (H:AHeap),l.length=n->jN n (kB n f) l H=f l H
 | 0,f,[],H,_=>rfl
 | n+1,f,v::l,H,h=>Mb n (λ l=>f (v::l)) l H (by simpa using h)
 | 0,f,_::_,H,h=>by cases h
 | n+1,f,[],H,h=>by cases h
theorem sy {α:Type} (l:List α):cu l=l.length:=by
 induction l with
 | nil=>rfl
 | cons x l ih=>show cu l+1=_;rw [ih];rfl
theorem q51:∀ (ks:List Nat) (L:Env) (vs:List AV),vs.length=ks.length->lS ks.length (fZ ks L vs)=vs
 | [],L,[],_=>rfl
 | k::ks,L,v::vs,h=>by
  show v::lS ks.length (fZ ks L vs)=_;rw [q51 ks L vs (by simpa using h)]
 | [],L,_::_,h=>by cases h
 | _::_,L,[],h=>by cases h
theorem xao:∀ n,(mH n).length=n
 | 0=>rfl
 | n+1=>by show (mH n).length+1=_;rw [xao n]
theorem jE.under {Z:bT} (hp:∀ c tm H E',(∀ t v,lk E' t=some v->tm.get t=some v/\lk E t=some v)->Q (.panic c) E' D H->Z (.panic c) ⟨tm,D,up,H⟩) {K:KR} {g:Bool} {R0:Env} {rest:List aU} {t:Nat} {b:Bool} {v:AV} (hw:aw b (some v)=some true) {kf:List Nat} {L0:Env} (hK:∀ vs R tm H,vs.length=kf.length->gn E (fZ kf L0 vs) R tm->gn E (fZ kf L0 vs) R0 tm->K g (fZ kf L0 vs) R H->kZ M ctx rest ⟨tm,D,up,H⟩ Z) :
 ∀ {l:List aU} {acc:List Nat} {us:List AV} {L R:Env} {tm:T AV} {H:AHeap},bl l acc=kf->us.length=acc.length->L=fZ acc L0 us->Ff (some (t,b)) l->po t l=true->tm.get t=some v->gn E L R tm->gn E L R0 tm->jE M ct Q E D K l g L R H->kZ M ctx (l++rest) ⟨tm,D,up,H⟩ Z
 | [],acc,us,L,R,tm,H,e1,e2,e3,_,_,_,hr,hr0,h=>by
  have e1:acc=kf:=e1;subst e1;subst e3;exact hK _ _ _ _ e2 hr hr0 h
 | s::l,acc,us,L,R,tm,H,e1,e2,e3,hg,ho,ht,hr,hr0,h=>by
  rw [DH,N1];have hs:s.guard=some (t,b):=hg s (BX ..);have ho:cond (EK s.dst t) false (cond s.eB (cond s.dst.isSome (po t l) false) (po t l))=true:=ho;have hd:EK s.dst t=false:=by cases q:EK s.dst t with
   | true=>rw [q] at ho;cases ho
   | false=>rfl
  rw [hd,zg] at ho;have ho':po t l=true:=by
   cases hc:s.eB with
   | false=>rw [hc] at ho;exact ho
   | true=>rw [hc] at ho;cases hd:s.dst.isSome with
    | true=>rw [hd] at ho;exact ho
    | false=>rw [hd] at ho;cases ho
  have:=wL.body hp (ctx:=ctx) (up:=up) (KK:=λ st'=>kZ M ctx (l++rest) st' Z) hr hr0 (show wL M ct s Q E D (jE M ct Q E D K l) g L R H from h)
   λ L' R' tm' H' hq q1 q2 q3=>by
    have e1:bl l (cond s.eB acc (Option.rec (motive:=λ _=>List Nat) acc (λ d=>d::acc) s.dst))=kf:=e1;obtain ⟨us',e2',e3'⟩:∃ us',us'.length=(cond s.eB acc (Option.rec (motive:=λ _=>List Nat) acc (λ d=>d::acc) s.dst)).length/\L'=fZ (cond s.eB acc (Option.rec (motive:=λ _=>List Nat) acc (λ d=>d::acc) s.dst)) L0 us':=by
     rcases hq with ⟨hc,rfl,_⟩|⟨w,hc,rfl,_⟩
     ·rw [hc];exact ⟨us,e2,e3⟩
     ·rw [hc];cases s.dst with
      | none=>exact ⟨us,e2,e3⟩
      | some d=>exact ⟨w::us,by simpa using e2,by rw [e3];rfl⟩
    exact jE.under hp hw hK e1 e2' e3' (λ x hx=>hg x (Ef _ hx)) ho' (by
     rcases hq with ⟨_,_,rfl⟩|⟨w,_,_,rfl⟩
     ·exact ht
     ·cases hdd:s.dst with
      | none=>exact ht
      | some d =>
       rw [hdd] at hd;show (tm.set d w).get t=_;rw [T.aJ,qd (Gk hd)];exact ht) q1 q2 q3
  obtain ⟨eB,dst,guard,args,op,ps⟩:=s;subst hs;have e:aw b (tm.get t)=some true:=by rw [ht];exact hw
  cases eB with
  | false=>exact bq.intro (m:=aA) e this
  | true=>exact bq.intro (m:=aA) e this
theorem jE.over {Z:bT} {R0:Env} {rest:List aU} {t:Nat} {b:Bool} {v:AV} (hw:aw b (some v)=some false) {kf:List Nat} {L0:Env} {H:AHeap} (hK:∀ tm,gn E (fZ kf L0 (mH kf.length)) R0 tm->kZ M ctx rest ⟨tm,D,up,H⟩ Z) :
 ∀ {l:List aU} {acc:List Nat} {tm:T AV},bl l acc=kf->Ff (some (t,b)) l->po t l=true->tm.get t=some v->gn E (fZ acc L0 (mH acc.length)) R0 tm->kZ M ctx (l++rest) ⟨tm,D,up,H⟩ Z
 | [],acc,tm,e1,_,_,_,hr0=>by
  have e1:acc=kf:=e1;subst e1;exact hK _ hr0
 | s::l,acc,tm,e1,hg,ho,ht,hr0=>by
  rw [DH,N1];have hs:s.guard=some (t,b):=hg s (BX ..);have ho:cond (EK s.dst t) false (cond s.eB (cond s.dst.isSome (po t l) false) (po t l))=true:=ho;have hd:EK s.dst t=false:=by cases q:EK s.dst t with
   | true=>rw [q] at ho;cases ho
   | false=>rfl
  rw [hd,zg] at ho;have e:aw b (tm.get t)=some false:=by rw [ht];exact hw
  have hg':Ff (some (t,b)) l:=λ x hx=>hg x (Ef _ hx);have e1:bl l (cond s.eB acc (Option.rec (motive:=λ _=>List Nat) acc (λ d=>d::acc) s.dst))=kf:=e1;cases hc:s.eB with
  | true =>
   rw [hc] at ho e1;cases hds:s.dst.isSome with
   | false=>rw [hds] at ho;cases ho
   | true =>
    rw [hds] at ho;have:=jE.over hw hK e1 hg' ho ht hr0;obtain ⟨eB,dst,guard,args,op,ps⟩:=s;subst hs;subst hc;exact bq.intro (m:=aA) e ⟨hds,this⟩
  | false =>
   rw [hc] at ho e1;have:=jE.over hw hK (tm:=cN s.dst .undef tm) e1 hg' ho (by
    cases hdd:s.dst with
     | none=>exact ht
     | some d =>
      rw [hdd] at hd;show (tm.set d _).get t=_;rw [T.aJ,qd (Gk hd)];exact ht) (by
    have:=hr0.put s.dst .undef;cases hdd:s.dst with
     | none=>rw [hdd] at this;exact this
     | some d=>rw [hdd] at this;exact this)
   obtain ⟨eB,dst,guard,args,op,ps⟩:=s;subst hs;subst hc;exact bq.intro (m:=aA) e this
theorem rW {a b:Option (Nat × Bool)} (h:lR a b=true):a=b:=by
 cases a with
 | none=>cases b with
  | none=>rfl
  | some _=>cases h
 | some p=>cases b with
  | none=>cases h
  | some q =>
   obtain ⟨t,x⟩:=p;obtain ⟨u,y⟩:=q;have h:cond (Nat.beq t u) (cond x y (!y)) false=true:=h;cases hb:Nat.beq t u with
   | false=>rw [hb] at h;cases h
   | true =>
    rw [hb] at h;rw [Nat.eq_of_beq_eq_true hb];cases x<;>cases y<;>first|rfl|cases h
theorem u6:∀ (l:List aU),(C1 l).flatMap (·.2)=l /\ ∀ x ∈ C1 l,Ff x.1 x.2
 | []=>⟨rfl,λ x hx=>by cases hx⟩
 | s::l=>by
  obtain ⟨h1,h2⟩:=u6 l;have e:C1 (s::l)=List.casesOn (motive:=λ _=>List wY) (C1 l) [(s.guard,[s])] λ g r=>cond (lR g.1 s.guard) ((g.1,s::g.2)::r) ((s.guard,[s])::g::r):=rfl;rw [e];cases hg:C1 l with
  | nil =>
   rw [hg] at h1;exact ⟨by simpa using h1,λ x hx=>by simp at hx;subst hx;intro y hy;simp at hy;subst hy;rfl⟩
  | cons g r =>
   rw [hg] at h1 h2;show (cond (lR g.1 s.guard) ((g.1,s::g.2)::r) ((s.guard,[s])::g::r)).flatMap _=_ /\ ∀ x ∈ cond (lR g.1 s.guard) ((g.1,s::g.2)::r) ((s.guard,[s])::g::r),_;cases hs:lR g.1 s.guard with
   | true =>
    refine ⟨by simpa using h1,λ x hx=>?_⟩;rcases je.1 hx with rfl|hx
    ·intro y hy;rcases je.1 hy with rfl|hy
     ·exact (rW hs).symm
     ·exact h2 g (BX ..) y hy
    ·exact h2 x (Ef _ hx)
   | false =>
    refine ⟨by simpa using h1,λ x hx=>?_⟩;rcases je.1 hx with rfl|hx
    ·intro y hy;simp at hy;subst hy;rfl
    ·exact h2 x hx
theorem qD.HI {Z:bT} (hp:∀ c tm H E',(∀ t v,lk E' t=some v->tm.get t=some v/\lk E t=some v)->Q (.panic c) E' D H->Z (.panic c) ⟨tm,D,up,H⟩) {K:KR} {g:Bool} (hK:∀ L R tm H,gn E L R tm->K g L R H->Z .normal ⟨tm,D,up,H⟩):∀ {gs:List wY} {L R:Env} {tm:T AV} {H:AHeap},(∀ x ∈ gs,Ff x.1 x.2)->gn E L R tm->qD M ct Q E D K gs g L R H ->
 kZ M ctx (gs.flatMap (·.2)) ⟨tm,D,up,H⟩ Z
 | [],L,R,tm,H,_,hr,h=>hK _ _ _ _ hr h
 | x::gs,L,R,tm,H,hg,hr,h=>by
  rw [jm];have ih:∀ L R tm H,gn E L R tm->qD M ct Q E D K gs g L R H->kZ M ctx (gs.flatMap (·.2)) ⟨tm,D,up,H⟩ Z:=λ L R tm H hr h=>qD.HI hp hK (λ x hx=>hg x (Ef _ hx)) hr h;have hx:=hg x (BX ..);obtain ⟨q,l⟩:=x;cases q with
  | none=>exact jE.free hp (R0:=R) (λ L R tm H q1 _ q2=>ih L R tm H q1 q2) hx hr hr (show jE M ct Q E D (qD M ct Q E D K gs) l g L R H from h)
  | some q =>
   obtain ⟨t,b⟩:=q;cases ho:po t l with
   | false =>
    have h:cond (po t l) _ False:=h;rw [ho] at h;exact h.elim
   | true =>
    have h:cond (po t l) _ False:=h;rw [ho,xh] at h;obtain ⟨v,R1,ht,hr1,h⟩:=TV.elim hr h;have kl:cu (bl l [])=(bl l []).length:=sy _;have h:B3 g (aw b (some v)) λ g w=>bZ g w (λ g=>jE M ct Q E D (λ g L' _ H=>jN (cu (bl l [])) (kB (cu (bl l [])) λ vs H=>qD M ct Q E D K gs g (fZ (bl l []) L vs) R1 H) (lS (cu (bl l [])) L') H) l g L R1 H)
     (λ g=>jN (cu (bl l [])) (kB (cu (bl l [])) λ vs H=>qD M ct Q E D K gs g (fZ (bl l []) L vs) R1 H) (mH (cu (bl l []))) H):=h
    obtain ⟨w,hw,h⟩:=B3.elim h;cases w with
    | true =>
     refine jE.under hp (R0:=R1) hw (kf:=bl l []) (L0:=L) (λ vs R tm H q q1 q0 q2=>?_) (acc:=[]) (us:=[]) rfl rfl rfl hx ho ht hr1 hr1 h;rw [kl,q51 _ _ _ q,Mb _ _ _ _ q] at q2;exact ih _ R1 tm H q0 q2
    | false =>
     have h:jN (cu (bl l [])) (kB (cu (bl l [])) λ vs H=>qD M ct Q E D K gs g (fZ (bl l []) L vs) R1 H) (mH (cu (bl l []))) H:=h;rw [kl,Mb _ _ _ _ (xao _)] at h;exact jE.over hw (kf:=bl l []) (L0:=L) (λ tm hq=>ih _ R1 tm H hq h) (acc:=[]) rfl hx ho ht hr1
theorem lK.HI {Z:bT} (hp:∀ c tm H E',(∀ t v,lk E' t=some v->tm.get t=some v/\lk E t=some v)->Q (.panic c) E' D H->Z (.panic c) ⟨tm,D,up,H⟩) {l:List aU} {g:Bool} {H:AHeap} {K:KR} {tm:T AV} {ks:List Nat} (he:dq ks E tm) (h:lK M ct Q E D l g H K) (hK:∀ L R tm H,gn E L R tm->K g L R H->Z .normal ⟨tm,D,up,H⟩):kZ M ctx l ⟨tm,D,up,H⟩ Z:=by
 obtain ⟨h1,h2⟩:=u6 l;have:=qD.HI hp (ctx:=ctx) hK h2 (gn.first he) h
 rwa [h1] at this
end
end
end Go.Am
namespace Go.Am
noncomputable section
variable {M:aL} {ctx:Ctx} {K:Kp}
theorem MB (ks:List Nat) (E:Env):∀ (L:Env) (t:Nat) (v:AV),bK t ks=true->lk (cU ks E L) t=some v->lk L t=some v\/lk L t=none/\lk E t=some v
 | [],t,v,_,h=>.inr ⟨rfl,h⟩
 | (k,w)::r,t,v,ht,h=>by
  have h:lk (cond (bK k ks) ((k,w)::cU ks E r) (cU ks E r)) t=some v:=h;rw [oE];cases hm:bK k ks with
  | true =>
   rw [hm,xh,oE] at h;split at h
   ·rename_i e;rw [qr e];exact .inl h
   ·rename_i e;rw [qd e];exact MB ks E r t v ht h
  | false =>
   rw [hm,zg] at h
   by_cases e:k=t
   ·subst e;rw [hm] at ht;cases ht
   ·rw [qd e];exact MB ks E r t v ht h
theorem MH (ks:List Nat) (E:Env) (hE:∀ t v,lk E t=some v->bK t ks=true):∀ (L:Env) (t:Nat) (v:AV),lk (cU ks E L) t=some v->bK t ks=true
 | [],t,v,h=>hE t v h
 | (k,w)::r,t,v,h=>by
  have h:lk (cond (bK k ks) ((k,w)::cU ks E r) (cU ks E r)) t=some v:=h;cases hm:bK k ks with
  | true =>
   rw [hm,xh,oE] at h;split at h
   ·rename_i e;subst e;exact hm
   ·exact MH ks E hE r t v h
  | false=>rw [hm,zg] at h;exact MH ks E hE r t v h
theorem gn.ae {E L R:Env} {tm:T AV} (h:gn E L R tm) {ks:List Nat} (hE:∀ t v,lk E t=some v->bK t ks=true):dq ks (cU ks E L) tm:=λ t v hv=>by
 have hm:=MH ks E hE L t v hv;refine ⟨?_,hm⟩;rcases MB ks E L t v hm hv with q|⟨q1,q2⟩
 ·exact h.l t v q
 ·exact h.e t v q1 q2
theorem dq.keys {ks:List Nat} {E:Env} {tm:T AV} (h:dq ks E tm):∀ t v,lk E t=some v->bK t ks=true:=λ t v hv=>(h t v hv).2
theorem dq.ct {ks:List Nat} {E E':Env} {tm tm':T AV} (h:dq ks E tm) (h':∀ t v,lk E' t=some v->tm'.get t=some v/\lk E t=some v):dq ks E' tm':=λ t v hv=>⟨(h' t v hv).1,(h t v (h' t v hv).2).2⟩
theorem TV.cv {E L R:Env} {x:bA} {g:Bool} {P:Bool->AV->Prop} {tm:T AV} (hr:gn E L R tm) (h:CV E L R x g P):∃ v,kT tm x=some v/\P g v:=by
 cases x with
 | tmp t=>obtain ⟨v,_,h1,_,h2⟩:=TV.elim hr (show TV E L R t g (λ g _ v=>P g v) from h);exact ⟨v,h1,h2⟩
 | const v=>exact ⟨v,rfl,h⟩
 | cX v=>exact ⟨_,rfl,h⟩
 | func v=>exact ⟨_,rfl,h⟩
theorem OV.elim {ks:List Nat} {E:Env} {x:bA} {g:Bool} {P:Bool->AV->Prop} {tm:T AV} (hr:dq ks E tm) (h:OV E x g P):∃ v,kT tm x=some v/\P g v:=by
 cases x with
 | tmp t=>obtain ⟨v,h1,h2⟩:=LK.elim (show LK g (lk E t) P from h);exact ⟨v,(hr t v h1).1,h2⟩
 | const v=>exact ⟨v,rfl,h⟩
 | cX v=>exact ⟨_,rfl,h⟩
 | func v=>exact ⟨_,rfl,h⟩
theorem q1b {tm:T AV} {x:bA} {v:AV} {P:AV->Prop} (h:kT tm x=some v) (hp:P v):wG tm x P:=by
 cases x with
 | tmp t=>exact bq.intro (m:=aA) h hp
 | const c=>injection h with h;subst h;exact hp
 | cX c=>injection h with h;subst h;exact hp
 | func c=>injection h with h;subst h;exact hp
theorem br.wp {a b:ah} {g:Bool} {v:AV} {A B:Bool->Prop} {tm:T AV} {c:bA} {st:St} {Q:bT} (hv:kT st.tm c=some v) (h:br g v A B) (ha:A g->WP M ctx a st Q) (hb:B g->WP M ctx b st Q):WP M ctx (.cond c a b) st Q:=by
 obtain ⟨q,rfl,h⟩:=h.elim;refine q1b hv ?_;cases q with
 | true=>exact ha h
 | false=>exact hb h
def c9:ah->Nat
 | .seq a b=>c9 a+c9 b+1
 | .cond _ a b=>c9 a+c9 b+1
 | .block _ b=>c9 b+1
 | .loop _ b=>c9 b+1
 | .scope b=>c9 b+1
 | _=>0
theorem W3.wp:∀ (n:Nat) (c:ah),c9 c<=n -> ∀ {g:Bool} {Q:aH} {E:Env} {D:List aO} {H:AHeap} {tm:T AV} {up:Option aC},W3 M ctx K c g Q E D H->dq K.ae E tm->WP M ctx c ⟨tm,D,up,H⟩ (QQ K.ae Q up):=by
 intro n
 induction n with
 | zero =>
  intro c hc g Q E D H tm up h he;cases c with
  | skip=>exact ⟨rfl,E,he,h⟩
  | label _=>exact ⟨rfl,E,he,h⟩
  | exit _=>exact ⟨rfl,E,he,h⟩
  | goto _=>exact ⟨rfl,E,he,h⟩
  | ret=>exact ⟨rfl,E,he,h⟩
  | stuck=>exact False.elim h
  | region l=>exact lK.HI (λ c tm' H' E' h1 h2=>⟨rfl,E',he.ct h1,h2⟩) he (show lK M K.ct Q E D l g H _ from h) λ L R tm H hr hk=>⟨rfl,_,hr.ae he.keys,hk⟩
  | rangeFunc f k =>
   obtain ⟨v,hv,h⟩:=OV.elim he (show OV E f g _ from h);exact q1b hv (by
    have:=h tm up he;unfold BA at this ⊢;split
    ·rename_i hr;rw [hr] at this;exact FQ this λ e st ⟨h1,h2,h3⟩=>⟨h1,E,by rw [h2];exact he,h3⟩
    ·rename_i l hr;rw [hr] at this;exact wQ (m:=aA) this λ d q=>FQ q λ e st ⟨h1,h2,h3⟩=>⟨h1,E,by rw [h2];exact he,h3⟩)
  | seq _ _=>simp [c9] at hc
  | cond _ _ _=>simp [c9] at hc
  | block _ _=>simp [c9] at hc
  | loop _ _=>simp [c9] at hc
  | scope _=>simp [c9] at hc
 | succ n ih =>
  intro c hc g Q E D H tm up h he;have seqq:∀ {a b:ah} {tm:T AV} {H:AHeap},c9 b<=n->WP M ctx a ⟨tm,D,up,H⟩ (QQ K.ae (ak (W3 M ctx K b) Q) up)->WP M ctx a ⟨tm,D,up,H⟩ (MY (WP M ctx b) (QQ K.ae Q up)):=λ {a b tm H} hb h=>mb h λ e st ⟨h1,E',h2,h3⟩=>by
   obtain ⟨tm',D',up',H'⟩:=st;subst h1;cases e with
   | normal=>exact ih b hb h3 h2
   | exit _=>exact ⟨rfl,E',h2,h3⟩
   | goto _=>exact ⟨rfl,E',h2,h3⟩
   | ret=>exact ⟨rfl,E',h2,h3⟩
   | panic _=>exact ⟨rfl,E',h2,h3⟩
  have cnd:∀ {c:bA} {x y:ah} {E:Env} {tm:T AV} {v:AV} {g:Bool} {Q:aH} {H:AHeap},c9 x<=n->c9 y<=n->kT tm c=some v->dq K.ae E tm->br g v (λ g=>W3 M ctx K x g Q E D H) (λ g=>W3 M ctx K y g Q E D H)->WP M ctx (.cond c x y) ⟨tm,D,up,H⟩ (QQ K.ae Q up) :=
   λ {c x y E tm v g Q H} hx hy hv he h=>br.wp (tm:=tm) (st:=⟨tm,D,up,H⟩) hv h (λ h=>ih x hx h he) (λ h=>ih y hy h he)
  cases c with
  | seq a b =>
   have hab:c9 a+c9 b<=n:=by simp only [c9] at hc;omega
   have gen:W3 M ctx K a g (ak (W3 M ctx K b) Q) E D H->WP M ctx (.seq a b) ⟨tm,D,up,H⟩ (QQ K.ae Q up):=λ h=>seqq (a:=a) (b:=b) (by omega) (ih a (by omega) h he);have reg:∀ (l:List aU) (KF:KR),a=.region l->lK M K.ct Q E D l g H KF->(∀ L R tm H,gn E L R tm->KF g L R H->WP M ctx b ⟨tm,D,up,H⟩ (QQ K.ae Q up))->WP M ctx (.seq a b) ⟨tm,D,up,H⟩ (QQ K.ae Q up):=λ l KF e h' hk=>by
    subst e;exact lK.HI (Z:=MY (WP M ctx b) (QQ K.ae Q up)) (λ c tm' H' E' h1 h2=>⟨rfl,E',he.ct h1,h2⟩) he h' hk
   cases a with
   | region l =>
    have plain:(lK M K.ct Q E D l g H λ g L _ H=>W3 M ctx K b g Q (cU K.ae E L) D H)->WP M ctx (.seq (.region l) b) ⟨tm,D,up,H⟩ (QQ K.ae Q up):=λ h=>reg l _ rfl h λ L R tm H hr hk=>ih b (by omega) hk (hr.ae he.keys);cases b with
    | cond c x y =>
     have hxy:c9 x+c9 y+1<=n:=by simp only [c9] at hab;omega
     refine reg l _ rfl h λ L R tm H hr hk=>?_;obtain ⟨v,hv,hk⟩:=TV.cv hr hk;exact cnd (by omega) (by omega) hv (hr.ae he.keys) hk
    | seq b1 r =>
     cases b1 with
     | cond c x y =>
      have hxy:c9 x+c9 y+1+c9 r+1<=n:=by simp only [c9] at hab;omega
      refine reg l _ rfl h λ L R tm H hr hk=>?_;obtain ⟨v,hv,hk⟩:=TV.cv hr hk;exact seqq (by omega) (cnd (by omega) (by omega) hv (hr.ae he.keys) hk)
     | _=>exact plain h
    | _=>exact plain h
   | _=>exact gen h
  | cond c x y =>
   have hab:c9 x+c9 y<=n:=by simp only [c9] at hc;omega
   obtain ⟨v,hv,h⟩:=OV.elim he (show OV E c g _ from h);exact cnd (by omega) (by omega) hv he h
  | block id b =>
   have hb:c9 b<=n:=by simp only [c9] at hc;omega
   exact mb (c:=b) (ih b hb (show W3 M ctx K b g (aI id Q) E D H from h) he) λ e st ⟨h1,E',h2,h3⟩=>by cases e<;>exact ⟨h1,E',h2,h3⟩
  | scope b =>
   have hb:c9 b<=n:=by simp only [c9] at hc;omega
   refine mb (c:=b) (ih b hb (show W3 M ctx K b g (o9 b Q) E D H from h) he) λ e st ⟨h1,E',h2,h3⟩=>?_;cases e with
   | goto l=>exact ⟨h3.1,h1,E',h2,h3.2⟩
   | normal=>exact ⟨h1,E',h2,h3⟩
   | exit _=>exact ⟨h1,E',h2,h3⟩
   | ret=>exact ⟨h1,E',h2,h3⟩
   | panic _=>exact ⟨h1,E',h2,h3⟩
  | loop ae b =>
   have hb:c9 b<=n:=by simp only [c9] at hc;omega
   cases ae with
   | some _=>exact False.elim h
   | none =>
    obtain ⟨I,⟨n0,E0,h0,hs⟩,hstep⟩:=(show bn (W3 M ctx K b) Q E D H from h)
    refine ⟨λ n st=>st.up=up /\ ∃ E',dq K.ae E' st.tm/\I n E' st.aS st.H,⟨n0,rfl,E0,hs.sub he,h0⟩,λ n st ⟨h1,E',h2,h3⟩=>?_⟩;obtain ⟨tm',D',up',H'⟩:=st;subst h1;refine mb (c:=b) (ih b hb (hstep n E' D' H' h3) h2) λ e st ⟨k1,E2,k2,k3⟩=>?_;cases e with
    | normal=>obtain ⟨m,E3,q1,q2,q3⟩:=k3;exact ⟨m,q3,k1,E3,q2.sub k2,q1⟩
    | exit _=>exact ⟨k1,E2,k2,k3⟩
    | goto _=>exact ⟨k1,E2,k2,k3⟩
    | ret=>exact ⟨k1,E2,k2,k3⟩
    | panic _=>exact ⟨k1,E2,k2,k3⟩
  | skip=>exact ⟨rfl,E,he,h⟩
  | label _=>exact ⟨rfl,E,he,h⟩
  | exit _=>exact ⟨rfl,E,he,h⟩
  | goto _=>exact ⟨rfl,E,he,h⟩
  | ret=>exact ⟨rfl,E,he,h⟩
  | stuck=>exact False.elim h
  | region l=>exact ih _ (zp _) h he
  | rangeFunc f k=>exact ih _ (zp _) h he
def dn (E:Env) (H:AHeap):List cP->(List AV->Prop)->Prop
 | [],P=>P []
 | .tmp t::rs,P=>LK true (lk E t) λ _ v=>dn E H rs λ vs=>P (v::vs)
 | .gB a::rs,P=>LK true (lk E a) λ _ v=>B3 true (Op.aa [v] H) λ _ v=>dn E H rs λ vs=>P (v::vs)
 | .bY n a::rs,P=>LK true (lk E a) λ _ v=>B3 true (Op.ao n [v] H) λ _ v=>dn E H rs λ vs=>P (v::vs)
def jM (M:aL) (rs:List cP) (E:Env) (Q:bo->AHeap->Prop):List aO->Option aC->AHeap->Prop
 | [],none,H=>dn E H rs λ l=>Q (.ret (c6 l)) H
 | [],some c,H=>Q (.panic c) H
 | .eW b::ds,m,H=>H.get b=some (.deferred (some []))/\jM M rs E Q ds m (H.set b (.deferred none))
 | .fn (.func f) args::ds,m,H=>∃ v up' H',m8 M f args (some (m.getD [])) H (.ret v) (some up') H'/\bq aA (iJ m up') λ m'=>jM M rs E Q ds m' H'
 | .fn (.yield _) _::_,_,_=>False
theorem dn.elim {ks:List Nat} {E:Env} {tm:T AV} (he:dq ks E tm) {H:AHeap}:∀ {rs:List cP} {P:List AV->Prop},dn E H rs P -> ∃ l,cF H tm rs=some l/\P l
 | [],P,h=>⟨[],rfl,h⟩
 | .tmp t::rs,P,h=>by
  obtain ⟨v,h1,h⟩:=LK.elim (show LK true (lk E t) _ from h);obtain ⟨l,h2,h⟩:=dn.elim he h;exact ⟨v::l,by rw [zG,(he t v h1).1,h2];rfl,h⟩
 | .gB t::rs,P,h=>by
  obtain ⟨v,h1,h⟩:=LK.elim (show LK true (lk E t) _ from h);obtain ⟨w,h2,h⟩:=B3.elim h;obtain ⟨l,h3,h⟩:=dn.elim he h;exact ⟨w::l,by rw [q96,(he t v h1).1,qm,h2,qm,h3];rfl,h⟩
 | .bY n t::rs,P,h=>by
  obtain ⟨v,h1,h⟩:=LK.elim (show LK true (lk E t) _ from h);obtain ⟨w,h2,h⟩:=B3.elim h;obtain ⟨l,h3,h⟩:=dn.elim he h;exact ⟨w::l,by rw [q97,(he t v h1).1,qm,h2,qm,h3];rfl,h⟩
theorem jM.NX {ks:List Nat} {E:Env} {tm:T AV} (he:dq ks E tm) {rs:List cP} {Q:bo->AHeap->Prop}:∀ {D:List aO} {m:Option aC} {H:AHeap},jM M rs E Q D m H->rB M rs tm Q D m H
 | [],none,H,h=>by obtain ⟨l,h1,h2⟩:=dn.elim he h;exact bq.intro (m:=aA) h1 h2
 | [],some c,H,h=>h
 | .eW b::ds,m,H,⟨h1,h2⟩=>⟨h1,jM.NX he h2⟩
 | .fn (.func f) args::ds,m,H,⟨v,up',H',h1,h2⟩=>⟨v,up',H',h1,wQ h2 λ m' h=>jM.NX he h⟩
 | .fn (.yield _) _::_,_,_,h=>h
def aM (M:aL) (rs:List cP) (Q:bo->AHeap->Prop):aH:=λ e E D H=>match e with
 | .normal=>jM M rs E Q D none H
 | .ret=>jM M rs E Q D none H
 | .panic c=>jM M rs E Q D (some c) H
 | _=>False
def ye (M:aL) (f:Nat) (vs:List AV) (H:AHeap) (Q:bo->AHeap->Prop):Prop:=∃ e H',iG M f vs H e H'/\Q e H'
def lF (Q:AV->AHeap->Prop) (e:bo) (H:AHeap):Prop:=match e with
 | .ret v=>Q v H
 | .panic _=>False
def jr (M:aL) (f:Nat) (vs:List AV) (H:AHeap) (Q:AV->AHeap->Prop):Prop:=ye M f vs H (lF Q)
theorem jr.elim {f:Nat} {vs:List AV} {H:AHeap} {Q:AV->AHeap->Prop} (h:jr M f vs H Q):∃ v H',iG M f vs H (.ret v) H'/\Q v H':=by
 obtain ⟨e,H',h1,h2⟩:=h;cases e with
 | ret v=>exact ⟨v,H',h1,h2⟩
 | panic _=>exact h2.elim
theorem jr.intro {f:Nat} {vs:List AV} {H:AHeap} {Q:AV->AHeap->Prop} {v:AV} {H':AHeap} (h:iG M f vs H (.ret v) H') (hq:Q v H'):jr M f vs H Q:=⟨_,H',h,hq⟩
theorem jr.mono {f:Nat} {vs:List AV} {H:AHeap} {Q Q':AV->AHeap->Prop} (h:jr M f vs H Q) (hq:∀ v H',Q v H'->Q' v H'):jr M f vs H Q':=by
 obtain ⟨v,H',h1,h2⟩:=h.elim;exact ⟨_,H',h1,hq _ _ h2⟩
theorem C3.q {m:Bool} {f:Nat} {vs:List AV} {H:AHeap} {R:AV->AHeap->Prop} {P:Bool->AV->AHeap->Prop} (h:jr M f vs H R) (hk:∀ v H',R v H'->P m v H'):C3 M m (.func f) vs H P:=by
 obtain ⟨v,H',h1,h2⟩:=h.elim;exact ⟨v,H',h1,hk v H' h2⟩
theorem C3.ret {m:Bool} {f:Nat} {vs:List AV} {H:AHeap} {P:Bool->AV->AHeap->Prop} {v:AV} {H':AHeap} (h:iG M f vs H (.ret v) H') (hk:P m v H'):C3 M m (.func f) vs H P:=⟨v,H',h,hk⟩
theorem C3.CR {m:Bool} {l:Nat} {vs:List AV} {H:AHeap} {P:Bool->AV->AHeap->Prop} {v:AV} {H':AHeap} (h:lX M l vs H (.ret v) H') (hk:P m v H'):C3 M m (.yield l) vs H P:=⟨v,H',h,hk⟩
theorem P3.q {m:Bool} {X:aC->AHeap->Prop} {f:Nat} {vs:List AV} {H:AHeap} {R:bo->AHeap->Prop} {P:Bool->AV->AHeap->Prop} (h:ye M f vs H R) (hk:∀ v H',R (.ret v) H'->P m v H') (hx:∀ c H',R (.panic c) H'->X c H'):P3 M m X (.func f) vs H P:=by
 obtain ⟨e,H',h1,h2⟩:=h;refine ⟨e,H',h1,?_⟩;cases e with
 | ret v=>exact hk _ _ h2
 | panic c=>exact hx _ _ h2
def qV:Nat->List AV->Env
 | _,[]=>[]
 | i,v::vs=>(i,v)::qV (i+1) vs
def lQ:Nat->Nat->List Nat->Bool
 | _,0,_=>true
 | i,n+1,ks=>bK i ks && lQ (i+1) n ks
theorem qyd:∀ (vs:List AV) (i t:Nat) (tm:T AV),(fj i vs tm).get t=if i<=t then (match vs[t-i]? with|some v=>some v|none=>tm.get t) else tm.get t
 | [],i,t,tm=>by simp [fj]
 | v::vs,i,t,tm=>by
  rw [fj,qyd vs (i+1) t,T.aJ]
  by_cases h:i=t
  ·subst h;simp;intro h;omega
  ·by_cases h2:i<=t
   ·have e:t-i=(t-(i+1))+1:=by omega
    rw [qr (show i+1<=t by omega),qr h2,qd h,e,zu]
   ·rw [qd (by omega),qd h2,qd h]
theorem q9h:∀ (vs:List AV) (i t:Nat) (v:AV),lk (qV i vs) t=some v->i<=t/\vs[t-i]? = some v
 | [],i,t,v,h=>by cases h
 | w::vs,i,t,v,h=>by
  rw [qV,oE] at h;split at h
  ·rename_i e;subst e;injection h with h;subst h;simp
  ·obtain ⟨h1,h2⟩:=q9h vs (i+1) t v h;refine ⟨by omega,?_⟩;have e:t-i=(t-(i+1))+1:=by omega
   rw [e,zu,h2]
theorem q18:∀ (n i:Nat) (ks:List Nat),lQ i n ks=true -> ∀ t,i<=t->t<i+n->bK t ks=true
 | 0,i,ks,_,t,h1,h2=>by omega
 | n+1,i,ks,h,t,h1,h2=>by
  simp only [lQ,xp] at h
  by_cases e:i=t
  ·subst e;exact h.1
  ·exact q18 n (i+1) ks h.2 t (by omega) (by omega)
theorem vP {ks:List Nat} {vs:List AV} (h:lQ 0 vs.length ks=true):dq ks (qV 0 vs) (fj 0 vs .nil):=λ t v hv=>by
 obtain ⟨_,h2⟩:=q9h vs 0 t v hv;rw [CE] at h2;refine ⟨by rw [qyd,qr (zp _),CE,h2],q18 _ 0 ks h t (zp _) ?_⟩;rw [ko];exact (qi.1 h2).1
structure Fn3 where
 n:Nat
 F:av
 K:Kp
def pre:ah->List ah
 | .seq a b=>.seq a b::fH (pre a) (pre b)
 | .cond c a b=>.cond c a b::fH (pre a) (pre b)
 | .block i b=>.block i b::pre b
 | .loop k b=>.loop k b::pre b
 | .scope b=>.scope b::pre b
 | c=>[c]
def part (c:ah) (k:Nat):ah:=Option.rec (motive:=λ _=>ah) .stuck (λ c=>c) (nth (pre c) k)
def cW:ah->Nat
 | .seq a b=>cW a+cW b+1
 | .cond _ a b=>cW a+cW b+1
 | .block _ b=>cW b+1
 | .loop _ b=>cW b+1
 | .scope b=>cW b+1
 | _=>1
theorem Az:∀ (c:ah),(pre c).length=cW c
 | .seq a b=>by simp [pre,cW,i9,Az a,Az b]
 | .cond _ a b=>by simp [pre,cW,i9,Az a,Az b]
 | .block _ b=>by simp [pre,cW,Az b]
 | .loop _ b=>by simp [pre,cW,Az b]
 | .scope b=>by simp [pre,cW,Az b]
 | .skip=>rfl
 | .label _=>rfl
 | .exit _=>rfl
 | .goto _=>rfl
 | .ret=>rfl
 | .stuck=>rfl
 | .region _=>rfl
 | .rangeFunc _ _=>rfl
theorem M1 (c:ah):∃ l,pre c=c::l:=by cases c<;>exact ⟨_,rfl⟩
theorem Ml {α:Type}:∀ (l:List α) (i:Nat),nth l i=l[i]?
 | [],i=>rfl
 | x::l,0=>rfl
 | x::l,i+1=>by rw [zu,<-Ml l i];rfl
theorem C5:∀ (r:ah) (k:Nat) (c:ah),(pre r)[k]? = some c -> ∃ l,(pre r).drop k=pre c++l:=by
 intro r
 induction r with
 | seq a b iha ihb =>
  intro k c h;cases k with
  | zero=>simp [pre] at h;subst h;exact ⟨[],by simp⟩
  | succ k =>
   simp only [pre,i9,zu] at h;simp only [pre,i9,II]
   by_cases hk:k<(pre a).length
   ·rw [kn hk] at h;obtain ⟨l,hl⟩:=iha k c h;exact ⟨l++pre b,by rw [kw (by omega),hl,zk]⟩
   ·rw [jq (by omega)] at h;obtain ⟨l,hl⟩:=ihb _ c h;refine ⟨l,?_⟩;rw [vy,j4 (by omega),zy,hl]
 | cond x a b iha ihb =>
  intro k c h;cases k with
  | zero=>simp [pre] at h;subst h;exact ⟨[],by simp⟩
  | succ k =>
   simp only [pre,i9,zu] at h;simp only [pre,i9,II]
   by_cases hk:k<(pre a).length
   ·rw [kn hk] at h;obtain ⟨l,hl⟩:=iha k c h;exact ⟨l++pre b,by rw [kw (by omega),hl,zk]⟩
   ·rw [jq (by omega)] at h;obtain ⟨l,hl⟩:=ihb _ c h;refine ⟨l,?_⟩;rw [vy,j4 (by omega),zy,hl]
 | block i b ih =>
  intro k c h;cases k with
  | zero=>simp [pre] at h;subst h;exact ⟨[],by simp⟩
  | succ k=>simp only [pre,zu] at h;simpa only [pre,II] using ih k c h
 | loop i b ih =>
  intro k c h;cases k with
  | zero=>simp [pre] at h;subst h;exact ⟨[],by simp⟩
  | succ k=>simp only [pre,zu] at h;simpa only [pre,II] using ih k c h
 | scope b ih =>
  intro k c h;cases k with
  | zero=>simp [pre] at h;subst h;exact ⟨[],by simp⟩
  | succ k=>simp only [pre,zu] at h;simpa only [pre,II] using ih k c h
 | _ =>
  intro k c h;cases k with
  | zero=>simp [pre] at h;subst h;exact ⟨[],by simp [pre]⟩
  | succ k=>simp [pre] at h
theorem q2n {r:ah} {k:Nat} {c:ah} (h:(pre r)[k]? = some c):part r k=c:=by
 unfold part;rw [Ml,h]
theorem q2m {r:ah} {k:Nat} {c:ah} (h:part r k=c) (hc:c ≠ .stuck):∀ (j:Nat) (d:ah),(pre c)[j]? = some d->part r (k+j)=d:=λ j d hd=>by
 have h1:(pre r)[k]? = some c:=by
  unfold part at h;rw [Ml] at h;cases hq:(pre r)[k]? with
  | none=>rw [hq] at h;exact (hc h.symm).elim
  | some x=>rw [hq] at h;exact congrArg some h
 obtain ⟨l,hl⟩:=C5 r k c h1;refine q2n ?_;rw [<-ya,hl,kn (qi.1 hd).1,hd]
theorem vK (c:ah):(pre c)[0]? = some c:=by obtain ⟨l,h⟩:=M1 c;rw [h];rfl
theorem Ac {r:ah} {k:Nat} {c a b:ah} (h:part r k=c) (hc:c ≠ .stuck) (e:∃ x l,pre c=x::(pre a++l)):part r (k+1)=a:=by
 obtain ⟨x,l,e⟩:=e;obtain ⟨l',e'⟩:=M1 a;exact q2m h hc 1 a (by rw [e,e'];rfl)
theorem E6 {r:ah} {k:Nat} {c a b:ah} (h:part r k=c) (hc:c ≠ .stuck) (e:∃ x,pre c=x::(pre a++pre b)):part r (k+1+cW a)=b:=by
 obtain ⟨x,e⟩:=e;obtain ⟨l',e'⟩:=M1 b;rw [vi];exact q2m h hc (1+cW a) b (by rw [e,EV,zu,jq (by rw [Az];exact qh _),Az,Nat.sub_self,e'];rfl)
def U (M:aL) (ctx:Ctx) (K:Kp) (X:Nat->WX):ah->Nat->WX
 | .skip,_,g,Q,E,D,H=>az g Q .normal E D H
 | .label _,_,g,Q,E,D,H=>az g Q .normal E D H
 | .exit id,_,g,Q,E,D,H=>az g Q (.exit id) E D H
 | .goto l,_,g,Q,E,D,H=>az g Q (.goto l) E D H
 | .ret,_,g,Q,E,D,H=>az g Q .ret E D H
 | .stuck,_,_,_,_,_,_=>False
 | .region l,_,g,Q,E,D,H=>lK M K.ct Q E D l g H λ g L _ H=>az g Q .normal (cU K.ae E L) D H
 | .seq a b,k,g,Q,E,D,H=>match a,b with
  | .region l,.cond c x y=>lK M K.ct Q E D l g H λ g L R H=>CV E L R c g λ g v=>br g v (λ g=>(Bool.rec (motive:=λ _=>WX) (U M ctx K X x (k+3)) (X (k+3)) (bK (k+3) K.named)) g Q (cU K.ae E L) D H) (λ g=>(Bool.rec (motive:=λ _=>WX) (U M ctx K X y (k+3+cW x)) (X (k+3+cW x)) (bK (k+3+cW x) K.named)) g Q (cU K.ae E L) D H)
  | .region l,.seq (.cond c x y) r=>lK M K.ct Q E D l g H λ g L R H=>CV E L R c g λ g v=>br g v (λ g=>(Bool.rec (motive:=λ _=>WX) (U M ctx K X x (k+4)) (X (k+4)) (bK (k+4) K.named)) g (ak (Bool.rec (motive:=λ _=>WX) (U M ctx K X r (k+4+cW x+cW y)) (X (k+4+cW x+cW y)) (bK (k+4+cW x+cW y) K.named)) Q) (cU K.ae E L) D H)
   (λ g=>(Bool.rec (motive:=λ _=>WX) (U M ctx K X y (k+4+cW x)) (X (k+4+cW x)) (bK (k+4+cW x) K.named)) g (ak (Bool.rec (motive:=λ _=>WX) (U M ctx K X r (k+4+cW x+cW y)) (X (k+4+cW x+cW y)) (bK (k+4+cW x+cW y) K.named)) Q) (cU K.ae E L) D H)
  | .region l,b=>lK M K.ct Q E D l g H λ g L _ H=>(Bool.rec (motive:=λ _=>WX) (U M ctx K X b (k+2)) (X (k+2)) (bK (k+2) K.named)) g Q (cU K.ae E L) D H
  | a,b=>(Bool.rec (motive:=λ _=>WX) (U M ctx K X a (k+1)) (X (k+1)) (bK (k+1) K.named)) g (ak (Bool.rec (motive:=λ _=>WX) (U M ctx K X b (k+1+cW a)) (X (k+1+cW a)) (bK (k+1+cW a) K.named)) Q) E D H
 | .cond c x y,k,g,Q,E,D,H=>OV E c g λ g v=>br g v (λ g=>(Bool.rec (motive:=λ _=>WX) (U M ctx K X x (k+1)) (X (k+1)) (bK (k+1) K.named)) g Q E D H) (λ g=>(Bool.rec (motive:=λ _=>WX) (U M ctx K X y (k+1+cW x)) (X (k+1+cW x)) (bK (k+1+cW x) K.named)) g Q E D H)
 | .block id b,k,g,Q,E,D,H=>(Bool.rec (motive:=λ _=>WX) (U M ctx K X b (k+1)) (X (k+1)) (bK (k+1) K.named)) g (aI id Q) E D H
 | .scope b,k,g,Q,E,D,H=>(Bool.rec (motive:=λ _=>WX) (U M ctx K X b (k+1)) (X (k+1)) (bK (k+1) K.named)) g (o9 b Q) E D H
 | .loop (some _) _,_,_,_,_,_,_=>False
 | .loop none b,k,g,Q,E,D,H=>bn (Bool.rec (motive:=λ _=>WX) (U M ctx K X b (k+1)) (X (k+1)) (bK (k+1) K.named)) Q E D H
 | .rangeFunc f n,_,g,Q,E,D,H=>OV E f g λ g v=>fh M K.ae ctx n E D H Q v
theorem Nj (r:ah):∀ (n:Nat) (c:ah),cW c<=n -> ∀ k,part r k=c->U M ctx K (λ j=>W3 M ctx K (part r j)) c k=W3 M ctx K c:=by
 intro n
 induction n with
 | zero=>intro c hc;cases c<;>simp [cW] at hc
 | succ n ih =>
  intro c hc k hk;have sub:∀ (d:ah) (j:Nat),cW d<=n->part r j=d->Bool.rec (motive:=λ _=>WX) (U M ctx K (λ j=>W3 M ctx K (part r j)) d j) (W3 M ctx K (part r j)) (bK j K.named)=W3 M ctx K d:=λ d j h1 h2=>by
   cases bK j K.named with
   | true=>show W3 M ctx K (part r j)=_;rw [h2]
   | false=>exact ih d h1 j h2
  have pl:=@Ac r;have pr:=@E6 r;cases c with
  | seq a b =>
   have e:pre (.seq a b)=.seq a b::(pre a++pre b):=by simp [pre,i9]
   have ha:=Ac (b:=b) hk (by simp) ⟨_,_,e⟩;have hb:=E6 hk (by simp) ⟨_,e⟩;have hs:cW a+cW b<=n:=by simp only [cW] at hc;omega
   have gen:(Bool.rec (motive:=λ _=>WX) (U M ctx K (λ j=>W3 M ctx K (part r j)) a (k+1)) (W3 M ctx K (part r (k+1))) (bK (k+1) K.named))=W3 M ctx K a/\(Bool.rec (motive:=λ _=>WX) (U M ctx K (λ j=>W3 M ctx K (part r j)) b (k+1+cW a)) (W3 M ctx K (part r (k+1+cW a))) (bK (k+1+cW a) K.named))=W3 M ctx K b :=
    ⟨sub a _ (by omega) ha,sub b _ (by omega) hb⟩
   cases a with
   | region l =>
    have plain:(Bool.rec (motive:=λ _=>WX) (U M ctx K (λ j=>W3 M ctx K (part r j)) b (k+2)) (W3 M ctx K (part r (k+2))) (bK (k+2) K.named))=W3 M ctx K b:=sub b _ (by omega) hb;cases b with
    | cond c x y =>
     have e2:pre (.cond c x y)=.cond c x y::(pre x++pre y):=by simp [pre,i9]
     have hx:=Ac (b:=y) hb (by simp) ⟨_,_,e2⟩;have hy:=E6 hb (by simp) ⟨_,e2⟩;have hxy:cW x+cW y+1<=n:=by simp only [cW] at hs;omega
     have s1:=sub x (k+3) (by omega) hx;have s2:=sub y (k+3+cW x) (by omega) hy;funext g Q E D H;simp only [U,W3,s1,s2]
    | seq b1 q =>
     cases b1 with
     | cond c x y =>
      have e1:pre (.seq (.cond c x y) q)=.seq (.cond c x y) q::(pre (.cond c x y)++pre q):=by simp [pre,i9]
      have e2:pre (.cond c x y)=.cond c x y::(pre x++pre y):=by simp [pre,i9]
      have hc2:=Ac (b:=q) hb (by simp) ⟨_,_,e1⟩;have hq:=E6 hb (by simp) ⟨_,e1⟩;have hx:=Ac (b:=y) hc2 (by simp) ⟨_,_,e2⟩;have hy:=E6 hc2 (by simp) ⟨_,e2⟩;have hxy:cW x+cW y+1+cW q+1<=n:=by simp only [cW] at hs;omega
      have s1:=sub x (k+4) (by omega) hx;have s2:=sub y (k+4+cW x) (by omega) hy;have s3:=sub q (k+4+cW x+cW y) (by omega) (by rw [<-hq];simp only [cW];congr 1;omega);funext g Q E D H;simp only [U,W3,s1,s2,s3]
     | _=>funext g Q E D H;simp only [U,W3] at plain ⊢;simp only [plain]
    | _=>funext g Q E D H;simp only [U,W3] at plain ⊢;simp only [plain]
   | _=>funext g Q E D H;simp only [U,W3] at gen ⊢;simp only [gen.1,gen.2]
  | cond c x y =>
   have e2:pre (.cond c x y)=.cond c x y::(pre x++pre y):=by simp [pre,i9]
   have hx:=Ac (b:=y) hk (by simp) ⟨_,_,e2⟩;have hy:=E6 hk (by simp) ⟨_,e2⟩;have hxy:cW x+cW y<=n:=by simp only [cW] at hc;omega
   have s1:=sub x (k+1) (by omega) hx;have s2:=sub y (k+1+cW x) (by omega) hy;funext g Q E D H;simp only [U,W3,s1,s2]
  | block i b =>
   have s1:=sub b (k+1) (by simp only [cW] at hc;omega) (Ac (b:=b) hk (by simp) ⟨.block i b,[],by simp [pre]⟩);funext g Q E D H;simp only [U,W3,s1]
  | scope b =>
   have s1:=sub b (k+1) (by simp only [cW] at hc;omega) (Ac (b:=b) hk (by simp) ⟨.scope b,[],by simp [pre]⟩);funext g Q E D H;simp only [U,W3,s1]
  | loop i b =>
   have s1:=sub b (k+1) (by simp only [cW] at hc;omega) (Ac (b:=b) hk (by simp) ⟨.loop i b,[],by simp [pre]⟩);funext g Q E D H;cases i with
   | none=>simp only [U,W3,s1]
   | some _=>rfl
  | _=>funext g Q E D H;rfl
theorem Iq:∃ F:aL->Ctx->Kp × ah->WX,F=λ M ctx p=>W3 M ctx p.1 p.2:=⟨_,rfl⟩
def W:aL->Ctx->Kp × ah->WX:=Classical.choose Iq
theorem jC (M:aL) (ctx:Ctx) (p:Kp × ah):W M ctx p=W3 M ctx p.1 p.2:=congrFun (congrFun (congrFun (Classical.choose_spec Iq) M) ctx) p
def funcAt (P:Program) (n:Nat):av:=Option.rec (motive:=λ _=>av) ⟨[],.stuck,[]⟩ (λ f=>f) ((aj P).func n)
def kQ (F:av) (i:Nat):du:=Option.rec (motive:=λ _=>du) ⟨[],.stuck,.stuck⟩ (λ l=>l) (nth F.loops i)
theorem aG {M:aL} {ctx:Ctx} {K:Kp} {r:ah} {k:Nat} {g:Bool} {Q:aH} {E:Env} {D:List aO} {H:AHeap} {R:Prop} (h:U M ctx K (λ j=>W M ctx (K,part r j)) (part r k) k g Q E D H=R):W M ctx (K,part r k) g Q E D H=R:=by
 rw [<-h];have e:(λ j=>W M ctx (K,part r j))=λ j=>W3 M ctx K (part r j):=by funext j;exact jC ..
 rw [e,Nj (M:=M) (ctx:=ctx) (K:=K) r _ (part r k) (qh _) k rfl,jC]
abbrev uu:AV:=.undef
theorem sR (c:ah):part c 0=c:=q2n (vK c)
theorem za {α β:Type} {a b:α} {x y:β} (h:(a,x)=(b,y)):a=b/\x=y:=by injection h with h1 h2;exact ⟨h1,h2⟩
theorem IH {M:aL} {f:Nat} {fn:av} (hf:M.func f=some fn) {ks:Kp} {vs:List AV} (hk:lQ 0 vs.length ks.ae=true) {H:AHeap} {Q:bo->AHeap->Prop}
 (h:W M ⟨none,f⟩ (ks,part fn.body 0) true (aM M fn.results Q) (qV 0 vs) [] H):ye M f vs H Q:=by
 rw [jC,sR] at h;refine q6l hf (mb (W3.wp (c9 fn.body) fn.body (qh _) (up:=none) h (vP hk)) λ e st ⟨h1,E',h2,h3⟩=>?_);obtain ⟨tm,D,up,H'⟩:=st;have h1:up=none:=h1;subst h1;have mono:∀ {m:Option aC},jM M fn.results E' Q D m H'->rB M fn.results tm (λ e H=>(none:Option aC)=none/\Q e H) D m H':=λ {m} h=>by
  have h':jM M fn.results E' (λ e H=>(none:Option aC)=none/\Q e H) D m H':=by
   have e:(λ e H=>(none:Option aC)=none/\Q e H)=Q:=by funext e H;simp
   rw [e];exact h
  exact jM.NX h2 h'
 cases e with
 | normal=>exact mono h3
 | ret=>exact mono h3
 | panic c=>exact mono h3
 | exit _=>exact h3.elim
 | goto _=>exact h3.elim
section
variable (E:Env) (H:AHeap) (K:Bool->AV->Prop) (K2:Bool->AV->AHeap->Prop) (A B:Bool->Prop)
def Lz (E:Env) (n:Nat) (K:Bool->AV->Prop):Prop:=LK true (lk E n) K
def Ly (g:Bool) (E:Env) (n:Nat) (K:Bool->AV->Prop):Prop:=LK g (lk E n) K
def Fl (g:Bool) (i:Nat) (a:AV) (H:AHeap) (K:Bool->AV->Prop):Prop:=B3 g (Op.fieldAddr i [a]) λ g x=>B3 g (Op.aa [x] H) K
def Nf (g:Bool) (i:Nat) (a:AV) (H:AHeap) (K:Bool->AV->Prop):Prop:=B3 g (Op.nilCheck [a]) λ g x=>Fl g i x H K
def Fs (g:Bool) (i:Nat) (a b:AV) (H:AHeap) (K:Bool->AV->AHeap->Prop):Prop:=B3 g (Op.fieldAddr i [a]) λ g x=>aX g (Op.store 1 [x,b] H) K
def Ns (g:Bool) (i:Nat) (a b:AV) (H:AHeap) (K:Bool->AV->AHeap->Prop):Prop:=B3 g (Op.nilCheck [a]) λ g x=>Fs g i x b H K
def Xl (g:Bool) (a b:AV) (H:AHeap) (K:Bool->AV->Prop):Prop:=B3 g (Op.aQ 1 [a,b]) λ g x=>B3 g (Op.aa [x] H) K
def Xs (g:Bool) (a b c:AV) (H:AHeap) (K:Bool->AV->AHeap->Prop):Prop:=B3 g (Op.aQ 1 [a,b]) λ g x=>aX g (Op.store 1 [x,c] H) K
def Bn (g:Bool) (o:BinOp) (a b:AV) (K:Bool->AV->Prop):Prop:=B3 g (Op.bin o [a,b]) K
def Cb (g:Bool) (o:BinOp) (a b:AV) (A B:Bool->Prop):Prop:=B3 g (Op.bin o [a,b]) λ g v=>br g v A B
def Gt (g:Bool) (M:aL) (c:Ctx) (p:Kp × ah) (Q:aH) (E:Env) (D:List aO) (H:AHeap):Prop:=az g (ak (W M c p) Q) .normal E D H
theorem Kt (n:Nat):Lz E n K=LK true (lk E n) K:=propext j3
theorem NF (n:Nat):Ly true E n K=LK true (lk E n) K:=propext j3
theorem M8 (i:Nat) (a:AV):Fl true i a H K=B3 true (Op.fieldAddr i [a]) λ g x=>B3 g (Op.aa [x] H) K:=propext j3
theorem M9 (i:Nat) (a:AV):Nf true i a H K=B3 true (Op.nilCheck [a]) λ g x=>Fl g i x H K:=propext j3
theorem MX (i:Nat) (a b:AV):Fs true i a b H K2=B3 true (Op.fieldAddr i [a]) λ g x=>aX g (Op.store 1 [x,b] H) K2:=propext j3
theorem K3 (i:Nat) (a b:AV):Ns true i a b H K2=B3 true (Op.nilCheck [a]) λ g x=>Fs g i x b H K2:=propext j3
theorem Nm (a b:AV):Xl true a b H K=B3 true (Op.aQ 1 [a,b]) λ g x=>B3 g (Op.aa [x] H) K:=propext j3
theorem MM (a b c:AV):Xs true a b c H K2=B3 true (Op.aQ 1 [a,b]) λ g x=>aX g (Op.store 1 [x,c] H) K2:=propext j3
theorem N6 (o:BinOp) (a b:AV):Bn true o a b K=B3 true (Op.bin o [a,b]) K:=propext j3
theorem N9 (o:BinOp) (a b:AV):Cb true o a b A B=B3 true (Op.bin o [a,b]) λ g v=>br g v A B:=propext j3
theorem LJ (M:aL) (c:Ctx) (p:Kp × ah) (Q:aH) (D:List aO):Gt true M c p Q E D H=az true (ak (W M c p) Q) .normal E D H:=propext j3
end
end
end Go.Am
namespace Go.Am
def Mv (g:Bool) (a:AV) (K:Bool->AV->Prop):Prop:=B3 g (Op.move [a]) K
theorem iQ (a:AV) (K:Bool->AV->Prop):Mv true a K=K true a:=propext j3
@[congr] theorem GV {g g':Bool} {a a':AV} {K:Bool->AV->Prop} (hg:g=g') (ha:a=a'):Mv g a K=Mv g' a' K:=by subst hg;subst ha;rfl
end Go.Am
namespace Go.Am
section
variable {M:aL} {ctx:Ctx} {ct:Bool} {Q Q':aH} {E:Env} {D:List aO}
theorem Jf {α:Type} {m:Bool} {o:Option α} {K K':Bool -> α->Prop} (h:B3 m o K) (hk:∀ a,K m a->K' m a):B3 m o K':=by
 cases o with
 | none=>exact h
 | some a=>exact hk a h
theorem q4v {α β:Type} {m:Bool} {o:Option (α × β)} {K K':Bool -> α -> β->Prop} (h:aX m o K) (hk:∀ a b,K m a b->K' m a b):aX m o K':=by
 cases o with
 | none=>exact h
 | some a=>exact hk a.1 a.2 h
theorem q7z {α:Type} {m:Bool} {o:Option α} {K K':Bool -> α->Prop} (h:LK m o K) (hk:∀ a,K m a->K' m a):LK m o K':=by
 cases o with
 | none=>exact h
 | some a=>exact hk a h
theorem q4x {m:Bool} {v:AV} {A B A' B':Bool->Prop} (h:br m v A B) (ha:A m->A' m) (hb:B m->B' m):br m v A' B':=by
 obtain ⟨q,rfl,h⟩:=h.elim;cases q with
 | true=>exact ha h
 | false=>exact hb h
theorem Mm {L R:Env} {t:Nat} {g:Bool} {K K':Bool->Env->AV->Prop} (h:TV E L R t g K) (hk:∀ R v,K g R v->K' g R v):TV E L R t g K':=by
 unfold TV at h ⊢;cases hl:lk L t with
 | some v=>rw [hl] at h;exact hk _ _ h
 | none =>
  rw [hl] at h;cases hq:lk R t with
  | some v=>rw [hq] at h;exact hk _ _ h
  | none=>rw [hq] at h;exact q7z h λ v q=>hk _ _ q
theorem q72 {x:bA} {g:Bool} {K K':Bool->AV->Prop} (h:OV E x g K) (hk:∀ v,K g v->K' g v):OV E x g K':=by
 cases x with
 | tmp t=>simp only [OV] at h ⊢;exact q7z h hk
 | const v=>exact hk _ h
 | cX b=>exact hk _ h
 | func f=>exact hk _ h
theorem xY {L R:Env} {x:bA} {g:Bool} {K K':Bool->AV->Prop} (h:CV E L R x g K) (hk:∀ v,K g v->K' g v):CV E L R x g K':=by
 cases x with
 | tmp t=>simp only [CV] at h ⊢;exact Mm h λ _ v=>hk v
 | const v=>exact hk _ h
 | cX b=>exact hk _ h
 | func f=>exact hk _ h
theorem Hv {L:Env} {g:Bool}:∀ {l:List bA} {R:Env} {K K':Bool->Env->List AV->Prop},pS E L l g R K->(∀ R vs,K g R vs->K' g R vs)->pS E L l g R K'
 | [],R,K,K',h,hk=>hk _ _ h
 | .tmp t::xs,R,K,K',h,hk=>Mm (K:=λ g R v=>pS E L xs g R λ g R vs=>K g R (v::vs)) (K':=λ g R v=>pS E L xs g R λ g R vs=>K' g R (v::vs)) h λ R v q=>Hv (K:=λ g R vs=>K g R (v::vs)) (K':=λ g R vs=>K' g R (v::vs)) q λ R vs=>hk _ _
 | .const v::xs,R,K,K',h,hk=>Hv (l:=xs) (K:=λ g R vs=>K g R (v::vs)) (K':=λ g R vs=>K' g R (v::vs)) h λ R vs=>hk _ _
 | .cX v::xs,R,K,K',h,hk=>Hv (l:=xs) (K:=λ g R vs=>K g R (.ptr v 0::vs)) (K':=λ g R vs=>K' g R (.ptr v 0::vs)) h λ R vs=>hk _ _
 | .func v::xs,R,K,K',h,hk=>Hv (l:=xs) (K:=λ g R vs=>K g R (.fn (.func v) [] []::vs)) (K':=λ g R vs=>K' g R (.fn (.func v) [] []::vs)) h λ R vs=>hk _ _
theorem q73 (hq:∀ e E D H,Q e E D H->Q' e E D H) {ps:Option (List Nat)} {ks:List Nat} {c:aC} {H:AHeap} (h:PX ps ks Q E D c H):PX ps ks Q' E D c H:=by
 cases ps with
 | none=>exact h
 | some _=>exact hq _ _ _ _ h
theorem Jm (hq:∀ e E D H,Q e E D H->Q' e E D H) {ps:Option (List Nat)} {L:Env} {g:Bool} {f:eX} {vs:List AV} {H:AHeap} {K K':Bool->AV->AHeap->Prop} (h:uM M ct ps L Q E D g f vs H K) (hk:∀ v H,K g v H->K' g v H):uM M ct ps L Q' E D g f vs H K':=by
 cases ct with
 | false=>obtain ⟨v,H',h1,h2⟩:=h;exact ⟨v,H',h1,hk _ _ h2⟩
 | true =>
  obtain ⟨e,H',h1,h2⟩:=h;refine ⟨e,H',h1,?_⟩;cases e with
  | ret v=>exact hk _ _ h2
  | panic c=>exact q73 hq h2
theorem rD (hq:∀ e E D H,Q e E D H->Q' e E D H) {s:aU} {K K':KR} {g:Bool} {L R:Env} {H:AHeap} (h:wL M ct s Q E D K g L R H) (hk:∀ L R H,K g L R H->K' g L R H):wL M ct s Q' E D K' g L R H:=by
 refine Hv (show pS E L s.args g R _ from h) λ R vs h=>?_;obtain ⟨eB,dst,guard,args,op,ps⟩:=s;cases eB with
 | true =>
  have h:IW dst E L R H K g vs op:=h;show IW dst E L R H K' g vs op;cases op with
  | read f =>
   cases dst with
   | none=>exact h
   | some d=>exact ⟨h.1,hk _ _ _ h.2⟩
  | _=>exact h
 | false =>
  have h:nT M ct dst ps Q E D L R H K g vs op:=h;show nT M ct dst ps Q' E D L R H K' g vs op;cases op with
  | pure f=>simp only [nT] at h ⊢;exact Jf h λ a=>hk _ _ _
  | read f=>simp only [nT] at h ⊢;exact Jf h λ a=>hk _ _ _
  | alloc f=>simp only [nT] at h ⊢;exact q4v h λ a b=>hk _ _ _
  | eD f=>simp only [nT] at h ⊢;exact q4v h λ a b=>hk _ _ _
  | eC f=>exact Jm hq h λ v H=>hk _ _ _
  | eh =>
   simp only [nT,V3] at h ⊢;split at h
   ·exact Jm hq h λ v H=>hk _ _ _
   ·exact Jm hq h λ v H=>hk _ _ _
   ·exact h.elim
  | invoke n =>
   simp only [nT,N3] at h ⊢;split at h
   ·exact Jf h λ a q=>Jm hq q λ v H=>hk _ _ _
   ·exact h.elim
  | recover=>exact h
  | defer=>exact h
  | panic =>
   cases ct with
   | false=>exact h
   | true =>
    have h:dS vs H (PX ps (iz L) Q E D):=h;show dS vs H (PX ps (iz L) Q' E D);unfold dS at h ⊢;split at h
    ·exact q73 hq h
    ·exact h.elim
theorem LI (hq:∀ e E D H,Q e E D H->Q' e E D H) {K K':KR} {g:Bool} (hk:∀ L R H,K g L R H->K' g L R H):∀ {l:List aU} {L R:Env} {H:AHeap},jE M ct Q E D K l g L R H->jE M ct Q' E D K' l g L R H
 | [],L,R,H,h=>hk _ _ _ h
 | s::l,L,R,H,h=>rD hq (show wL M ct s Q E D (jE M ct Q E D K l) g L R H from h) λ L R H=>LI hq hk
theorem Mr:∀ (n:Nat) {f f':List AV->AHeap->Prop},(∀ vs H,f vs H->f' vs H) -> ∀ (l:List AV) (H:AHeap),jN n (kB n f) l H->jN n (kB n f') l H
 | 0,f,f',hf,l,H,h=>hf [] H h
 | n+1,f,f',hf,[],H,h=>h
 | n+1,f,f',hf,v::l,H,h=>Mr n (f:=λ l=>f (v::l)) (f':=λ l=>f' (v::l)) (λ vs H=>hf _ _) l H h
theorem uf (hq:∀ e E D H,Q e E D H->Q' e E D H) {x:wY} {K K':KR} {g:Bool} (hk:∀ L R H,K g L R H->K' g L R H) {L R:Env} {H:AHeap} (h:JQ M ct Q E D x K g L R H):JQ M ct Q' E D x K' g L R H:=by
 obtain ⟨q,l⟩:=x;cases q with
 | none=>exact LI hq hk (show jE M ct Q E D K l g L R H from h)
 | some q =>
  cases ho:po q.1 l with
  | false =>
   have h:cond (po q.1 l) _ False:=h;rw [ho] at h;exact h.elim
  | true =>
   have h:cond (po q.1 l) _ False:=h;rw [ho,xh] at h;show cond (po q.1 l) _ False;rw [ho,xh];refine Mm h λ R1 v h=>?_;have h:B3 g (aw q.2 (some v)) λ g w=>bZ g w (λ g=>jE M ct Q E D (λ g L' _ H=>jN (cu (bl l [])) (kB (cu (bl l [])) λ vs H=>K g (fZ (bl l []) L vs) R1 H) (lS (cu (bl l [])) L') H) l g L R1 H)
    (λ g=>jN (cu (bl l [])) (kB (cu (bl l [])) λ vs H=>K g (fZ (bl l []) L vs) R1 H) (mH (cu (bl l []))) H):=h
   refine Jf (K':=λ g w=>bZ g w (λ g=>jE M ct Q' E D (λ g L' _ H=>jN (cu (bl l [])) (kB (cu (bl l [])) λ vs H=>K' g (fZ (bl l []) L vs) R1 H) (lS (cu (bl l [])) L') H) l g L R1 H)
    (λ g=>jN (cu (bl l [])) (kB (cu (bl l [])) λ vs H=>K' g (fZ (bl l []) L vs) R1 H) (mH (cu (bl l []))) H)) h λ w h=>?_
   cases w with
   | true=>exact LI hq (λ L' R H h=>Mr _ (λ vs H=>hk _ _ _) _ _ h) (show jE M ct Q E D _ l g L R1 H from h)
   | false=>exact Mr _ (λ vs H=>hk _ _ _) _ _ h
theorem J4 (hq:∀ e E D H,Q e E D H->Q' e E D H) {l:List aU} {K K':KR} {g:Bool} (hk:∀ L R H,K g L R H->K' g L R H) {H:AHeap} (h:lK M ct Q E D l g H K):lK M ct Q' E D l g H K':=by
 unfold lK at h ⊢;generalize C1 l=gs at h ⊢;generalize ([]:Env)=L at h ⊢;have key:∀ (gs:List wY) (L R:Env) (H:AHeap),qD M ct Q E D K gs g L R H->qD M ct Q' E D K' gs g L R H:=by
  intro gs
  induction gs with
  | nil=>exact λ L R H h=>hk _ _ _ h
  | cons x gs ih=>exact λ L R H h=>uf hq ih (show JQ M ct Q E D x (qD M ct Q E D K gs) g L R H from h)
 exact key gs L L H h
theorem xU {K:Kp}:∀ (n:Nat) (c:ah),c9 c<=n -> ∀ {g:Bool} {Q Q':aH} {E:Env} {D:List aO} {H:AHeap},(∀ e E D H,Q e E D H->Q' e E D H)->W3 M ctx K c g Q E D H->W3 M ctx K c g Q' E D H:=by
 intro n
 induction n with
 | zero =>
  intro c hc g Q Q' E D H hq h;cases c with
  | region l=>exact J4 hq (λ L R H h=>hq _ _ _ _ h) h
  | rangeFunc f k =>
   have h:OV E f g λ g v=>fh M K.ae ctx k E D H Q v:=h;show OV E f g λ g v=>fh M K.ae ctx k E D H Q' v;have key:∀ v,fh M K.ae ctx k E D H Q v->fh M K.ae ctx k E D H Q' v:=λ v h tm up he=>by
    have:=h tm up he;unfold BA at this ⊢;split
    ·rename_i hr;rw [hr] at this;exact FQ this λ e st ⟨h1,h2,h3⟩=>⟨h1,h2,hq _ _ _ _ h3⟩
    ·rename_i l hr;rw [hr] at this;exact wQ (m:=aA) this λ d q=>FQ q λ e st ⟨h1,h2,h3⟩=>⟨h1,h2,hq _ _ _ _ h3⟩
   exact q72 h key
  | skip=>exact hq _ _ _ _ h
  | label _=>exact hq _ _ _ _ h
  | exit _=>exact hq _ _ _ _ h
  | goto _=>exact hq _ _ _ _ h
  | ret=>exact hq _ _ _ _ h
  | stuck=>exact h
  | seq _ _=>simp [c9] at hc
  | cond _ _ _=>simp [c9] at hc
  | block _ _=>simp [c9] at hc
  | loop _ _=>simp [c9] at hc
  | scope _=>simp [c9] at hc
 | succ n ih =>
  intro c hc g Q Q' E D H hq h;have sq:∀ {b:ah},c9 b<=n -> ∀ e E D H,ak (W3 M ctx K b) Q e E D H->ak (W3 M ctx K b) Q' e E D H:=λ hb e E D H h=>by
   cases e with
   | normal=>exact ih _ hb hq h
   | _=>exact hq _ _ _ _ h
  cases c with
  | seq a b =>
   have hab:c9 a+c9 b<=n:=by simp only [c9] at hc;omega
   have gen:W3 M ctx K a g (ak (W3 M ctx K b) Q) E D H->W3 M ctx K a g (ak (W3 M ctx K b) Q') E D H:=λ h=>ih a (by omega) (sq (by omega)) h;cases a with
   | region l =>
    have plain:(lK M K.ct Q E D l g H λ g L _ H=>W3 M ctx K b g Q (cU K.ae E L) D H)->lK M K.ct Q' E D l g H λ g L _ H=>W3 M ctx K b g Q' (cU K.ae E L) D H:=λ h=>J4 hq (λ L R H h=>ih b (by omega) hq h) h;have cv:∀ {L R:Env} {c:bA} {A B A' B':Bool->Prop},CV E L R c g (λ g v=>br g v A B)->(A g->A' g)->(B g->B' g)->CV E L R c g (λ g v=>br g v A' B'):=λ {L R c A B A' B'} h ha hb=>by
     exact xY h λ v h=>q4x h ha hb
    cases b with
    | cond c x y =>
     have hxy:c9 x+c9 y+1<=n:=by simp only [c9] at hab;omega
     exact J4 hq (λ L R H h=>cv h (ih x (by omega) hq) (ih y (by omega) hq)) h
    | seq b1 r =>
     cases b1 with
     | cond c x y =>
      have hxy:c9 x+c9 y+1+c9 r+1<=n:=by simp only [c9] at hab;omega
      exact J4 hq (λ L R H h=>cv h (ih x (by omega) (sq (by omega))) (ih y (by omega) (sq (by omega)))) h
     | _=>exact plain h
    | _=>exact plain h
   | _=>exact gen h
  | cond c x y =>
   have hab:c9 x+c9 y<=n:=by simp only [c9] at hc;omega
   have h:OV E c g λ g v=>br g v (λ g=>W3 M ctx K x g Q E D H) (λ g=>W3 M ctx K y g Q E D H):=h;exact q72 (K':=λ g v=>br g v (λ g=>W3 M ctx K x g Q' E D H) (λ g=>W3 M ctx K y g Q' E D H)) h λ v h=>q4x h (ih x (by omega) hq) (ih y (by omega) hq)
  | block id b =>
   have hb:c9 b<=n:=by simp only [c9] at hc;omega
   exact ih b hb (λ e E D H h=>by cases e<;>exact hq _ _ _ _ h) h
  | scope b =>
   have hb:c9 b<=n:=by simp only [c9] at hc;omega
   exact ih b hb (λ e E D H h=>by cases e<;>first|exact hq _ _ _ _ h|exact ⟨h.1,hq _ _ _ _ h.2⟩) h
  | loop ae b =>
   have hb:c9 b<=n:=by simp only [c9] at hc;omega
   cases ae with
   | some _=>exact h
   | none =>
    obtain ⟨I,h0,h1⟩:=h;exact ⟨I,h0,λ n E D H hi=>ih b hb (λ e E D H h=>by cases e<;>first|exact h|exact hq _ _ _ _ h) (h1 n E D H hi)⟩
  | _=>exact ih _ (zp _) hq h
end
theorem W.mono {M:aL} {ctx:Ctx} {p:Kp × ah} {g:Bool} {Q Q':aH} {E:Env} {D:List aO} {H:AHeap} (h:W M ctx p g Q E D H) (hq:∀ e E D H,Q e E D H->Q' e E D H):W M ctx p g Q' E D H:=by
 rw [jC] at h ⊢;exact xU _ p.2 (qh _) hq h
end Go.Am
namespace Go.Am
noncomputable section
variable (X:WX) (Q:aH) (E:Env) (D:List aO) (H:AHeap) (I:D5) (n:Nat)
theorem q3f:ak X Q .normal E D H=X true Q E D H:=propext j3
theorem rX:ak X Q .ret E D H=Q .ret E D H:=propext j3
theorem q74 (l:Nat):ak X Q (.exit l) E D H=Q (.exit l) E D H:=propext j3
theorem q75 (l:Nat):ak X Q (.goto l) E D H=Q (.goto l) E D H:=propext j3
theorem q6e (c:aC):ak X Q (.panic c) E D H=Q (.panic c) E D H:=propext j3
theorem q29 (i:Nat):aI i Q .normal E D H=Q .normal E D H:=propext j3
theorem uR (i:Nat):aI i Q .ret E D H=Q .ret E D H:=propext j3
theorem q7s (i l:Nat):aI i Q (.goto l) E D H=Q (.goto l) E D H:=propext j3
theorem q53 (i:Nat) (c:aC):aI i Q (.panic c) E D H=Q (.panic c) E D H:=propext j3
theorem q7r (i l:Nat):aI i Q (.exit l) E D H=if i=l then Q .normal E D H else Q (.exit l) E D H:=by
 show Q (cond (Nat.beq i l) .normal (.exit l)) E D H=_
 by_cases h:i=l
 ·subst h;simp
 ·rw [qd h,EG h];rfl
section
variable (M:aL) (rs:List cP) (Q:bo->AHeap->Prop) (P:List AV->Prop) (R:AV->AHeap->Prop)
theorem ta:aM M rs Q .ret E [] H=dn E H rs λ l=>Q (.ret (c6 l)) H:=propext j3
theorem q3c:aM M rs Q .normal E [] H=dn E H rs λ l=>Q (.ret (c6 l)) H:=propext j3
theorem q59 (c:aC):aM M rs Q (.panic c) E [] H=Q (.panic c) H:=propext j3
theorem sA:dn E H [] P=P []:=propext j3
theorem tB (t:Nat):dn E H (.tmp t::rs) P=LK true (lk E t) λ _ v=>dn E H rs λ vs=>P (v::vs):=propext j3
theorem q6c (t:Nat):dn E H (.gB t::rs) P=LK true (lk E t) λ _ v=>B3 true (Op.aa [v] H) λ _ v=>dn E H rs λ vs=>P (v::vs):=propext j3
theorem q6d (n t:Nat):dn E H (.bY n t::rs) P=LK true (lk E t) λ _ v=>B3 true (Op.ao n [v] H) λ _ v=>dn E H rs λ vs=>P (v::vs):=propext j3
theorem wX (v:AV):lF R (.ret v) H=R v H:=propext j3
end
theorem AU:((0:Nat):Int)=0:=rfl
theorem xz (l:List AV):AV.cells (.agg l)=l:=rfl
theorem q8j (k:IntKind) (n:Int):AV.cells (.int k n)=[.int k n]:=rfl
theorem q6o (b:Bool):AV.cells (.bool b)=[.bool b]:=rfl
theorem q8l (s:List UInt8):AV.cells (.str s)=[.str s]:=rfl
theorem q8k (b o:Nat):AV.cells (.ptr b o)=[.ptr b o]:=rfl
def rj (I:Nat->Env->AHeap->Prop) (D:List aO) (n:Nat) (Q:aH):aH:=λ e E D' H=>match e with
 | .normal=>D'=D /\ ∃ m E',I m E' H/\mV E' E/\m<n
 | e=>Q e E D' H
theorem bn.intro {M:aL} {ctx:Ctx} {p:Kp × ah} {Q:aH} {E:Env} {D:List aO} {H:AHeap} (I:Nat->Env->AHeap->Prop) (h0:∃ n E0,I n E0 H/\mV E0 E) (h:∀ n E H,I n E H->W M ctx p true (rj I D n Q) E D H):bn (W M ctx p) Q E D H:=by
 obtain ⟨n,E0,h1,h2⟩:=h0;refine ⟨λ n E D' H=>D'=D/\I n E H,⟨n,E0,⟨rfl,h1⟩,h2.ss⟩,λ n E D' H ⟨e,hi⟩=>?_⟩;subst e;refine W.mono (h n E H hi) λ e E D'' H hq=>?_;cases e with
 | normal=>obtain ⟨q,m,E',a,b,c⟩:=hq;exact ⟨m,E',⟨q,a⟩,b.ss,c⟩
 | _=>exact hq
def yJ (P:Env->List aO->AHeap->Prop) (Q:aH):aH:=λ e E D H=>match e with
 | .normal=>P E D H
 | e=>Q e E D H
theorem q6a (P:Env->List aO->AHeap->Prop) (Q:aH) (E:Env) (D:List aO) (H:AHeap):yJ P Q .normal E D H=P E D H:=propext j3
theorem xT (P:Env->List aO->AHeap->Prop) (Q:aH) (E:Env) (D:List aO) (H:AHeap):yJ P Q .ret E D H=Q .ret E D H:=propext j3
theorem uZ (P:Env->List aO->AHeap->Prop) (Q:aH) (E:Env) (D:List aO) (H:AHeap) (l:Nat):yJ P Q (.exit l) E D H=Q (.exit l) E D H:=propext j3
def LN (X:WX) (Q:aH):Nat->Env->List aO->AHeap->Prop
 | 0,_,_,_=>False
 | n+1,E,D,H=>X true (yJ (LN X Q n) Q) E D H
theorem xD (X:WX) (Q:aH) (n:Nat) (E:Env) (D:List aO) (H:AHeap):LN X Q (n+1) E D H=X true (yJ (LN X Q n) Q) E D H:=propext j3
theorem q6b (I:Nat->Env->AHeap->Prop) (D:List aO) (n:Nat) (Q:aH) (E:Env) (H:AHeap):rj I D n Q .normal E D H = ∃ m E',I m E' H/\mV E' E/\m<n:=propext ⟨λ h=>h.2,λ h=>⟨rfl,h⟩⟩
theorem yO (I:Nat->Env->AHeap->Prop) (D D':List aO) (n:Nat) (Q:aH) (E:Env) (H:AHeap):rj I D n Q .ret E D' H=Q .ret E D' H:=propext j3
theorem tA (I:Nat->Env->AHeap->Prop) (D D':List aO) (n:Nat) (Q:aH) (E:Env) (H:AHeap) (l:Nat):rj I D n Q (.exit l) E D' H=Q (.exit l) E D' H:=propext j3
theorem tO (I:Nat->Env->AHeap->Prop) (D D':List aO) (n:Nat) (Q:aH) (E:Env) (H:AHeap) (l:Nat):rj I D n Q (.goto l) E D' H=Q (.goto l) E D' H:=propext j3
theorem q70 (I:Nat->Env->AHeap->Prop) (D D':List aO) (n:Nat) (Q:aH) (E:Env) (H:AHeap) (c:aC):rj I D n Q (.panic c) E D' H=Q (.panic c) E D' H:=propext j3
theorem HP:(∀ {α:Type} (a:α) (K:Bool -> α->Prop),LK true (some a) K=K true a)/\(∀ {α:Type} (a:α) (K:Bool -> α->Prop),B3 true (some a) K=K true a)/\(∀ {α β:Type} (a:α) (b:β) (K:Bool -> α -> β->Prop),aX true (some (a,b)) K=K true a b)/\(∀ (A B:Bool->Prop),br true (AV.bool true) A B=A true)/\(∀ (A B:Bool->Prop),br true (AV.bool false) A B=B true)/\(∀ (A B:Bool->Prop),bZ true true A B=A true)/\(∀ (A B:Bool->Prop),bZ true false A B=B true)/\(∀ (v:AV) (K:Bool->Prop),tE true (some v) (some v) K=K true)/\(∀ (e:Nat) (z:List AV) (H:AHeap) (K:Bool->AV->AHeap->Prop),A3 true e z H K=K true (AV.ptr H.next 0) (H.alloc (bJ.row z e (0,0) true)))/\(∀ {α:Type} (F:α->Prop) (K:α),JN F K=F K)/\(∀ (Q:aH) (e:aE) (E:Env) (D:List aO) (H:AHeap),az true Q e E D H=Q e E D H)/\(∀ (g:Nat) (first cap args:List AV) (K:Bool->eX->List AV->Prop),V3 true (AV.fn (eX.func g) first cap::args) K=K true (eX.func g) (first++(args++cap)))/\(∀ (l:Nat) (first args:List AV) (K:Bool->eX->List AV->Prop),V3 true (AV.fn (eX.yield l) first []::args) K=K true (eX.yield l) (first++args))/\(∀ (M:aL) (name:String) (t:Nat) (v:AV) (args:List AV) (K:Bool->eX->List AV->Prop),N3 M true name (AV.iface t v::args) K=B3 true (M.lf t name) λ m g=>K m (eX.func g) (v::args))/\(∀ (k t:Nat) (v:AV) (E:Env),lk ((k,v)::E) t=if k=t then some v else lk E t)/\(∀ (t:Nat),lk [] t=none)/\(∀ (k:Nat) (v:AV) (r E:Env),mV ((k,v)::r) E=(lk E k=some v/\mV r E))/\(∀ (E:Env),mV [] E=True)/\(∀ (X:WX) (Q:aH) (E:Env) (D:List aO) (H:AHeap),ak X Q aE.normal E D H=X true Q E D H)/\(∀ (X:WX) (Q:aH) (E:Env) (D:List aO) (H:AHeap),ak X Q aE.ret E D H=Q aE.ret E D H)/\(∀ (X:WX) (Q:aH) (E:Env) (D:List aO) (H:AHeap) (l:Nat),ak X Q (aE.exit l) E D H=Q (aE.exit l) E D H)/\(∀ (X:WX) (Q:aH) (E:Env) (D:List aO) (H:AHeap) (l:Nat),ak X Q (aE.goto l) E D H=Q (aE.goto l) E D H)/\(∀ (X:WX) (Q:aH) (E:Env) (D:List aO) (H:AHeap) (c:aC),ak X Q (aE.panic c) E D H=Q (aE.panic c) E D H)/\(∀ (Q:aH) (E:Env) (D:List aO) (H:AHeap) (i:Nat),aI i Q aE.normal E D H=Q aE.normal E D H)/\(∀ (Q:aH) (E:Env) (D:List aO) (H:AHeap) (i:Nat),aI i Q aE.ret E D H=Q aE.ret E D H)/\(∀ (Q:aH) (E:Env) (D:List aO) (H:AHeap) (i l:Nat),aI i Q (aE.goto l) E D H=Q (aE.goto l) E D H)/\(∀ (Q:aH) (E:Env) (D:List aO) (H:AHeap) (i:Nat) (c:aC),aI i Q (aE.panic c) E D H=Q (aE.panic c) E D H)/\(∀ (Q:aH) (E:Env) (D:List aO) (H:AHeap) (i l:Nat),aI i Q (aE.exit l) E D H=if i=l then Q aE.normal E D H else Q (aE.exit l) E D H)/\(∀ (P:Env->List aO->AHeap->Prop) (Q:aH) (E:Env) (D:List aO) (H:AHeap),yJ P Q aE.normal E D H=P E D H)/\(∀ (P:Env->List aO->AHeap->Prop) (Q:aH) (E:Env) (D:List aO) (H:AHeap),yJ P Q aE.ret E D H=Q aE.ret E D H)/\(∀ (P:Env->List aO->AHeap->Prop) (Q:aH) (E:Env) (D:List aO) (H:AHeap) (l:Nat),yJ P Q (aE.exit l) E D H=Q (aE.exit l) E D H)/\(∀ (X:WX) (Q:aH) (n:Nat) (E:Env) (D:List aO) (H:AHeap),LN X Q (n+1) E D H=X true (yJ (LN X Q n) Q) E D H)/\(∀ (I:Nat->Env->AHeap->Prop) (D:List aO) (n:Nat) (Q:aH) (E:Env) (H:AHeap),rj I D n Q aE.normal E D H = ∃ m E',I m E' H/\mV E' E/\m<n)/\(∀ (I:Nat->Env->AHeap->Prop) (D D':List aO) (n:Nat) (Q:aH) (E:Env) (H:AHeap),rj I D n Q aE.ret E D' H=Q aE.ret E D' H)/\(∀ (I:Nat->Env->AHeap->Prop) (D D':List aO) (n:Nat) (Q:aH) (E:Env) (H:AHeap) (l:Nat),rj I D n Q (aE.exit l) E D' H=Q (aE.exit l) E D' H)/\(∀ (I:Nat->Env->AHeap->Prop) (D D':List aO) (n:Nat) (Q:aH) (E:Env) (H:AHeap) (l:Nat),rj I D n Q (aE.goto l) E D' H=Q (aE.goto l) E D' H)/\(∀ (I:Nat->Env->AHeap->Prop) (D D':List aO) (n:Nat) (Q:aH) (E:Env) (H:AHeap) (c:aC),rj I D n Q (aE.panic c) E D' H=Q (aE.panic c) E D' H)/\(∀ (E:Env) (H:AHeap) (M:aL) (rs:List cP) (Q:bo->AHeap->Prop),aM M rs Q aE.ret E [] H=dn E H rs λ l=>Q (bo.ret (c6 l)) H)/\(∀ (E:Env) (H:AHeap) (M:aL) (rs:List cP) (Q:bo->AHeap->Prop),aM M rs Q aE.normal E [] H=dn E H rs λ l=>Q (bo.ret (c6 l)) H)/\(∀ (E:Env) (H:AHeap) (M:aL) (rs:List cP) (Q:bo->AHeap->Prop) (c:aC),aM M rs Q (aE.panic c) E [] H=Q (bo.panic c) H)/\(∀ (E:Env) (H:AHeap) (P:List AV->Prop),dn E H [] P=P [])/\(∀ (E:Env) (H:AHeap) (rs:List cP) (P:List AV->Prop) (t:Nat),dn E H (cP.tmp t::rs) P=LK true (lk E t) λ x v=>dn E H rs λ vs=>P (v::vs))/\(∀ (E:Env) (H:AHeap) (rs:List cP) (P:List AV->Prop) (t:Nat),dn E H (cP.gB t::rs) P=LK true (lk E t) λ x v=>B3 true (Op.aa [v] H) λ x v=>dn E H rs λ vs=>P (v::vs))/\(∀ (E:Env) (H:AHeap) (rs:List cP) (P:List AV->Prop) (n t:Nat),dn E H (cP.bY n t::rs) P=LK true (lk E t) λ x v=>B3 true (Op.ao n [v] H) λ x v=>dn E H rs λ vs=>P (v::vs))/\(∀ (H:AHeap) (R:AV->AHeap->Prop) (v:AV),lF R (bo.ret v) H=R v H)/\(∀ (E:Env) (K:Bool->AV->Prop) (n:Nat),Lz E n K=LK true (lk E n) K)/\(∀ (E:Env) (K:Bool->AV->Prop) (n:Nat),Ly true E n K=LK true (lk E n) K)/\(∀ (H:AHeap) (K:Bool->AV->Prop) (i:Nat) (a:AV),Fl true i a H K=B3 true (Op.fieldAddr i [a]) λ g x=>B3 g (Op.aa [x] H) K)/\(∀ (H:AHeap) (K:Bool->AV->Prop) (i:Nat) (a:AV),Nf true i a H K=B3 true (Op.nilCheck [a]) λ g x=>Fl g i x H K)/\(∀ (H:AHeap) (K2:Bool->AV->AHeap->Prop) (i:Nat) (a b:AV),Fs true i a b H K2=B3 true (Op.fieldAddr i [a]) λ g x=>aX g (Op.store 1 [x,b] H) K2)/\(∀ (H:AHeap) (K2:Bool->AV->AHeap->Prop) (i:Nat) (a b:AV),Ns true i a b H K2=B3 true (Op.nilCheck [a]) λ g x=>Fs g i x b H K2)/\(∀ (H:AHeap) (K:Bool->AV->Prop) (a b:AV),Xl true a b H K=B3 true (Op.aQ 1 [a,b]) λ g x=>B3 g (Op.aa [x] H) K)/\(∀ (H:AHeap) (K2:Bool->AV->AHeap->Prop) (a b c:AV),Xs true a b c H K2=B3 true (Op.aQ 1 [a,b]) λ g x=>aX g (Op.store 1 [x,c] H) K2)/\(∀ (K:Bool->AV->Prop) (o:BinOp) (a b:AV),Bn true o a b K=B3 true (Op.bin o [a,b]) K)/\(∀ (A B:Bool->Prop) (o:BinOp) (a b:AV),Cb true o a b A B=B3 true (Op.bin o [a,b]) λ g v=>br g v A B)/\(∀ (E:Env) (H:AHeap) (M:aL) (c:Ctx) (p:Kp × ah) (Q:aH) (D:List aO),Gt true M c p Q E D H=az true (ak (W M c p) Q) aE.normal E D H)/\c6 []=AV.tuple []/\(∀ (v:AV),c6 [v]=v) /\ ∀ (a b:AV) (l:List AV),c6 (a::b::l)=AV.tuple (a::b::l) :=
 And.intro @xC<|And.intro @xS<|And.intro @rQ<|And.intro ub<|And.intro q7x<|And.intro tv<|And.intro q7y<|And.intro Jv<|And.intro HV<|And.intro @qg<|And.intro t8 <|
 And.intro xZ<|And.intro tn<|And.intro sH<|And.intro oE<|And.intro sQ<|And.intro vJ<|And.intro yK <|
 And.intro q3f<|And.intro rX<|And.intro q74<|And.intro q75<|And.intro q6e<|And.intro q29<|And.intro uR<|And.intro q7s<|And.intro q53<|And.intro q7r <|
 And.intro q6a<|And.intro xT<|And.intro uZ<|And.intro xD<|And.intro q6b<|And.intro yO<|And.intro tA<|And.intro tO<|And.intro q70<|And.intro ta<|And.intro q3c<|And.intro q59<|And.intro sA<|And.intro tB<|And.intro q6c<|And.intro q6d <|
 And.intro wX<|And.intro Kt<|And.intro NF<|And.intro M8<|And.intro M9<|And.intro MX<|And.intro K3<|And.intro Nm<|And.intro MM<|And.intro N6<|And.intro N9<|And.intro LJ<|And.intro Kz<|And.intro Lv LB
theorem Hm:(∀ (v:AV),Op.move [v]=some v)/\(∀ (q:Bool) (a b:AV),Op.pick [AV.bool q,a,b]=some (bif q then a else b))/\(∀ (k:IntKind) (a b:Int),Op.bin BinOp.add [AV.int k a,AV.int k b]=some (AV.int k (aW k (a+b))))/\(∀ (k:IntKind) (a b:Int),Op.bin BinOp.sub [AV.int k a,AV.int k b]=some (AV.int k (aW k (a-b))))/\(∀ (k:IntKind) (a b:Int),Op.bin BinOp.mul [AV.int k a,AV.int k b]=some (AV.int k (aW k (a*b))))/\(∀ (k:IntKind) (a b:Int),Op.bin BinOp.eql [AV.int k a,AV.int k b]=some (AV.bool (decide (a=b))))/\(∀ (k:IntKind) (a b:Int),Op.bin BinOp.neq [AV.int k a,AV.int k b]=some (AV.bool (decide (a ≠ b))))/\(∀ (k:IntKind) (a b:Int),Op.bin BinOp.lss [AV.int k a,AV.int k b]=some (AV.bool (decide (a<b))))/\(∀ (k:IntKind) (a b:Int),Op.bin BinOp.leq [AV.int k a,AV.int k b]=some (AV.bool (decide (a<=b))))/\(∀ (k:IntKind) (a b:Int),Op.bin BinOp.gtr [AV.int k a,AV.int k b]=some (AV.bool (decide (b<a))))/\(∀ (k:IntKind) (a b:Int),Op.bin BinOp.geq [AV.int k a,AV.int k b]=some (AV.bool (decide (b<=a))))/\(∀ (k:IntKind) (a:Int) (k':IntKind),Op.wrap k [AV.int k' a]=some (AV.int k (aW k a)))/\(∀ (q:Bool),Op.un UnOp.not [AV.bool q]=some (AV.bool !q))/\(∀ (a b:List UInt8),Op.bin BinOp.eql [AV.str a,AV.str b]=some (AV.bool (decide (a=b))))/\(∀ (a b:List UInt8),Op.bin BinOp.neq [AV.str a,AV.str b]=some (AV.bool (decide (a ≠ b))))/\(∀ (s:List UInt8),Op.oU [AV.str s]=some (AV.int IntKind.i64 ↑s.length))/\(∀ (f n:Nat) (l:List AV),Op.cw f n l=some (AV.fn (eX.func f) (List.take n l) (List.drop n l)))/\(∀ (t:Nat) (v:AV),Op.pL t [v]=some (AV.iface t v))/\(∀ (off b o:Nat),Op.fieldAddr off [AV.ptr b o]=some (AV.ptr b (o+off)))/\(∀ (off:Nat) (l:List AV),Op.field off none [AV.agg l]=l[off]?)/\(∀ (q:Bool),aw true (some (AV.bool q))=some q)/\(∀ (q:Bool),aw false (some (AV.bool q))=some !q)/\(∀ (b:Bool),aw b (some AV.undef)=some false)/\(∀ (b:Nat),Op.ptrTo b=AV.ptr b 0)/\(∀ (l:List AV),(AV.agg l).cells=l)/\(∀ (k:IntKind) (n:Int),(AV.int k n).cells=[AV.int k n])/\(∀ (b:Bool),(AV.bool b).cells=[AV.bool b])/\(∀ (s:List UInt8),(AV.str s).cells=[AV.str s])/\(∀ (b o:Nat),(AV.ptr b o).cells=[AV.ptr b o])/\(∀ (h:Decidable True),decide True=true)/\(∀ (h:Decidable False),decide False=false)/\(!true)=false/\(!false)=true/\(¬True)=False/\(¬False)=True/\(∀ {α:Type} (a b:α),(a ≠ b) = ¬a=b)/\(∀ (p:Prop),(True/\p)=p)/\(∀ (p:Prop),(p/\True)=p)/\(∀ (p:Prop),(False/\p)=False)/\(∀ (p:Prop),(p/\False)=False)/\(∀ {α:Type} (a b:α),(bif true then a else b)=a)/\(∀ {α:Type} (a b:α),(bif false then a else b)=b)/\(∀ {α:Type} {β:Type} (a:α) (f:α->Option β),(some a).bind f=f a)/\(∀ (n:Nat),n+0=n)/\(∀ (n:Nat),0+n=n)/\(∀ {α:Type} {a:α} {l:List α},(a::l)[0]? = some a)/\(∀ {α:Type} {a:α} {i:Nat} {l:List α},(a::l)[i+1]? = l[i]?)/\(∀ {α:Type} (as:List α),[]++as=as) /\ ∀ {α:Type} {a:α} {as bs:List α},a::as++bs=a::(as++bs) :=
 And.intro CB<|And.intro BW<|And.intro @Hs<|And.intro @GC<|And.intro @Gx<|And.intro @GU<|And.intro @Ik<|And.intro @Ir<|And.intro @Gv<|And.intro @HH<|And.intro @Iz<|And.intro @Ck<|And.intro Iy <|
 And.intro Ee<|And.intro Db<|And.intro wD<|And.intro ug<|And.intro q9t<|And.intro q4d<|And.intro rE<|And.intro Ep<|And.intro yW<|And.intro zA<|And.intro GH <|
 And.intro xz<|And.intro q8j<|And.intro q6o<|And.intro q8l<|And.intro q8k<|And.intro @decide_true<|And.intro @decide_false<|And.intro Bool.not_true<|And.intro Bool.not_false<|And.intro not_true_eq_false<|And.intro not_false_eq_true<|And.intro @ne_eq<|And.intro qB<|And.intro mj<|And.intro false_and<|And.intro and_false <|
 And.intro @xh<|And.intro @zg<|And.intro @qm<|And.intro qe<|And.intro ko<|And.intro @jj<|And.intro @zu<|And.intro @zy @DH
theorem xe:type_of% AU/\type_of% HP/\type_of% Hm:=⟨AU,HP,Hm⟩
section
variable {α:Type} {enc:α->List AV} {e size:Nat} {H0 H H':AHeap} {v:AV} {xs:List α}
theorem mC.to3 {α β:Type} {m g:Bool} {o:Option (α × β)} {K:Bool -> α -> β->Prop} (h:mC m o λ _ a b=>K g a b):aX g o K:=by
 cases o with
 | none=>exact False.elim h
 | some a=>exact h
theorem q40 {H:AHeap} {e size bytes:Nat} {v:AV} {n:Nat} {cells:List AV} (h:Own H e size v n cells) {x:AV} {k:Nat} {new:List AV} (hx:Sl H size x k new) (hnew:aY new=true) (hs:0<size)
 (hf:(n+k)*bytes<=140737488355328) (hf':n+k<=140737488355328) {K:Bool->AV->AHeap->Prop} {m:Bool}
 (hk:∀ v' H',Own H' e size v' (n+k) (cells++new)->Fr (bC v) H H'->(∀ b,bC v' b->bC v b\/H.next<=b)->K m v' H'):aX m (Op.append e size bytes [v,x] H) K :=
 mC.to3 (m:=m) (qyc h hx hnew hs hf hf' hk)
theorem iC {H:AHeap} {e size bytes:Nat} {v:AV} {n:Nat} {cells:List AV} (h:Own H e size v n cells) {zero:List AV} {x:AV} (hz:zero.length=size) (hx:x.cells.length=size) (hnew:aY x.cells=true) (hs:0<size)
 (hf:(n+1)*bytes<=140737488355328) (hf':n+1<=140737488355328) {K:bJ->(Nat->AV)->Bool->AV->AHeap->Prop} {m:Bool}
 (hk:∀ v' H',Own H' e size v' (n+1) (cells++x.cells)->Fr (bC v) H H'->(∀ b,bC v' b->bC v b\/H.next<=b)->K (.row x.cells e (0,0) true) (Op.sliceTo 1 1) m v' H') :
 aX m (Op.buildSlice e 1 zero [(0,size)] [x]) λ g o mk=>aX g (Op.append e size bytes [v,mk H.next] (H.alloc o)) (K o mk):=by
 have:=yZ (m:=m) h hz hx hnew hs hf hf' (K:=λ o mk _ v H=>K o mk m v H) hk;obtain ⟨o,mk,h1,h2⟩:∃ o mk,Op.buildSlice e 1 zero [(0,size)] [x]=some (o,mk)/\mC true (Op.append e size bytes [v,mk H.next] (H.alloc o)) (λ _ v H=>K o mk m v H):=by
  unfold mC at this;split at this
  ·rename_i a ha;exact ⟨a.1,a.2,ha,this⟩
  ·exact this.elim
 refine aX.intro h1 ?_;unfold mC at h2;split at h2
 ·rename_i a ha;exact aX.intro (a:=a.1) (b:=a.2) ha h2
 ·exact h2.elim
end
end
end Go.Am
namespace Go.Am
abbrev OR (c:List AV) (e:Nat):bJ:=.row c e (0,0) true
theorem qf (b o:Nat):Op.nilCheck [.ptr b o]=some (.ptr b o):=rfl
theorem qo (i:Nat) (l:List AV):Op.extract i [.tuple l]=l[i]?:=q9s i l
abbrev WE (M:aL) (c:Ctx) (p:Kp × ah) (R:aH->Env->List aO->AHeap->Prop):Prop:=∀ Q E D H,W M c p true Q E D H=R Q E D H
end Go.Am
