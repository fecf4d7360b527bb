/- B4: Logic Logic2 Val Sim Val2 Val3 Iter Logic3 Logic4 Logic5 Mono3 Sim3 Mem3. -/
import Derived.Test.YtiibohocdbaekaaAmMB2
import Derived.Test.YtiibohocdbaekaaAmMB1
set_option linter.unusedVariables false
set_option linter.unusedSimpArgs false
namespace Go.Am
def aA:Bool:=true
def bq {α:Type} (m:Bool) (o:Option α) (K:α->Prop):Prop:=match o with
 | some a=>K a
 | none=>False
def eN {α β:Type} (m:Bool) (o:Option (α × β)) (K:α -> β->Prop):Prop:=match o with
 | some a=>K a.1 a.2
 | none=>False
def Dr (m:Bool) (q:Bool) (A B:Prop):Prop:=match q with
 | true=>A
 | false=>B
@[congr] theorem Eu {α:Type} {m m':Bool} {o o':Option α} {K:α->Prop} (hm:m=m') (h:o=o'):bq m o K=bq m' o' K:=by rw [h,hm]
@[congr] theorem BR {α β:Type} {m m':Bool} {o o':Option (α × β)} {K:α -> β->Prop} (hm:m=m') (h:o=o'):eN m o K=eN m' o' K:=by rw [h,hm]
@[congr] theorem Ga {m m' q q':Bool} {A B:Prop} (hm:m=m') (h:q=q'):Dr m q A B=Dr m' q' A B:=by rw [h,hm]
theorem bq.elim {α:Type} {m:Bool} {o:Option α} {K:α->Prop} (h:bq m o K):∃ a,o=some a/\K a:=by
 cases o with
 | none=>exact False.elim h
 | some a=>exact ⟨a,rfl,h⟩
theorem eN.elim {α β:Type} {m:Bool} {o:Option (α × β)} {K:α -> β->Prop} (h:eN m o K):∃ a b,o=some (a,b)/\K a b:=by
 cases o with
 | none=>exact False.elim h
 | some a=>exact ⟨a.1,a.2,rfl,h⟩
theorem bq.intro {α:Type} {m:Bool} {o:Option α} {K:α->Prop} {a:α} (h:o=some a) (hk:K a):bq m o K:=by subst h;exact hk
theorem eN.intro {α β:Type} {m:Bool} {o:Option (α × β)} {K:α -> β->Prop} {a:α} {b:β} (h:o=some (a,b)) (hk:K a b):eN m o K:=by subst h;exact hk
theorem Dr.cases {m:Bool} {q:Bool} {A B:Prop} (h1:q=true->A) (h2:q=false->B):Dr m q A B:=by
 cases q with
 | true=>exact h1 rfl
 | false=>exact h2 rfl
def asBool:AV->Option Bool
 | .bool q=>some q
 | _=>none
noncomputable section
structure aL where
 prog:fj
 told:bB
 mute:Nat->Bool
 ok:∀ f vs up H,mute f=false->told f vs up H=none
def aL.call (M:aL) (n:Nat):bB:=fF M.prog M.told n
def aL.func (M:aL) (f:Nat):Option av:=cond (M.mute f) none (M.prog.func f)
def aL.lM (M:aL):Nat->String->Option Nat:=M.prog.lM
theorem aL.pw {M:aL} {f:Nat} {fn:av} (h:M.func f=some fn):M.mute f=false/\M.prog.func f=some fn:=by
 unfold aL.func at h;cases hm:M.mute f with
 | true=>rw [hm] at h;cases h
 | false=>rw [hm] at h;exact ⟨rfl,h⟩
theorem aL.qB {M:aL} {f:Nat} (h:M.mute f=false) (n:Nat) (vs:List AV) (up:Option aC) (H:AHeap):M.call (n+1) f vs up H=yY M.prog (M.call n) n f vs up H:=by
 show (match M.told f vs up H with|some r=>some r|none=>yY M.prog (fF M.prog M.told n) n f vs up H)=_;rw [M.ok f vs up H h];rfl
variable (AP:aL)
def pq (n k:Nat) (ctx:Ctx):RT:=⟨AP.prog,AP.call n,rounds AP.prog (AP.call n) n k,n,ctx⟩
def m6 (f:Nat) (vs:List AV) (up:Option aC) (H:AHeap) (e:br) (up':Option aC) (H':AHeap):Prop:=∃ n0,∀ n,n0<=n->AP.call n f vs up H=some (e,up',H')
def iG (f:Nat) (vs:List AV) (H:AHeap) (e:br) (H':AHeap):Prop:=m6 AP f vs none H e none H'
def lT (l:Nat) (vs:List AV) (H:AHeap) (e:br) (H':AHeap):Prop:=∃ n0,∀ n k,n0<=n->n0<=k->rounds AP.prog (AP.call n) n k vs l H=some (e,H')
def nK:ff->List AV->AHeap->br->AHeap->Prop
 | .func g=>iG AP g
 | .yield l=>lT AP l
def ib (m:Bool) (f:ff) (vs:List AV) (H:AHeap) (K:AV->AHeap->Prop) (E:aC->AHeap->Prop):Prop :=
 ∃ e H',nK AP f vs H e H'/\match e with
  | .ret v=>K v H'
  | .panic c=>E c H'
@[congr] theorem Bw {AP:aL} {m m':Bool} {f:ff} {vs vs':List AV} {H:AHeap} {K:AV->AHeap->Prop} {E:aC->AHeap->Prop} (hm:m=m') (h:vs=vs'):ib AP m f vs H K E=ib AP m' f vs' H K E:=by rw [h,hm]
def DJ (m:Bool) (vs:List AV) (K:ff->List AV->Prop):Prop:=match vs with
 | .fn (.func g) first cap::args=>K (.func g) (first++(args++cap))
 | .fn (.yield l) first []::args=>K (.yield l) (first++args)
 | _=>False
@[congr] theorem FH {m m':Bool} {vs vs':List AV} {K:ff->List AV->Prop} (hm:m=m') (h:vs=vs'):DJ m vs K=DJ m' vs' K:=by rw [h,hm]
def EF (m:Bool) (name:String) (vs:List AV) (K:ff->List AV->Prop):Prop:=match vs with
 | .iface t v::args=>bq aA (AP.lM t name) λ g=>K (.func g) (v::args)
 | _=>False
@[congr] theorem Gl {AP:aL} {m m':Bool} {name:String} {vs vs':List AV} {K:ff->List AV->Prop} (hm:m=m') (h:vs=vs'):EF AP m name vs K=EF AP m' name vs' K:=by rw [h,hm]
def jW (tm:T AV):List bA->(List AV->Prop)->Prop
 | [],K=>K []
 | .tmp t::xs,K=>bq aA (tm.get t) λ v=>jW tm xs λ vs=>K (v::vs)
 | .const v::xs,K=>jW tm xs λ vs=>K (v::vs)
 | .cY g::xs,K=>jW tm xs λ vs=>K (.ptr g 0::vs)
 | .func f::xs,K=>jW tm xs λ vs=>K (.fn (.func f) [] []::vs)
theorem jW.elim {tm:T AV}:∀ {l:List bA} {K:List AV->Prop},jW tm l K -> ∃ vs,gR tm l=some vs/\K vs
 | [],K,h=>⟨[],rfl,h⟩
 | .tmp t::xs,K,h=>by
  obtain ⟨v,hv,h⟩:=bq.elim (m:=aA) h;obtain ⟨vs,h1,h2⟩:=jW.elim h;exact ⟨v::vs,by simp [gR,lf,hv,h1],h2⟩
 | .const v::xs,K,h=>by
  obtain ⟨vs,h1,h2⟩:=jW.elim (l:=xs) h;exact ⟨v::vs,by simp [gR,lf,h1],h2⟩
 | .cY v::xs,K,h=>by
  obtain ⟨vs,h1,h2⟩:=jW.elim (l:=xs) h;exact ⟨_,by simp [gR,lf,h1],h2⟩
 | .func v::xs,K,h=>by
  obtain ⟨vs,h1,h2⟩:=jW.elim (l:=xs) h;exact ⟨_,by simp [gR,lf,h1],h2⟩
def wR (tm:T AV) (x:bA) (K:AV->Prop):Prop:=match x with
 | .tmp t=>bq aA (tm.get t) K
 | .const v=>K v
 | .cY g=>K (.ptr g 0)
 | .func f=>K (.fn (.func f) [] [])
theorem wR.elim {tm:T AV} {x:bA} {K:AV->Prop} (h:wR tm x K):∃ v,lf tm x=some v/\K v:=by
 cases x with
 | tmp t=>exact bq.elim (m:=aA) h
 | const v=>exact ⟨v,rfl,h⟩
 | cY v=>exact ⟨_,rfl,h⟩
 | func v=>exact ⟨_,rfl,h⟩
abbrev bU:=aE->St->Prop
def wJ (ps:Option (List Nat)) (tm:T AV) (aR:List aM) (up:Option aC) (Q:bU) (c:aC) (H:AHeap):Prop:=match ps with
 | some ds=>Q (.panic c) ⟨forget ds tm,aR,up,H⟩
 | none=>False
def nM (m:Bool) (ctx:Ctx) (up:Option aC) (K:AV->Option aC->Prop):Prop:=ctx.round=none/\match up with
 | some ((v,false)::older)=>K v (some ((v,true)::older))
 | _=>K .nili up
@[congr] theorem Bf {m m':Bool} {ctx:Ctx} {up up':Option aC} {K:AV->Option aC->Prop} (hm:m=m') (h:up=up'):nM m ctx up K=nM m' ctx up' K:=by rw [h,hm]
def uy (m:Bool) (ctx:Ctx) (vs:List AV) (aR:List aM) (K:List aM->Prop):Prop:=ctx.round=none/\match vs with
 | .fn (.func f) first cap::args=>K (.fn (.func f) (first++(args++cap))::aR)
 | _=>False
@[congr] theorem Ei {m m':Bool} {ctx:Ctx} {vs vs':List AV} {aR:List aM} {K:List aM->Prop} (hm:m=m') (h:vs=vs'):uy m ctx vs aR K=uy m' ctx vs' aR K:=by rw [h,hm]
def dT (vs:List AV) (H:AHeap) (E:aC->AHeap->Prop):Prop:=match vs with
 | [.iface t v]=>E [(.iface t v,false)] H
 | _=>False
@[congr] theorem xX {vs vs':List AV} {H:AHeap} {E:aC->AHeap->Prop} (h:vs=vs'):dT vs H E=dT vs' H E:=by rw [h]
def jY (ctx:Ctx) (dst:Option Nat) (ps:Option (List Nat)) (st:St) (Q:bU) (K:St->Prop) (vs:List AV):dD->Prop
 | .pure f=>bq aA (f vs) λ v=>K ⟨cO dst v st.tm,st.aR,st.up,st.H⟩
 | .read f=>bq aA (f vs st.H) λ v=>K ⟨cO dst v st.tm,st.aR,st.up,st.H⟩
 | .alloc f=>eN aA (f vs) λ o mk=>K ⟨cO dst (mk st.H.next) st.tm,st.aR,st.up,st.H.alloc o⟩
 | .eE f=>eN aA (f vs st.H) λ v H=>K ⟨cO dst v st.tm,st.aR,st.up,H⟩
 | .ew g=>ib AP aA (.func g) vs st.H (λ v H=>K ⟨cO dst v st.tm,st.aR,st.up,H⟩) (wJ ps st.tm st.aR st.up Q)
 | .eD=>DJ aA vs λ f vs=>ib AP aA f vs st.H (λ v H=>K ⟨cO dst v st.tm,st.aR,st.up,H⟩) (wJ ps st.tm st.aR st.up Q)
 | .invoke name=>EF AP aA name vs λ f vs=>ib AP aA f vs st.H (λ v H=>K ⟨cO dst v st.tm,st.aR,st.up,H⟩) (wJ ps st.tm st.aR st.up Q)
 | .recover=>match vs with
  | []=>nM aA ctx st.up λ v up=>K ⟨cO dst v st.tm,st.aR,up,st.H⟩
  | _=>False
 | .defer=>uy aA ctx vs st.aR λ aR=>K ⟨cO dst .undef st.tm,aR,st.up,st.H⟩
 | .panic=>dT vs st.H (wJ ps st.tm st.aR st.up Q)
def GX (dst:Option Nat) (st:St) (vs:List AV):dD->Prop
 | .read f=>match dst with
  | some d=>bq aA (f vs st.H) λ v=>bq aA (st.tm.get d) λ v'=>v=v'
  | none=>False
 | _=>False
def oH (ctx:Ctx) (s:aU) (st:St) (Q:bU) (K:St->Prop):Prop :=
 match s.eC with
 | false=>match s.guard with
  | none=>jW st.tm s.args λ vs=>jY AP ctx s.dst s.bN st Q K vs s.op
  | some g=>bq aA (aB g.2 (st.tm.get g.1)) λ w=>Dr aA w (jW st.tm s.args λ vs=>jY AP ctx s.dst s.bN st Q K vs s.op) (K ⟨cO s.dst .undef st.tm,st.aR,st.up,st.H⟩)
 | true=>match s.guard with
  | none=>jW st.tm s.args λ vs=>GX s.dst st vs s.op/\K st
  | some g=>bq aA (aB g.2 (st.tm.get g.1)) λ w=>Dr aA w (jW st.tm s.args λ vs=>GX s.dst st vs s.op/\K st) (s.dst.isSome=true/\K st)
def lh (ctx:Ctx):List aU->St->bU->Prop
 | [],st,Q=>Q .normal st
 | s::rest,st,Q=>oH AP ctx s st Q λ st'=>lh ctx rest st' Q
def Kx (W:St->bU->Prop) (Q:bU):bU:=λ e st=>match e with
 | .normal=>W st Q
 | e=>Q e st
def BLK (id:Nat) (Q:bU):bU:=λ e st=>match e with
 | .exit id'=>Q (cond (Nat.beq id id') .normal (.exit id')) st
 | e=>Q e st
def SCP (b:ah) (Q:bU):bU:=λ e st=>match e with
 | .goto l=>wG b l=false/\Q (.goto l) st
 | e=>Q e st
def fT (ae:Option (List Nat)) (st:St):St:=match ae with
 | none=>st
 | some ks=>{ st with tm:=Kh st.tm ks .nil }
def Dp (W:St->bU->Prop) (ae:Option (List Nat)) (st:St) (Q:bU):Prop :=
 ∃ I:Nat->St->Prop,(∃ n,I n st) /\ ∀ n st,I n st->W (fT ae st) λ e st'=>match e with
  | .normal=>∃ m,m<n/\I m st'
  | e=>Q e st'
def LG (st:St) (aR:List aM) (l:Nat) (Q:bU) (e:br) (H:AHeap):Prop:=match e with
 | .panic c=>Q (.panic c) { st with aR:=aR,H:=H }
 | .ret _=>∃ s p f k tm d,H.get l=some (.loop s p f k tm d)/\s ≠ .busy/\Q (kQ p) { st with aR:=aR,H:=H.set l (.loop .exhausted p f k tm d) }
def hZ (ctx:Ctx) (st:St) (k:Nat) (H0:AHeap) (aR:List aM) (d:Nat) (Q:bU):AV->Prop
 | .fn (.func g) first cap=>∃ e H',iG AP g (first++(.fn (.yield H0.next) [] []::cap)) (H0.alloc (.loop .ready none ctx.fn k st.tm d)) e H'/\LG st aR H0.next Q e H'
 | _=>False
def AR (ctx:Ctx) (k:Nat) (st:St) (Q:bU) (v:AV):Prop:=match ctx.round with
 | none=>hZ AP ctx st k (st.H.alloc (.deferred (some []))) (.eU st.H.next::st.aR) st.H.next Q v
 | some l=>bq aA (sg st.H l) λ d=>hZ AP ctx st k st.H st.aR d Q v
def WP (ctx:Ctx):ah->St->bU->Prop
 | .skip,st,Q=>Q .normal st
 | .label _,st,Q=>Q .normal st
 | .region steps,st,Q=>lh AP ctx steps st Q
 | .seq a b,st,Q=>WP ctx a st (Kx (WP ctx b) Q)
 | .cond c a b,st,Q=>wR st.tm c λ v=>bq aA (asBool v) λ q=>Dr aA q (WP ctx a st Q) (WP ctx b st Q)
 | .block id b,st,Q=>WP ctx b st (BLK id Q)
 | .loop ae b,st,Q=>Dp (WP ctx b) ae st Q
 | .exit id,st,Q=>Q (.exit id) st
 | .goto l,st,Q=>Q (.goto l) st
 | .ret,st,Q=>Q .ret st
 | .stuck,_,_=>False
 | .scope b,st,Q=>WP ctx b st (SCP b Q)
 | .rangeFunc f k,st,Q=>wR st.tm f λ v=>AR AP ctx k st Q v
section
variable (ctx:Ctx) (st:St) (Q:bU)
theorem Ls (s:aU) (l:List aU):lh AP ctx (s::l) st Q=oH AP ctx s st Q λ st'=>lh AP ctx l st' Q:=propext j2
end
def EX (ctx:Ctx) (c:ah) (st:St) (r:aE × St):Prop:=∃ n0,∀ n k,n0<=n->n0<=k->(bf c).run (pq AP n k ctx) st=some r
def EXS (ctx:Ctx) (l:List aU) (st:St) (r:aE × St):Prop:=∃ n0,∀ n k,n0<=n->n0<=k->(dV l).run (pq AP n k ctx) st=some r
theorem nK.run {AP:aL} {f:ff} {vs:List AV} {H:AHeap} {e:br} {H':AHeap} (h:nK AP f vs H e H') :
 ∃ n0,∀ n k,n0<=n->n0<=k->bT (AP.call n) (rounds AP.prog (AP.call n) n k) f vs H=some (e,H'):=by
 cases f with
 | func g=>obtain ⟨n0,h⟩:=h;exact ⟨n0,λ n k hn _=>by simp [bT,h n hn]⟩
 | yield l=>obtain ⟨n0,h⟩:=h;exact ⟨n0,λ n k hn hk=>by simp [bT,h n k hn hk]⟩
theorem qx7:(∀ v,bG v v=true)/\(∀ l,cZ l l=true):=by
 have e1:∀ n,Nat.beq n n=true:=λ n=>by simp
 have e2:∀ k,nR k k=true:=λ k=>by cases k<;>rfl
 have e3:∀ i,po i i=true:=λ i=>by rw [At];simp
 have e4:∀ s,rn s s=true:=λ s=>by rw [FF];simp
 refine ⟨λ v=>?_,λ l=>?_⟩
 ·refine AV.rec (motive_1:=λ v=>bG v v=true) (motive_2:=λ l=>cZ l l=true) ?_ ?_ ?_ ?_ ?_ ?_ ?_ ?_ ?_ ?_ ?_ ?_ ?_ ?_ ?_ ?_ ?_ ?_ ?_ v
  all_goals (intros;first|rfl|(simp only [bG,cZ,e1,e2,e3,e4,jf,beq_self_eq_true, *];done) | (rename_i f _ _ _ _;cases f<;>simp only [bG,cZ,e1,jf, *]))
 ·refine AV.rec_1 (motive_1:=λ v=>bG v v=true) (motive_2:=λ l=>cZ l l=true) ?_ ?_ ?_ ?_ ?_ ?_ ?_ ?_ ?_ ?_ ?_ ?_ ?_ ?_ ?_ ?_ ?_ ?_ ?_ l
  all_goals (intros;first|rfl|(simp only [bG,cZ,e1,e2,e3,e4,jf,beq_self_eq_true, *];done) | (rename_i f _ _ _ _;cases f<;>simp only [bG,cZ,e1,jf, *]))
theorem q7d (v:AV):bG v v=true:=qx7.1 v
theorem GX.run {d:Option Nat} {st:St} {vs:List AV} {op:dD} (h:GX d st vs op):∃ t,d=some t/\kO (T.iT (T.path t)).run st vs op=true:=by
 cases op with
 | read f =>
  cases d with
  | none=>exact False.elim h
  | some t =>
   refine ⟨t,rfl,?_⟩;obtain ⟨v,h1,h⟩:=bq.elim (m:=aA) h;obtain ⟨v',h2,h⟩:=bq.elim (m:=aA) h;subst h;have h2':(T.iT (T.path t)).run st.tm=some v:=by rw [T.fq];exact h2
   simp [kO,h1,h2',q7d]
 | _=>exact False.elim h
theorem jY.run {AP:aL} {ctx:Ctx} {dst:Option Nat} {ps:Option (List Nat)} {st:St} {Q:bU} {K:St->Prop} {vs:List AV} {op:dD} (h:jY AP ctx dst ps st Q K vs op)
 {kk:Nat->Nat->St->dL} (hK:∀ st,K st -> ∃ e st',Q e st' /\ ∃ n0,∀ n k,n0<=n->n0<=k->kk n k st=some (e,st')) :
 ∃ e st',Q e st' /\ ∃ n0,∀ n k,n0<=n->n0<=k->(kS (gH dst).run ps op).run (pq AP n k ctx) st (kk n k) vs=some (e,st'):=by
 have hp:∀ v tm,(gH dst).run v tm=cO dst v tm:=LW dst;have call:∀ {f vs},ib AP aA f vs st.H (λ v H=>K ⟨cO dst v st.tm,st.aR,st.up,H⟩) (wJ ps st.tm st.aR st.up Q) ->
  ∃ e st',Q e st' /\ ∃ n0,∀ n k,n0<=n->n0<=k->((bT (AP.call n) (rounds AP.prog (AP.call n) n k) f vs st.H).bind λ r=>dk (gH dst).run ps st (kk n k) r)=some (e,st'):=by
  rintro f vs ⟨e,H',h1,h⟩;obtain ⟨n0,h1⟩:=h1.run;cases e with
  | ret v =>
   obtain ⟨e,st',hq,n1,h2⟩:=hK _ h;refine ⟨e,st',hq,max n0 n1,λ n k hn hk=>?_⟩;rw [h1 n k (by omega) (by omega)]
   simpa [dk,hp] using h2 n k (by omega) (by omega)
  | panic c =>
   cases ps with
   | none=>exact False.elim h
   | some ds =>
    refine ⟨_,_,h,n0,λ n k hn hk=>?_⟩;rw [h1 n k (by omega) (by omega)];simp [dk]
 cases op with
 | pure f =>
  obtain ⟨v,h1,h⟩:=bq.elim (m:=aA) h;obtain ⟨e,st',hq,n1,h2⟩:=hK _ h;exact ⟨e,st',hq,n1,λ n k hn hk=>by simp [kS,vP,h1,hp,h2 n k hn hk]⟩
 | read f =>
  obtain ⟨v,h1,h⟩:=bq.elim (m:=aA) h;obtain ⟨e,st',hq,n1,h2⟩:=hK _ h;exact ⟨e,st',hq,n1,λ n k hn hk=>by simp [kS,uL,h1,hp,h2 n k hn hk]⟩
 | alloc f =>
  simp only [jY] at h;obtain ⟨o,mk,h1,h⟩:=eN.elim (m:=aA) h;obtain ⟨e,st',hq,n1,h2⟩:=hK _ h;exact ⟨e,st',hq,n1,λ n k hn hk=>by simp [kS,oz,h1,hp,h2 n k hn hk]⟩
 | eE f =>
  simp only [jY] at h;obtain ⟨o,mk,h1,h⟩:=eN.elim (m:=aA) h;obtain ⟨e,st',hq,n1,h2⟩:=hK _ h;exact ⟨e,st',hq,n1,λ n k hn hk=>by simp [kS,DR,h1,hp,h2 n k hn hk]⟩
 | ew f=>exact call h
 | eD =>
  simp only [jY,DJ] at h;split at h
  ·exact call h
  ·exact call h
  ·exact False.elim h
 | invoke name =>
  simp only [jY,EF] at h;split at h
  ·obtain ⟨g,hg,h⟩:=bq.elim (m:=aA) h;obtain ⟨e,st',hq,n1,h2⟩:=call h;exact ⟨e,st',hq,n1,λ n k hn hk=>by simpa [kS,mu,pq,(show AP.prog.lM _ name=some g from hg)] using h2 n k hn hk⟩
  ·exact False.elim h
 | recover =>
  simp only [jY] at h;split at h
  ·obtain ⟨hr,h⟩:=h;split at h
   ·rename_i v older hup;obtain ⟨e,st',hq,n1,h2⟩:=hK _ h;exact ⟨e,st',hq,n1,λ n k hn hk=>by simpa [kS,Jo,pq,hr,GU,hup,hp] using h2 n k hn hk⟩
   ·rename_i hup;obtain ⟨e,st',hq,n1,h2⟩:=hK _ h;refine ⟨e,st',hq,n1,λ n k hn hk=>?_⟩;have:GU (gH dst).run st=⟨cO dst .nili st.tm,st.aR,st.up,st.H⟩:=by
     unfold GU;split
     ·rename_i v older hu;exact (hup _ _ hu).elim
     ·rw [hp]
    simpa [kS,Jo,pq,hr,this] using h2 n k hn hk
  ·exact False.elim h
 | defer =>
  obtain ⟨hr,h⟩:=h;split at h
  ·obtain ⟨e,st',hq,n1,h2⟩:=hK _ h;exact ⟨e,st',hq,n1,λ n k hn hk=>by simpa [kS,pj,pq,hr,hp] using h2 n k hn hk⟩
  ·exact False.elim h
 | panic =>
  simp only [jY,dT] at h;split at h
  ·cases ps with
   | none=>exact False.elim h
   | some ds=>exact ⟨_,_,h,0,λ n k hn hk=>by simp [kS,oI,dk]⟩
  ·exact False.elim h
theorem oH.run {AP:aL} {ctx:Ctx} {s:aU} {st:St} {Q:bU} {K:St->Prop} (h:oH AP ctx s st Q K)
 {kk:Nat->Nat->St->dL} (hK:∀ st,K st -> ∃ e st',Q e st' /\ ∃ n0,∀ n k,n0<=n->n0<=k->kk n k st=some (e,st')) :
 ∃ e st',Q e st' /\ ∃ n0,∀ n k,n0<=n->n0<=k->(dJ s).run (pq AP n k ctx) (kk n k) st=some (e,st'):=by
 obtain ⟨eC,dst,guard,args,op,ps⟩:=s;have hp:∀ v tm,(gH dst).run v tm=cO dst v tm:=LW dst;have hc:∀ g,(T.iT (T.path g)).run st.tm=st.tm.get g:=λ g=>by rw [T.fq];rfl
 cases eC with
 | false =>
  cases guard with
  | none =>
   obtain ⟨vs,h1,h⟩:=jW.elim h;obtain ⟨e,st',hq,n0,h2⟩:=h.run hK;exact ⟨e,st',hq,n0,λ n k hn hk=>by simpa [dJ,yP,h1] using h2 n k hn hk⟩
  | some g =>
   obtain ⟨w,hw,h⟩:=bq.elim (m:=aA) h;cases w with
   | true =>
    obtain ⟨vs,h1,h⟩:=jW.elim h;obtain ⟨e,st',hq,n0,h2⟩:=h.run hK;exact ⟨e,st',hq,n0,λ n k hn hk=>by simpa [dJ,hc,hw,yP,h1] using h2 n k hn hk⟩
   | false =>
    obtain ⟨e,st',hq,n0,h2⟩:=hK _ h;exact ⟨e,st',hq,n0,λ n k hn hk=>by simpa [dJ,hc,hw,hp] using h2 n k hn hk⟩
 | true =>
  cases guard with
  | none =>
   obtain ⟨vs,h1,hk,h'⟩:=jW.elim h;obtain ⟨t,rfl,hk⟩:=hk.run;obtain ⟨e,st',hq,n0,h2⟩:=hK _ h';exact ⟨e,st',hq,n0,λ n k hn hkk=>by simpa [dJ,yP,h1,hk] using h2 n k hn hkk⟩
  | some g =>
   obtain ⟨w,hw,h⟩:=bq.elim (m:=aA) h;cases w with
   | true =>
    obtain ⟨vs,h1,hk,h'⟩:=jW.elim h;obtain ⟨t,rfl,hk⟩:=hk.run;obtain ⟨e,st',hq,n0,h2⟩:=hK _ h';exact ⟨e,st',hq,n0,λ n k hn hkk=>by simpa [dJ,hc,hw,yP,h1,hk] using h2 n k hn hkk⟩
   | false =>
    obtain ⟨hd,h⟩:=h;obtain ⟨e,st',hq,n0,h2⟩:=hK _ h;cases dst with
    | none=>cases hd
    | some d=>exact ⟨e,st',hq,n0,λ n k hn hkk=>by simpa [dJ,hc,hw] using h2 n k hn hkk⟩
theorem lh.run {AP:aL} {ctx:Ctx}:∀ {l:List aU} {st:St} {Q:bU},lh AP ctx l st Q -> ∃ e st',Q e st'/\EXS AP ctx l st (e,st')
 | [],st,Q,h=>⟨_,_,h,0,λ _ _ _ _=>rfl⟩
 | s::rest,st,Q,h=>by
  obtain ⟨e,st',hq,n0,h⟩:=oH.run (kk:=λ n k=>(dV rest).run (pq AP n k ctx)) h λ st' hs=>lh.run hs;exact ⟨e,st',hq,n0,h⟩
theorem uj {AP:aL} {ctx:Ctx} {ae:Option (List Nat)} {b:ah} {Q:bU} {I:Nat->St->Prop}
 (hb:∀ n st,I n st -> ∃ e st',(match e with | .normal=>∃ m,m<n/\I m st'|e=>Q e st')/\EX AP ctx b (fT ae st) (e,st')) :
 ∀ m n,n<=m -> ∀ st,I n st -> ∃ e st',Q e st' /\ ∃ n0 c,∀ n k,n0<=n->n0<=k -> ∀ c',c<=c'->dI ae ((bf b).run (pq AP n k ctx)) c' st=some (e,st'):=by
 intro m
 induction m with
 | zero =>
  intro n hn st hi;obtain ⟨e,st',h,n0,hx⟩:=hb n st hi;cases e with
  | normal=>obtain ⟨j,hj,_⟩:=h;omega
  | exit id=>exact ⟨_,_,h,n0,1,λ n k hn hk c' hc=>by obtain ⟨c,rfl⟩:∃ c,c'=c+1:=⟨c'-1,by omega⟩;have:=hx n k hn hk;cases ae<;>simp [dI,fT] at this ⊢<;>simp [this]⟩
  | goto l=>exact ⟨_,_,h,n0,1,λ n k hn hk c' hc=>by obtain ⟨c,rfl⟩:∃ c,c'=c+1:=⟨c'-1,by omega⟩;have:=hx n k hn hk;cases ae<;>simp [dI,fT] at this ⊢<;>simp [this]⟩
  | ret=>exact ⟨_,_,h,n0,1,λ n k hn hk c' hc=>by obtain ⟨c,rfl⟩:∃ c,c'=c+1:=⟨c'-1,by omega⟩;have:=hx n k hn hk;cases ae<;>simp [dI,fT] at this ⊢<;>simp [this]⟩
  | panic p=>exact ⟨_,_,h,n0,1,λ n k hn hk c' hc=>by obtain ⟨c,rfl⟩:∃ c,c'=c+1:=⟨c'-1,by omega⟩;have:=hx n k hn hk;cases ae<;>simp [dI,fT] at this ⊢<;>simp [this]⟩
 | succ m ih =>
  intro n hn st hi;obtain ⟨e,st',h,n0,hx⟩:=hb n st hi;cases e with
  | normal =>
   obtain ⟨j,hj,hi'⟩:=h;obtain ⟨e,st2,hq,n1,c,h2⟩:=ih j (by omega) st' hi';refine ⟨e,st2,hq,max n0 n1,c+1,λ n k hn hk c' hc=>?_⟩;obtain ⟨c'',rfl⟩:∃ c,c'=c+1:=⟨c'-1,by omega⟩
   have:=hx n k (by omega) (by omega);have h3:=h2 n k (by omega) (by omega) c'' (by omega);cases ae<;>simp [dI,fT] at this ⊢<;>simp [this,h3]
  | exit id=>exact ⟨_,_,h,n0,1,λ n k hn hk c' hc=>by obtain ⟨c,rfl⟩:∃ c,c'=c+1:=⟨c'-1,by omega⟩;have:=hx n k hn hk;cases ae<;>simp [dI,fT] at this ⊢<;>simp [this]⟩
  | goto l=>exact ⟨_,_,h,n0,1,λ n k hn hk c' hc=>by obtain ⟨c,rfl⟩:∃ c,c'=c+1:=⟨c'-1,by omega⟩;have:=hx n k hn hk;cases ae<;>simp [dI,fT] at this ⊢<;>simp [this]⟩
  | ret=>exact ⟨_,_,h,n0,1,λ n k hn hk c' hc=>by obtain ⟨c,rfl⟩:∃ c,c'=c+1:=⟨c'-1,by omega⟩;have:=hx n k hn hk;cases ae<;>simp [dI,fT] at this ⊢<;>simp [this]⟩
  | panic p=>exact ⟨_,_,h,n0,1,λ n k hn hk c' hc=>by obtain ⟨c,rfl⟩:∃ c,c'=c+1:=⟨c'-1,by omega⟩;have:=hx n k hn hk;cases ae<;>simp [dI,fT] at this ⊢<;>simp [this]⟩
theorem hZ.run {AP:aL} {ctx:Ctx} {st:St} {k0:Nat} {H0:AHeap} {aR:List aM} {d:Nat} {Q:bU} {v:AV} (h:hZ AP ctx st k0 H0 aR d Q v) :
 ∃ e st',Q e st' /\ ∃ n0,∀ n k,n0<=n->n0<=k->eY (AP.call n) (rounds AP.prog (AP.call n) n k) ctx st k0 H0 aR d v=some (e,st'):=by
 unfold hZ at h;split at h
 ·obtain ⟨e,H',⟨n0,hc⟩,h⟩:=h;cases e with
  | panic c=>exact ⟨_,_,h,n0,λ n k hn hk=>by simp [eY,bT,hc n hn,Fm]⟩
  | ret v =>
   obtain ⟨s,p,f,k,tm,d,hg,hs,h⟩:=h;refine ⟨_,_,h,n0,λ n k hn hk=>?_⟩;simp only [eY,bT,hc n hn,Fm,qn,hg]
 ·exact False.elim h
theorem WP.run {AP:aL} {ctx:Ctx}:∀ {c:ah} {st:St} {Q:bU},WP AP ctx c st Q -> ∃ e st',Q e st'/\EX AP ctx c st (e,st')
 | .skip,st,Q,h=>⟨_,_,h,0,λ _ _ _ _=>rfl⟩
 | .label _,st,Q,h=>⟨_,_,h,0,λ _ _ _ _=>rfl⟩
 | .exit _,st,Q,h=>⟨_,_,h,0,λ _ _ _ _=>rfl⟩
 | .goto _,st,Q,h=>⟨_,_,h,0,λ _ _ _ _=>rfl⟩
 | .ret,st,Q,h=>⟨_,_,h,0,λ _ _ _ _=>rfl⟩
 | .stuck,st,Q,h=>False.elim h
 | .region steps,st,Q,h=>lh.run h
 | .seq a b,st,Q,h=>by
  obtain ⟨e,bV,h1,n0,hx⟩:=WP.run (c:=a) h;cases e with
  | normal =>
   obtain ⟨e,st2,hq,n1,hy⟩:=WP.run (c:=b) h1;exact ⟨e,st2,hq,max n0 n1,λ n k hn hk=>by simp [bf,hx n k (by omega) (by omega),ng,hy n k (by omega) (by omega)]⟩
  | exit id=>exact ⟨_,_,h1,n0,λ n k hn hk=>by simp [bf,hx n k hn hk,ng]⟩
  | goto id=>exact ⟨_,_,h1,n0,λ n k hn hk=>by simp [bf,hx n k hn hk,ng]⟩
  | ret=>exact ⟨_,_,h1,n0,λ n k hn hk=>by simp [bf,hx n k hn hk,ng]⟩
  | panic p=>exact ⟨_,_,h1,n0,λ n k hn hk=>by simp [bf,hx n k hn hk,ng]⟩
 | .cond c a b,st,Q,h=>by
  obtain ⟨v,hv,h⟩:=wR.elim h;obtain ⟨q,hq,h⟩:=bq.elim (m:=aA) h;have hv':v=.bool q:=by
   unfold asBool at hq;split at hq
   ·injection hq with hq;rw [hq]
   ·cases hq
  subst hv';cases q with
  | true =>
   obtain ⟨e,bV,h1,n0,hx⟩:=WP.run (c:=a) h;exact ⟨e,bV,h1,n0,λ n k hn hk=>by simp [bf,Bz,hv,m8,hx n k hn hk]⟩
  | false =>
   obtain ⟨e,bV,h1,n0,hx⟩:=WP.run (c:=b) h;exact ⟨e,bV,h1,n0,λ n k hn hk=>by simp [bf,Bz,hv,m8,hx n k hn hk]⟩
 | .block id b,st,Q,h=>by
  obtain ⟨e,bV,h1,n0,hx⟩:=WP.run (c:=b) h;cases e with
  | exit id'=>exact ⟨_,_,h1,n0,λ n k hn hk=>by simp [bf,hx n k hn hk,fO]⟩
  | normal=>exact ⟨_,_,h1,n0,λ n k hn hk=>by simp [bf,hx n k hn hk,fO]⟩
  | goto id=>exact ⟨_,_,h1,n0,λ n k hn hk=>by simp [bf,hx n k hn hk,fO]⟩
  | ret=>exact ⟨_,_,h1,n0,λ n k hn hk=>by simp [bf,hx n k hn hk,fO]⟩
  | panic p=>exact ⟨_,_,h1,n0,λ n k hn hk=>by simp [bf,hx n k hn hk,fO]⟩
 | .scope b,st,Q,h=>by
  obtain ⟨e,bV,h1,n0,hx⟩:=WP.run (c:=b) h;cases e with
  | exit id'=>exact ⟨_,_,h1,n0,λ n k hn hk=>by simp [bf,hx n k hn hk,gB]⟩
  | normal=>exact ⟨_,_,h1,n0,λ n k hn hk=>by simp [bf,hx n k hn hk,gB]⟩
  | goto id=>exact ⟨_,_,h1.2,n0,λ n k hn hk=>by simp [bf,hx n k hn hk,gB,h1.1]⟩
  | ret=>exact ⟨_,_,h1,n0,λ n k hn hk=>by simp [bf,hx n k hn hk,gB]⟩
  | panic p=>exact ⟨_,_,h1,n0,λ n k hn hk=>by simp [bf,hx n k hn hk,gB]⟩
 | .loop ae b,st,Q,⟨I,⟨n,hi⟩,h⟩=>by
  obtain ⟨e,st',hq,n0,c,hx⟩:=uj (AP:=AP) (ctx:=ctx) (ae:=ae) (b:=b) (Q:=Q) (I:=I) (λ n st hi=>by
   obtain ⟨e,st',h1,h2⟩:=WP.run (c:=b) (h n st hi);exact ⟨e,st',h1,h2⟩) n n (qh n) st hi
  exact ⟨e,st',hq,max n0 c,λ n k hn hk=>hx n k (by omega) (by omega) n (by omega)⟩
 | .rangeFunc f k0,st,Q,h=>by
  obtain ⟨v,hv,h⟩:=wR.elim h;unfold AR at h;cases hr:ctx.round with
  | none =>
   rw [hr] at h;obtain ⟨e,st',hq,n0,hx⟩:=hZ.run h;exact ⟨e,st',hq,n0,λ n k hn hk=>by simpa [bf,Bz,hv,kG,pq,hr] using hx n k hn hk⟩
  | some l =>
   rw [hr] at h;obtain ⟨d,hd,h⟩:=bq.elim (m:=aA) h;obtain ⟨e,st',hq,n0,hx⟩:=hZ.run h;exact ⟨e,st',hq,n0,λ n k hn hk=>by simpa [bf,Bz,hv,kG,pq,hr,hd] using hx n k hn hk⟩
def rh (AP:aL) (rs:List cQ) (tm:T AV) (Q:br->AHeap->Prop):List aM->Option aC->AHeap->Prop
 | [],none,H=>bq aA (cH H tm rs) λ l=>Q (.ret (c7 l)) H
 | [],some c,H=>Q (.panic c) H
 | .eU b::ds,m,H=>H.get b=some (.deferred (some []))/\rh AP rs tm Q ds m (H.set b (.deferred none))
 | .fn (.func f) args::ds,m,H=>∃ v up' H',m6 AP f args (some (m.getD [])) H (.ret v) (some up') H'/\bq aA (iO m up') λ m'=>rh AP rs tm Q ds m' H'
 | .fn (.yield _) _::_,_,_=>False
theorem rh.run {AP:aL} {rs:List cQ} {tm:T AV} {Q:br->AHeap->Prop}:∀ {ds:List aM} {m:Option aC} {H:AHeap},rh AP rs tm Q ds m H ->
 ∃ e H',Q e H' /\ ∃ n0,∀ n,n0<=n->bE (AP.call n) rs tm ds m H=some (e,H')
 | [],none,H,h=>by
  obtain ⟨l,hl,h⟩:=bq.elim (m:=aA) h;exact ⟨_,_,h,0,λ n _=>by simp [bE,hl]⟩
 | [],some c,H,h=>⟨_,_,h,0,λ n _=>by simp [bE]⟩
 | .eU b::ds,m,H,⟨hb,h⟩=>by
  obtain ⟨e,H',hq,n0,hx⟩:=rh.run h;exact ⟨e,H',hq,n0,λ n hn=>by simp [bE,hb,hx n hn]⟩
 | .fn (.func f) args::ds,m,H,⟨v,up',H',⟨n0,hc⟩,h⟩=>by
  obtain ⟨m',hm,h⟩:=bq.elim (m:=aA) h;obtain ⟨e,H2,hq,n1,hx⟩:=rh.run h;exact ⟨e,H2,hq,max n0 n1,λ n hn=>by simp [bE,hc n (by omega),hm,hx n (by omega)]⟩
 | .fn (.yield _) _::_,_,_,h=>False.elim h
def FIN (AP:aL) (rs:List cQ) (Q:br->Option aC->AHeap->Prop):bU:=λ e st=>match e with
 | .normal=>rh AP rs st.tm (λ e H=>Q e st.up H) st.aR none st.H
 | .ret=>rh AP rs st.tm (λ e H=>Q e st.up H) st.aR none st.H
 | .panic c=>rh AP rs st.tm (λ e H=>Q e st.up H) st.aR (some c) st.H
 | _=>False
theorem q3j {AP:aL} {f:Nat} {fn:av} (hf:AP.func f=some fn) {vs:List AV} {up:Option aC} {H:AHeap} {Q:br->Option aC->AHeap->Prop}
 (h:WP AP ⟨none,f⟩ fn.body ⟨fC 0 vs .nil,[],up,H⟩ (FIN AP fn.results Q)):∃ e up' H',m6 AP f vs up H e up' H'/\Q e up' H':=by
 obtain ⟨hmu,hf⟩:=aL.pw hf;obtain ⟨e,st,h1,n0,hx⟩:=h.run;have key:∀ m,rh AP fn.results st.tm (λ e H=>Q e st.up H) st.aR m st.H->(∀ call,jV call fn (e,st)=(bE call fn.results st.tm st.aR m st.H).bind λ q=>some (q.1,st.up,q.2)) ->
  ∃ e up' H',m6 AP f vs up H e up' H'/\Q e up' H':=by
  intro m h1 he;obtain ⟨e',H',hq,n1,hy⟩:=h1.run;refine ⟨e',st.up,H',⟨max n0 n1+1,λ n hn=>?_⟩,hq⟩;obtain ⟨n,rfl⟩:∃ j,n=j+1:=⟨n-1,by omega⟩
  have:=hx n n (by omega) (by omega);simp only [pq] at this;rw [aL.qB hmu];simp only [yY,hf,qn,exec,this,he,hy n (by omega)]
 cases e with
 | normal=>exact key none h1 λ _=>rfl
 | ret=>exact key none h1 λ _=>rfl
 | panic c=>exact key (some c) h1 λ _=>rfl
 | exit _=>exact False.elim h1
 | goto _=>exact False.elim h1
theorem q6f {AP:aL} {f:Nat} {fn:av} (hf:AP.func f=some fn) {vs:List AV} {H:AHeap} {Q:br->AHeap->Prop}
 (h:WP AP ⟨none,f⟩ fn.body ⟨fC 0 vs .nil,[],none,H⟩ (FIN AP fn.results λ e up H=>up=none/\Q e H)):∃ e H',iG AP f vs H e H'/\Q e H':=by
 obtain ⟨e,up',H',h1,rfl,h2⟩:=q3j hf h;exact ⟨e,H',h1,h2⟩
def RE (l:Nat) (Q:br->AHeap->Prop):bU:=λ e st=>st.aR=[]/\match e with
 | .panic c=>Q (.panic c) st.H
 | e=>bq aA (bQ st.H l (cond (qP e) .ready .done) (fP e)) λ H=>Q (.ret (.bool (qP e))) H
def RB (W:St->bU->Prop) (l:Nat) (Q:br->AHeap->Prop):bU:=λ e st=>match e with
 | .normal=>bq aA (beginRound st.H l) λ H=>W { st with H:=H } (RE l Q)
 | _=>False
theorem qw4 {AP:aL} {l:Nat} {H:AHeap} {s:iq} {p:Option dX} {f k:Nat} {tm:T AV} {d:Nat} {fn:av} {lp:df} {vs:List AV} {tm1:T AV} {Q:br->AHeap->Prop}
 (hl:H.get l=some (.loop s p f k tm d)) (hf:AP.func f=some fn) (hk:nth fn.loops k=some lp) (hb:BZ tm lp.params vs=some tm1)
 (h:WP AP ⟨some l,f⟩ lp.assign ⟨tm1,[],none,H⟩ (RB (WP AP ⟨some l,f⟩ lp.body) l Q)):∃ e H',lT AP l vs H e H'/\Q e H':=by
 obtain ⟨hmu,hf⟩:=aL.pw hf;obtain ⟨e,st,h1,n0,hx⟩:=h.run;cases e with
 | normal =>
  obtain ⟨H2,hbr,h1⟩:=bq.elim (m:=aA) h1;obtain ⟨e,st2,⟨hd,h2⟩,n1,hy⟩:=WP.run h1;have key:∀ e' H',Q e' H'->Ah l (e,st2)=some (e',H') -> ∃ e H',lT AP l vs H e H'/\Q e H':=by
   intro e' H' hq he;refine ⟨e',H',⟨max n0 n1+1,λ n j hn hj=>?_⟩,hq⟩;obtain ⟨j,rfl⟩:∃ i,j=i+1:=⟨j-1,by omega⟩
   have hx':=hx n j (by omega) (by omega);have hy':=hy n j (by omega) (by omega);simp only [pq] at hx' hy';simp only [rounds,roundOf,hl,hf,qn,hk,hb,exec,hx',hbr,hy',hd,roundOf.noDefs,xk,he]
  cases e with
  | panic c=>exact key _ _ h2 rfl
  | normal=>obtain ⟨H3,h3,h2⟩:=bq.elim (m:=aA) h2;exact key _ _ h2 (by simp [Ah,h3])
  | exit id=>obtain ⟨H3,h3,h2⟩:=bq.elim (m:=aA) h2;exact key _ _ h2 (by simp [Ah,h3])
  | goto id=>obtain ⟨H3,h3,h2⟩:=bq.elim (m:=aA) h2;exact key _ _ h2 (by simp [Ah,h3])
  | ret=>obtain ⟨H3,h3,h2⟩:=bq.elim (m:=aA) h2;exact key _ _ h2 (by simp [Ah,h3])
 | exit _=>exact False.elim h1
 | goto _=>exact False.elim h1
 | ret=>exact False.elim h1
 | panic _=>exact False.elim h1
theorem iG.uN {AP:aL} {f:Nat} {vs:List AV} {H:AHeap} {e:br} {H':AHeap} (h:iG AP f vs H e H'):∃ n,AP.call n f vs none H=some (e,none,H'):=by
 obtain ⟨n,h⟩:=h;exact ⟨n,h n (qh n)⟩
end
end Go.Am
namespace Go.Am
abbrev Env:=List (Nat × AV)
def lg (dst:Option Nat) (v:AV) (E:Env):Env:=match dst with
 | some d=>(d,v)::E
 | none=>E
def BI {α:Type} (m:Bool) (o:Option α) (K:Bool -> α->Prop):Prop:=match o with
 | some a=>K aA a
 | none=>False
def mK {α β:Type} (m:Bool) (o:Option (α × β)) (K:Bool -> α -> β->Prop):Prop:=match o with
 | some a=>K aA a.1 a.2
 | none=>False
def IG (m:Bool) (q:Bool) (A B:Bool->Prop):Prop:=match q with
 | true=>A aA
 | false=>B aA
def LK {α:Type} (m:Bool) (o:Option α) (K:Bool -> α->Prop):Prop:=match o with
 | some a=>K m a
 | none=>False
theorem xF {α:Type} (a:α) (K:Bool -> α->Prop):LK true (some a) K=K true a:=propext j2
@[congr] theorem Iu {α:Type} {m m':Bool} {o o':Option α} {K:Bool -> α->Prop} (hm:m=m') (h:o=o'):LK m o K=LK m' o' K:=by subst hm;subst h;rfl
@[congr] theorem Io {α:Type} {m m':Bool} {o o':Option α} {K:Bool -> α->Prop} (hm:m=m') (h:o=o'):BI m o K=BI m' o' K:=by subst hm;subst h;rfl
@[congr] theorem Fq {α β:Type} {m m':Bool} {o o':Option (α × β)} {K:Bool -> α -> β->Prop} (hm:m=m') (h:o=o'):mK m o K=mK m' o' K:=by subst hm;subst h;rfl
@[congr] theorem Ib {m m' q q':Bool} {A B:Bool->Prop} (hm:m=m') (h:q=q'):IG m q A B=IG m' q' A B:=by subst hm;subst h;rfl
theorem BI.intro {α:Type} {m:Bool} {o:Option α} {K:Bool -> α->Prop} {a:α} (h:o=some a) (hk:K aA a):BI m o K:=by subst h;exact hk
theorem mK.intro {α β:Type} {m:Bool} {o:Option (α × β)} {K:Bool -> α -> β->Prop} {a:α} {b:β} (h:o=some (a,b)) (hk:K aA a b):mK m o K:=by subst h;exact hk
theorem IG.cases {m:Bool} {q:Bool} {A B:Bool->Prop} (h1:q=true->A aA) (h2:q=false->B aA):IG m q A B:=by
 cases q with
 | true=>exact h1 rfl
 | false=>exact h2 rfl
noncomputable section
variable (AP:aL)
def CA (m:Bool) (f:ff) (vs:List AV) (H:AHeap) (K:Bool->AV->AHeap->Prop) (E:aC->AHeap->Prop):Prop:=ib AP m f vs H (K aA) E
@[congr] theorem Gv {AP:aL} {m m':Bool} {f f':ff} {vs vs':List AV} {H:AHeap} {K:Bool->AV->AHeap->Prop} {E:aC->AHeap->Prop} (hm:m=m') (hf:f=f') (h:vs=vs'):CA AP m f vs H K E=CA AP m' f' vs' H K E:=by subst hm;subst h;subst hf;rfl
theorem CA.ret {AP:aL} {m:Bool} {f:Nat} {vs:List AV} {H:AHeap} {K:Bool->AV->AHeap->Prop} {E:aC->AHeap->Prop} {v:AV} {H':AHeap} (h:iG AP f vs H (.ret v) H') (hk:K aA v H'):CA AP m (.func f) vs H K E :=
 ⟨_,_,h,hk⟩
theorem CA.panic {AP:aL} {m:Bool} {f:Nat} {vs:List AV} {H:AHeap} {K:Bool->AV->AHeap->Prop} {E:aC->AHeap->Prop} {c:aC} {H':AHeap} (h:iG AP f vs H (.panic c) H') (hk:E c H'):CA AP m (.func f) vs H K E :=
 ⟨_,_,h,hk⟩
def VI (m:Bool) (vs:List AV) (K:Bool->ff->List AV->Prop):Prop:=DJ m vs (K aA)
@[congr] theorem IK {m m':Bool} {vs vs':List AV} {K:Bool->ff->List AV->Prop} (hm:m=m') (h:vs=vs'):VI m vs K=VI m' vs' K:=by subst hm;subst h;rfl
def IV (m:Bool) (name:String) (vs:List AV) (K:Bool->ff->List AV->Prop):Prop:=EF AP m name vs (K aA)
@[congr] theorem Ij {AP:aL} {m m':Bool} {name:String} {vs vs':List AV} {K:Bool->ff->List AV->Prop} (hm:m=m') (h:vs=vs'):IV AP m name vs K=IV AP m' name vs' K:=by subst hm;subst h;rfl
def RC (m:Bool) (ctx:Ctx) (up:Option aC) (K:Bool->AV->Option aC->Prop):Prop:=nM m ctx up (K aA)
@[congr] theorem Gr {m m':Bool} {ctx:Ctx} {up up':Option aC} {K:Bool->AV->Option aC->Prop} (hm:m=m') (h:up=up'):RC m ctx up K=RC m' ctx up' K:=by subst hm;subst h;rfl
def DF (m:Bool) (ctx:Ctx) (vs:List AV) (aR:List aM) (K:Bool->List aM->Prop):Prop:=uy m ctx vs aR (K aA)
@[congr] theorem HW {m m':Bool} {ctx:Ctx} {vs vs':List AV} {aR:List aM} {K:Bool->List aM->Prop} (hm:m=m') (h:vs=vs'):DF m ctx vs aR K=DF m' ctx vs' aR K:=by subst hm;subst h;rfl
end
end Go.Am
namespace Go.Am
theorem xah (n:Int):aW .i64 n=(n+9223372036854775808) % 18446744073709551616-9223372036854775808:=by
 simp [aW,IntKind.wrap,IntKind.bits,IntKind.signed];split<;>omega
theorem vl {n:Int} (h:-9223372036854775808<=n) (h':n<9223372036854775808):aW .i64 n=n:=by rw [xah];omega
section
variable (k:IntKind) (a b:Int)
theorem EA (v:AV):Op.move [v]=some v:=rfl
theorem B0 (q:Bool) (a b:AV):Op.pick [.bool q,a,b]=some (cond q a b):=rfl
theorem Is:Op.bin .add [.int k a,.int k b]=some (.int k (aW k (a+b))):=by cases k<;>rfl
theorem Gu:Op.bin .sub [.int k a,.int k b]=some (.int k (aW k (a-b))):=by cases k<;>rfl
theorem Gz:Op.bin .mul [.int k a,.int k b]=some (.int k (aW k (a*b))):=by cases k<;>rfl
theorem Hf (hb:b ≠ 0):Op.bin .quo [.int k a,.int k b]=some (.int k (aW k (a.tdiv b))):=by
 have:po b 0=false:=by rw [At];simpa using hb
 cases k<;>simp [Op.bin,jI,cU,nR,gU,dC,this]
theorem A7 (hb:b ≠ 0):Op.bin .rem [.int k a,.int k b]=some (.int k (a.tmod b)):=by
 have:po b 0=false:=by rw [At];simpa using hb
 cases k<;>simp [Op.bin,jI,cU,nR,gU,dC,this]
theorem Ig:Op.bin .eql [.int k a,.int k b]=some (.bool (decide (a=b))):=by
 have:po a b=decide (a=b):=by rw [At];rfl
 cases k<;>simp [Op.bin,jI,cU,nR,gU,dC,this]
theorem Hw:Op.bin .neq [.int k a,.int k b]=some (.bool (decide (a ≠ b))):=by
 have:po a b=decide (a=b):=by rw [At];rfl
 cases k<;>simp [Op.bin,jI,cU,nR,gU,dC,this]
theorem HB:Op.bin .lss [.int k a,.int k b]=some (.bool (decide (a<b))):=by
 cases k<;>simp [Op.bin,jI,cU,nR,gU,dC,JM]
theorem HC:Op.bin .leq [.int k a,.int k b]=some (.bool (decide (a<=b))):=by
 cases k<;>simp [Op.bin,jI,cU,nR,gU,dC,wV]
theorem Ht:Op.bin .gtr [.int k a,.int k b]=some (.bool (decide (b<a))):=by
 cases k<;>simp [Op.bin,jI,cU,nR,gU,dC,JM]
theorem Hl:Op.bin .geq [.int k a,.int k b]=some (.bool (decide (b<=a))):=by
 cases k<;>simp [Op.bin,jI,cU,nR,gU,dC,wV]
theorem Ce (k':IntKind):Op.wrap k [.int k' a]=some (.int k (aW k a)):=rfl
theorem HY (q:Bool):Op.un .not [.bool q]=some (.bool (!q)):=rfl
theorem q8u (a b:List UInt8):rn a b=decide (a=b):=by
 by_cases h:a=b
 ·subst h;simp [FF]
 ·simp [FF,h]
theorem Cl (a b:List UInt8):Op.bin .eql [.str a,.str b]=some (.bool (decide (a=b))):=by
 simp only [Op.bin,jI,kR,q8u]
theorem Db (a b:List UInt8):Op.bin .neq [.str a,.str b]=some (.bool (decide (a ≠ b))):=by
 simp [Op.bin,jI,kR,q8u]
theorem rH (s:List UInt8):Op.oi [.str s]=some (.int .i64 s.length):=by simp [Op.oi,gA,zN]
theorem q9h (i:Nat) (l:List AV):Op.extract i [.tuple l]=l[i]?:=by simp [Op.extract,iS]
theorem rM (f n:Nat) (l:List AV):Op.bZ f n l=some (.fn (.func f) (l.take n) (l.drop n)):=rfl
theorem q9i (t:Nat) (v:AV):Op.pE t [v]=some (.iface t v):=rfl
theorem q33 (off b o:Nat):Op.fieldAddr off [.ptr b o]=some (.ptr b (o+off)):=rfl
theorem ub (off:Nat) (l:List AV):Op.field off none [.agg l]=l[off]?:=by simp [Op.field,partAt,iS]
theorem CM (q:Bool):aB true (some (.bool q))=some q:=by cases q<;>rfl
theorem zK (q:Bool):aB false (some (.bool q))=some (!q):=by cases q<;>rfl
theorem Ai (b:Bool):aB b (some .undef)=some false:=rfl
end
structure Fr (W:Nat->Prop) (H H':AHeap):Prop where
 next:H.next<=H'.next
 ae:∀ b,b<H.next -> ¬ W b->H'.get b=H.get b
def Em:Nat->Prop:=λ _=>False
def On (b:Nat):Nat->Prop:=λ x=>x=b
theorem Fr.refl {W:Nat->Prop} (H:AHeap):Fr W H H:=⟨qh _,λ _ _ _=>rfl⟩
theorem Fr.trans {W W':Nat->Prop} {H H1 H2:AHeap} (a:Fr W H H1) (b:Fr W' H1 H2) (h:∀ x,W' x->W x\/H.next<=x):Fr W H H2 :=
 ⟨xu a.next b.next,λ x hx hw=>by
  rw [b.ae x (qp hx a.next) (λ hw'=>(h x hw').elim hw (λ q=>by omega)),a.ae x hx hw]⟩
theorem Fr.em {W:Nat->Prop} {H H1 H2:AHeap} (a:Fr W H H1) (b:Fr Em H1 H2):Fr W H H2:=a.trans b λ _ h=>h.elim
theorem Fr.mono {W W':Nat->Prop} {H H':AHeap} (a:Fr W H H') (h:∀ x,x<H.next->W x->W' x):Fr W' H H':=⟨a.next,λ x hx hw=>a.ae x hx λ q=>hw (h x hx q)⟩
theorem xp (H:AHeap) (o:bK):(H.alloc o).next=H.next+1:=rfl
theorem Fp (H:AHeap) (b:Nat) (o:bK):(H.set b o).next=H.next:=rfl
theorem xU (H:AHeap) (b:Nat):(H.kill b).next=H.next:=rfl
theorem Fr.alloc {W:Nat->Prop} {H H1:AHeap} (a:Fr W H H1) (o:bK):Fr W H (H1.alloc o) :=
 ⟨FR a.next,λ x hx hw=>by rw [AHeap.bj,qe (by have:=a.next;omega),a.ae x hx hw]⟩
theorem Fr.set {W:Nat->Prop} {H H1:AHeap} (a:Fr W H H1) {b:Nat} (h:W b\/H.next<=b) (o:bK):Fr W H (H1.set b o) :=
 ⟨a.next,λ x hx hw=>by rw [AHeap.aJ,qe (by rintro rfl;exact h.elim hw (λ q=>by omega)),a.ae x hx hw]⟩
theorem Fr.kill {W:Nat->Prop} {H H1:AHeap} (a:Fr W H H1) {b:Nat} (h:W b\/H.next<=b):Fr W H (H1.kill b) :=
 ⟨a.next,λ x hx hw=>by rw [AHeap.kF,qe (by rintro rfl;exact h.elim hw (λ q=>by omega)),a.ae x hx hw]⟩
theorem xb {H:AHeap} {b:Nat} {c:List AV} {e:Nat} {fz:Nat × Nat} {ow:Bool} (h:H.get b=some (.row c e fz ow)):H.bP b=some c:=by simp [AHeap.bP,h]
theorem L6 {H:AHeap} {b m s:Nat} {c:List AV} {e:Nat} {fz:Nat × Nat} (h:H.get b=some (.grown m s c e fz)):H.bP b=some c:=by simp [AHeap.bP,h]
theorem q6h {H H':AHeap} {b:Nat} (h:H'.get b=H.get b):H'.bP b=H.bP b:=by simp [AHeap.bP,h]
theorem Fr.cells {W:Nat->Prop} {H H':AHeap} (a:Fr W H H') {b:Nat} (hb:b<H.next) (hw:¬ W b):H'.bP b=H.bP b:=q6h (a.ae b hb hw)
theorem ze {H:AHeap} {b:Nat} {c:List AV} (h:H.bP b=some c) (o:Nat):Op.aa [.ptr b o] H=c[o]?:=by simp [Op.aa,AHeap.aa,h,iS]
theorem qJ {H:AHeap} {b:Nat} {c:List AV} (h:H.bP b=some c) {o n:Nat} (hn:o+n<=c.length):Op.ao n [.ptr b o] H=some (.agg ((c.drop o).take n)):=by
 simp only [Op.ao,AHeap.ao,h,qn,oe];rw [qm (by omega)];rfl
def Sl (H:AHeap) (size:Nat) (v:AV) (n:Nat) (cells:List AV):Prop :=
 cells.length=n*size/\match v with
 | .nils=>n=0
 | .slice b o m c=>m=n/\n<=c/\(n=0\/b<H.next /\ ∃ all,H.bP b=some all/\dW all o (n*size)=some cells)
 | .gslice b i m s alt k=>k=n/\s=size/\i+n<=m/\(n=0\/b<H.next /\ ∃ all,H.bP b=some all/\dW all (i*size) (n*size)=some cells)
 | .eslice b=>n=0/\b<H.next
 | _=>False
def aN:AV->Nat
 | .slice b _ _ _=>b
 | .gslice b _ _ _ _ _=>b
 | .eslice b=>b
 | _=>0
def cr (size:Nat):AV->Nat->Nat
 | .slice _ o _ _,j=>o+j*size
 | .gslice _ i _ s _ _,j=>i*s+j*s
 | _,_=>0
theorem Sl.dO {H:AHeap} {size:Nat} {v:AV} {n:Nat} {cells:List AV} (h:Sl H size v n cells):dO v=some n:=by
 obtain ⟨_,h⟩:=h;split at h
 ·subst h;rfl
 ·obtain ⟨rfl,_⟩:=h;rfl
 ·obtain ⟨rfl,_⟩:=h;rfl
 ·obtain ⟨rfl,_⟩:=h;rfl
 ·exact h.elim
theorem Sl.len {H:AHeap} {size:Nat} {v:AV} {n:Nat} {cells:List AV} (h:Sl H size v n cells):Op.bJ [v]=some (.int .i64 n):=by
 obtain ⟨_,h⟩:=h;split at h
 ·subst h;rfl
 ·obtain ⟨rfl,_⟩:=h;rfl
 ·obtain ⟨rfl,_⟩:=h;rfl
 ·obtain ⟨rfl,_⟩:=h;rfl
 ·exact h.elim
theorem Ks {z:Int} {i n:Nat} (hz:z=i) (h:i<n):within z n=some i:=by
 subst hz;show cond (Nat.blt i n) (some i) none=some i;have:Nat.blt i n=true:=by simpa [mX] using h
 rw [this];rfl
theorem DI {i j:Nat} (h:i ≠ j):Nat.beq i j=false:=by
 cases q:Nat.beq i j with
 | false=>rfl
 | true=>exact (h (Nat.eq_of_beq_eq_true q)).elim
theorem zW {i n:Nat} (h:i<n):Nat.blt i n=true:=by simpa [mX] using h
theorem yn {i n:Nat} (h:i<=n):Nat.ble i n=true:=by simpa using h
theorem Sl.idx {H:AHeap} {size:Nat} {v:AV} {n:Nat} {cells:List AV} (h:Sl H size v n cells) {i:Nat} (hi:i<n) {z:Int} (hz:z=i) (k:IntKind) :
 Op.aP size [v,.int k z]=some (.ptr (aN v) (cr size v i)):=by
 obtain ⟨hl,h⟩:=h;split at h
 ·omega
 ·rename_i b o m c;obtain ⟨rfl,hc,h⟩:=h;have h1:=zW hi;simp [Op.aP,Am.dO,Ks hz hi,elemAt,h1,aN,cr]
 ·rename_i b j m s alt k;obtain ⟨rfl,rfl,hm,h⟩:=h;have h1:=zW hi;have h2:=zW (show j+i<m by omega);simp [Op.aP,Am.dO,Ks hz hi,elemAt,h1,h2,aN,cr]
 ·omega
 ·exact h.elim
theorem Jv {α:Type} {l r:List α} {o n:Nat} (h:dW l o n=some r):n<=l.length-o/\r=(l.drop o).take n:=by
 rw [oe] at h;split at h
 ·rename_i hn;injection h with h;exact ⟨hn,h.symm⟩
 ·cases h
theorem Sl.at {H:AHeap} {size:Nat} {v:AV} {n:Nat} {cells:List AV} (hs0:0<size) (h:Sl H size v n cells) {i:Nat} (hi:i<n) :
 aN v<H.next /\ ∃ all,H.bP (aN v)=some all/\cr size v i+size<=all.length /\ ∀ j,j<size->all[cr size v i+j]? = cells[i*size+j]?:=by
 obtain ⟨hl,h⟩:=h;have hps:0<n*size:=Nat.mul_pos (by omega) hs0;have hsz:i*size+size<=n*size:=by rw [<-px];exact kc _ hi
 split at h
 ·omega
 ·rename_i b o m c;obtain ⟨rfl,hc,h⟩:=h;rcases h with h|⟨hb,all,h1,h2⟩
  ·omega
  obtain ⟨h3,rfl⟩:=Jv h2;refine ⟨hb,all,h1,?_,λ j hj=>?_⟩
  ·simp only [cr];simp at hl;omega
  ·simp only [cr];rw [kr,qm (by omega),yb];congr 1;omega
 ·rename_i b q m s alt k;obtain ⟨rfl,rfl,hm,h⟩:=h;rcases h with h|⟨hb,all,h1,h2⟩
  ·omega
  obtain ⟨h3,rfl⟩:=Jv h2;refine ⟨hb,all,h1,?_,λ j hj=>?_⟩
  ·simp only [cr];simp at hl;omega
  ·simp only [cr];rw [kr,qm (by omega),yb];congr 1;omega
 ·omega
 ·exact h.elim
theorem Sl.fr {H H':AHeap} {W:Nat->Prop} {size:Nat} {v:AV} {n:Nat} {cells:List AV} (h:Sl H size v n cells) (f:Fr W H H') (hw:n=0 \/ ¬ W (aN v)):Sl H' size v n cells:=by
 obtain ⟨hl,h⟩:=h;refine ⟨hl,?_⟩;split at h
 ·exact h
 ·obtain ⟨h1,h2,h3⟩:=h;refine ⟨h1,h2,?_⟩;rcases h3 with h3|⟨hb,all,h3,h4⟩
  ·exact .inl h3
  ·rcases hw with hw|hw
   ·exact .inl hw
   ·exact .inr ⟨qp hb f.next,all,by rw [f.cells hb hw];exact h3,h4⟩
 ·obtain ⟨h1,h2,h0,h3⟩:=h;refine ⟨h1,h2,h0,?_⟩;rcases h3 with h3|⟨hb,all,h3,h4⟩
  ·exact .inl h3
  ·rcases hw with hw|hw
   ·exact .inl hw
   ·exact .inr ⟨qp hb f.next,all,by rw [f.cells hb hw];exact h3,h4⟩
 ·exact ⟨h.1,qp h.2 f.next⟩
 ·exact h.elim
theorem Sl.em {H H':AHeap} {size:Nat} {v:AV} {n:Nat} {cells:List AV} (h:Sl H size v n cells) (f:Fr Em H H'):Sl H' size v n cells:=h.fr f (.inr id)
theorem Sl.first {H:AHeap} {size:Nat} {v:AV} {n:Nat} {cells:List AV} (h:Sl H size v n cells):firstCells H size n v=some cells:=by
 obtain ⟨hl,h⟩:=h;split at h
 ·subst h;simp at hl;subst hl;rfl
 ·rename_i b o m c;obtain ⟨rfl,hc,h⟩:=h;rcases h with rfl|⟨hb,all,h1,h2⟩
  ·simp at hl;subst hl;rfl
  ·by_cases hn:m=0
   ·subst hn;simp at hl;subst hl;rfl
   ·have:Nat.beq m 0=false:=DI hn;simp only [firstCells,this,zk,AHeap.ao,h1,qn,h2]
 ·rename_i b i m s alt k;obtain ⟨rfl,rfl,hm,h⟩:=h;rcases h with rfl|⟨hb,all,h1,h2⟩
  ·simp at hl;subst hl;rfl
  ·by_cases hn:k=0
   ·subst hn;simp at hl;subst hl;rfl
   ·have:Nat.beq k 0=false:=DI hn;have h3:=zW (show i<m by omega);simp [firstCells,this,h3,AHeap.ao,h1,h2]
 ·obtain ⟨rfl,_⟩:=h;simp at hl;subst hl;rfl
 ·exact h.elim
def eJ {α:Type} (enc:α->List AV) (size:Nat) (H:AHeap) (v:AV) (xs:List α):Prop:=Sl H size v xs.length (xs.flatMap enc)
section
variable {α:Type} {enc:α->List AV} {size:Nat} {H H':AHeap} {v:AV} {xs:List α}
theorem eJ.len (h:eJ enc size H v xs):Op.bJ [v]=some (.int .i64 xs.length):=Sl.len h
theorem eJ.fr {W:Nat->Prop} (h:eJ enc size H v xs) (f:Fr W H H') (hw:¬ W (aN v)):eJ enc size H' v xs:=Sl.fr h f (.inr hw)
theorem eJ.em (h:eJ enc size H v xs) (f:Fr Em H H'):eJ enc size H' v xs:=Sl.em h f
theorem Ch (hs:∀ x,(enc x).length=size):∀ (xs:List α) {i:Nat} {x:α},xs[i]? = some x -> ∀ {j:Nat},j<size->(xs.flatMap enc)[i*size+j]? = (enc x)[j]?
 | [],i,x,h,j,hj=>by simp at h
 | y::ys,0,x,h,j,hj=>by
  simp at h;subst h;rw [ju,km (by rw [hs];omega)];simp
 | y::ys,i+1,x,h,j,hj=>by
  simp only [zx] at h;rw [ju,jh (by rw [hs,px];omega),hs,<-Ch hs ys h hj];congr 1;rw [px];omega
theorem Bg {i:Nat} {x:α} (h:xs[i]? = some x):i<xs.length:=(qj.1 h).1
theorem eJ.idx (h:eJ enc size H v xs) {i:Nat} {x:α} (hx:xs[i]? = some x) {z:Int} (hz:z=i) (k:IntKind):Op.aP size [v,.int k z]=some (.ptr (aN v) (cr size v i)) :=
 Sl.idx h (Bg hx) hz k
theorem eJ.aa (hs:∀ x,(enc x).length=size) (h:eJ enc size H v xs) {i:Nat} {x:α} (hx:xs[i]? = some x) {j:Nat} (hj:j<size):Op.aa [.ptr (aN v) (cr size v i+j)] H=(enc x)[j]?:=by
 obtain ⟨_,all,h1,h2,h3⟩:=Sl.at (by omega) h (Bg hx);rw [ze h1,h3 j hj,Ch hs xs hx hj]
theorem eJ.mh (hs:∀ x,(enc x).length=size) (h:eJ enc size H v xs) {i:Nat} {x:α} (hx:xs[i]? = some x) (hj:0<size):Op.aa [.ptr (aN v) (cr size v i)] H=(enc x)[0]?:=h.aa hs hx hj
theorem eJ.ao (hs:∀ x,(enc x).length=size) (hs0:0<size) (h:eJ enc size H v xs) {i:Nat} {x:α} (hx:xs[i]? = some x):Op.ao size [.ptr (aN v) (cr size v i)] H=some (.agg (enc x)):=by
 obtain ⟨_,all,h1,h2,h3⟩:=Sl.at hs0 h (Bg hx);rw [qJ h1 h2];congr 2;refine ky λ j=>?_
 by_cases hj:j<size
 ·rw [kr,qm hj,yb,h3 j hj,Ch hs xs hx hj]
 ·rw [zr (by simp;omega),zr (by rw [hs];omega)]
end
def Own (H:AHeap) (e size:Nat) (v:AV) (n:Nat) (cells:List AV):Prop :=
 cells.length=n*size/\(n=0/\(v=.nils \/ ∃ b,v=.slice b 0 0 0/\b<H.next) \/ ∃ b,v=.gslice b 0 n size 0 n/\b<H.next/\H.get b=some (.grown n size cells e (0,0)))
def bC (v:AV):Nat->Prop:=λ x=>v ≠ .nils/\x=aN v
theorem Own.nil (H:AHeap) (e size:Nat):Own H e size .nils 0 []:=⟨by simp,.inl ⟨rfl,.inl rfl⟩⟩
theorem Own.sl {H:AHeap} {e size:Nat} {v:AV} {n:Nat} {cells:List AV} (h:Own H e size v n cells):Sl H size v n cells:=by
 obtain ⟨hl,⟨rfl,rfl|⟨b,rfl,hb⟩⟩|⟨b,rfl,h1,h2⟩⟩:=h
 ·exact ⟨hl,rfl⟩
 ·exact ⟨hl,rfl,qh _,.inl rfl⟩
 ·refine ⟨hl,rfl,rfl,by omega,.inr ⟨h1,cells,L6 h2,?_⟩⟩;rw [oe,qm (by simp [hl])];simp [<-hl]
theorem Own.fr {H H':AHeap} {W:Nat->Prop} {e size:Nat} {v:AV} {n:Nat} {cells:List AV} (h:Own H e size v n cells) (f:Fr W H H') (hw:∀ x,bC v x -> ¬ W x):Own H' e size v n cells:=by
 obtain ⟨hl,⟨h0,h|⟨b,rfl,hb⟩⟩|⟨b,rfl,h1,h2⟩⟩:=h
 ·exact ⟨hl,.inl ⟨h0,.inl h⟩⟩
 ·exact ⟨hl,.inl ⟨h0,.inr ⟨b,rfl,qp hb f.next⟩⟩⟩
 ·exact ⟨hl,.inr ⟨b,rfl,qp h1 f.next,by rw [f.ae b h1 (hw b ⟨by simp,rfl⟩)];exact h2⟩⟩
theorem Own.em {H H':AHeap} {e size:Nat} {v:AV} {n:Nat} {cells:List AV} (h:Own H e size v n cells) (f:Fr Em H H'):Own H' e size v n cells:=h.fr f λ _ _ h=>h
theorem Own.lt {H:AHeap} {e size:Nat} {v:AV} {n:Nat} {cells:List AV} (h:Own H e size v n cells):∀ x,bC v x->x<H.next:=by
 rintro x ⟨h1,rfl⟩;obtain ⟨hl,⟨h0,h|⟨b,rfl,hb⟩⟩|⟨b,rfl,h1,h2⟩⟩:=h
 ·exact (h1 h).elim
 ·exact hb
 ·exact h1
theorem Sl.one {H:AHeap} {size:Nat} {v:AV} {n:Nat} {cells:List AV} (h:Sl H size v n cells):bn v=true:=by
 obtain ⟨_,h⟩:=h;cases v<;>first|rfl|exact h.elim
theorem Jp {n bytes:Nat} (h1:n*bytes<=140737488355328) (h2:n<=140737488355328):fits n bytes=true:=by
 simp [fits,h1,h2]
theorem qya {H:AHeap} {e size bytes:Nat} {v:AV} {n:Nat} {cells:List AV} (h:Own H e size v n cells) {x:AV} {k:Nat} {new:List AV} (hx:Sl H size x k new) (hnew:aX new=true) (hs:0<size)
 (hf:(n+k)*bytes<=140737488355328) (hf':n+k<=140737488355328) {K:Bool->AV->AHeap->Prop} {m:Bool}
 (hk:∀ v' H',Own H' e size v' (n+k) (cells++new)->Fr (bC v) H H'->(∀ b,bC v' b->bC v b\/H.next<=b)->K aA v' H'):mK m (Op.append e size bytes [v,x] H) K:=by
 have hfit:=Jp hf hf';have hlen:new.length=k*size:=hx.1;have hs':=zW hs;have e1:∀ n,Nat.beq n n=true:=λ n=>by simp
 simp only [Op.append,hx.dO,hx.first,qn,hnew,xk];obtain ⟨hl,⟨rfl,rfl|⟨b,rfl,hb⟩⟩|⟨b,rfl,h1,h2⟩⟩:=h
 ·simp only [vp,yq] at hl;subst hl
  by_cases hk0:k=0
  ·subst hk0;simp at hlen;subst hlen;exact hk .nils H (Own.nil H e size) (Fr.refl H) λ b hb=>.inl hb
  ·have h0:Nat.beq k 0=false:=DI hk0;simp only [bX,h0,zk,yd] at hfit ⊢;simp only [hfit,hs',jf,xk,cm,mK];refine hk _ _ ⟨by simpa using hlen,.inr ⟨H.next,by simp,by rw [xp];omega,?_⟩⟩ ((Fr.refl H).alloc _) λ b hb=>.inr (by rw [hb.2];exact qh _);rw [AHeap.bj,qm rfl];simp
 ·simp only [vp,yq] at hl;subst hl
  by_cases hk0:k=0
  ·subst hk0;simp at hlen;subst hlen;simp only [bX,qf,yn (qh 0),xk,e1,mK];exact hk _ H ⟨by simp,.inl ⟨rfl,.inr ⟨b,rfl,hb⟩⟩⟩ (Fr.refl H) λ b hb=>.inl hb
  ·have h0:Nat.beq k 0=false:=DI hk0;have h3:Nat.ble k 0=false:=by cases hq:Nat.ble k 0 with|false=>rfl|true=>rw [we] at hq;omega
   have h4:firstCells H size 0 (.slice b 0 0 0)=some []:=rfl;simp only [bX,yd,h3,zk] at hfit ⊢;simp only [hfit,yn (zq k),hs',jf,xk,h4,qn,jF,je,cm,mK];refine hk _ _ ⟨by simpa using hlen,.inr ⟨H.next,by simp,by rw [xp];omega,?_⟩⟩ ((Fr.refl H).alloc _) λ b hb=>.inr (by rw [hb.2];exact qh _);rw [AHeap.bj,qm rfl];simp
 ·by_cases hk0:k=0
  ·subst hk0;simp at hlen;subst hlen;simp only [bX,Nat.beq,xk,yd,yn (qh n),mK];refine hk _ _ ⟨by simpa using hl,.inr ⟨b,rfl,h1,by simpa using h2⟩⟩ (Fr.refl H) λ b hb=>.inl hb
  ·have h0:Nat.beq k 0=false:=DI hk0;have h3:Nat.ble (0+n+k) n=false:=by cases hq:Nat.ble (0+n+k) n with|false=>rfl|true=>rw [we] at hq;omega
   simp only [bX,h0,zk,e1,yd,yn (qh n),hs',jf,xk] at h3 ⊢;simp only [h3,zk,hfit,xk,h2,e1,jf,Nat.beq,yn (zq (n*size)),cm,mK];refine hk _ _ ⟨by simp [hl,hlen,kh],.inr ⟨H.next,by simp [xU],by rw [xp,xU];omega,?_⟩⟩ (((Fr.refl H).kill (.inl ⟨by simp,rfl⟩)).alloc _) λ b hb=>.inr (by rw [hb.2];exact qh _);rw [AHeap.bj,xU,qm rfl,jF]
theorem KQ (e n:Nat) (zero:List AV) (v:AV) (hz:zero.length=n) (hv:v.cells.length=n):Op.buildSlice e 1 zero [(0,n)] [v]=some (.row v.cells e (0,0) true,Op.sliceTo 1 1):=by
 have e1:∀ n,Nat.beq n n=true:=λ n=>by simp
 simp only [Op.buildSlice,dh,jF,zb,eW,zN,hv,e1,xk,wM,yd,hz,qm (qh n),CN,je,qn];rw [j3 (by omega)];simp
theorem sH {H:AHeap} {size e:Nat} {cells:List AV} (hc:cells.length=size):Sl (H.alloc (.row cells e (0,0) true)) size (Op.sliceTo 1 1 H.next) 1 cells:=by
 refine ⟨by simp [hc],rfl,qh 1,.inr ⟨by rw [xp];omega,cells,xb (by rw [AHeap.bj,qm rfl]),?_⟩⟩;rw [oe,qm (by simp [hc])];simp [<-hc]
theorem Ar {H:AHeap} {e size bytes:Nat} {v:AV} {n:Nat} {cells:List AV} (h:Own H e size v n cells) {zero:List AV} {x:AV} (hz:zero.length=size) (hx:x.cells.length=size) (hnew:aX x.cells=true) (hs:0<size)
 (hf:(n+1)*bytes<=140737488355328) (hf':n+1<=140737488355328) {K:bK->(Nat->AV)->Bool->AV->AHeap->Prop} {m:Bool}
 (hk:∀ v' H',Own H' e size v' (n+1) (cells++x.cells)->Fr (bC v) H H'->(∀ b,bC v' b->bC v b\/H.next<=b)->K (.row x.cells e (0,0) true) (Op.sliceTo 1 1) aA v' H') :
 mK m (Op.buildSlice e 1 zero [(0,size)] [x]) λ g o mk=>mK g (Op.append e size bytes [v,mk H.next] (H.alloc o)) (K o mk):=by
 rw [KQ e size zero x hz hx];have hfr:Fr Em H (H.alloc (.row x.cells e (0,0) true)):=(Fr.refl H).alloc _;refine mK.intro rfl ?_;refine qya (m:=aA) (h.em hfr) (sH hx) hnew hs hf hf' λ v' H' h1 h2 h3=>hk v' H' h1 ?_ λ b hb=>?_
 ·exact ⟨xu hfr.next h2.next,λ b hb hw=>by rw [h2.ae b (qp hb hfr.next) hw,hfr.ae b hb (λ q=>q)]⟩
 ·exact (h3 b hb).imp id λ q=>xu hfr.next q
theorem Dp.intro {W:St->bU->Prop} {ae:Option (List Nat)} {st:St} {Q:bU} (I:Nat->St->Prop) (n:Nat) (h0:I n st)
 (h:∀ n st,I n st->W (fT ae st) λ e st'=>match e with
  | .normal=>∃ m,m<n/\I m st'
  | e=>Q e st'):Dp W ae st Q:=⟨I,⟨n,h0⟩,h⟩
end Go.Am
namespace Go.Am
theorem yN (H:AHeap) (tm:T AV) (t:Nat) (rs:List cQ):cH H tm (.tmp t::rs)=(tm.get t).bind λ v=>(cH H tm rs).bind λ vs=>some (v::vs):=rfl
theorem q9v (H:AHeap) (tm:T AV) (t:Nat) (rs:List cQ):cH H tm (.gn t::rs)=(((tm.get t).bind λ v=>Op.aa [v] H)).bind λ v=>(cH H tm rs).bind λ vs=>some (v::vs):=by
 simp only [cH,FQ];congr 1;cases tm.get t with
 | none=>rfl
 | some v=>cases v<;>rfl
theorem q9w (H:AHeap) (tm:T AV) (n t:Nat) (rs:List cQ):cH H tm (.cz n t::rs)=(((tm.get t).bind λ v=>Op.ao n [v] H)).bind λ v=>(cH H tm rs).bind λ vs=>some (v::vs):=by
 simp only [cH,FQ];congr 1;cases tm.get t with
 | none=>rfl
 | some v=>cases v<;>rfl
theorem NQ (v:AV):c7 [v]=v:=rfl
theorem Nh:c7 []=.tuple []:=rfl
theorem Ng (a b:AV) (l:List AV):c7 (a::b::l)=.tuple (a::b::l):=rfl
theorem HF (b:Nat):Op.ptrTo b=.ptr b 0:=rfl
theorem qC (t:bR) (x y:AV) (H:AHeap) (q:Bool) (h:bg t x y=some q):Op.eq (.agg t) false [x,y] H=some (.bool q):=by simp [Op.eq,Ck,h]
structure J3 where
 kind:Int
 time:Int
 core:Int
 block:Int
 KZ:Int
 lane:Int
 addr:Int
 value:Int
 code:Int
deriving DecidableEq
def J3.enc (x:J3):List AV:=[.int .i64 x.kind,.int .i64 x.time,.int .i64 x.core,.int .i64 x.block,.int .i64 x.KZ,.int .i64 x.lane,.int .i64 x.addr,.int .u64 x.value,.int .i64 x.code]
theorem J3.len (x:J3):x.enc.length=9:=rfl
end Go.Am
namespace Go.Am
theorem qy (H:AHeap) (o:bK):(H.alloc o).get H.next=some o:=by rw [AHeap.bj,qm rfl]
theorem Kg {H:AHeap} {b:Nat} (h:b<H.next) (o:bK):(H.alloc o).get b=H.get b:=by rw [AHeap.bj,qe (by omega)]
theorem xe (H:AHeap) (b:Nat) (o:bK):(H.set b o).get b=some o:=by rw [AHeap.aJ,qm rfl]
theorem vk {H:AHeap} {b b':Nat} (h:b ≠ b') (o:bK):(H.set b o).get b'=H.get b':=by rw [AHeap.aJ,qe h]
theorem oA {H:AHeap} {b:Nat} {c:List AV} {e:Nat} (h:H.get b=some (.row c e (0,0) true)) {o n:Nat} {v:AV} (hv:v.cells.length=n) (hn:o+n<=c.length) (h1:aX v.cells=true) :
 Op.store n [.ptr b o,v] H=some (.undef,H.set b (.row (c.take o++v.cells++c.drop (o+n)) e (0,0) true)):=by
 have e1:∀ n,Nat.beq n n=true:=λ n=>by simp
 simp only [Op.store,zN,hv,e1,xk,AHeap.store,h1,h];have:cM (0,0) o n=true:=by simp [cM]
 simp only [this,xk,wM,hv,qm hn,qn]
theorem q4h {H:AHeap} {b m s:Nat} {c:List AV} {e:Nat} (h:H.get b=some (.grown m s c e (0,0))) {o n:Nat} {v:AV} (hv:v.cells.length=n) (hn:o+n<=c.length) (h1:aX v.cells=true) :
 Op.store n [.ptr b o,v] H=some (.undef,H.set b (.grown m s (c.take o++v.cells++c.drop (o+n)) e (0,0))):=by
 have e1:∀ n,Nat.beq n n=true:=λ n=>by simp
 simp only [Op.store,zN,hv,e1,xk,AHeap.store,h1,h];have:cM (0,0) o n=true:=by simp [cM]
 simp only [this,xk,wM,hv,qm hn,qn]
def d9 {α:Type} (enc:α->List AV) (e size:Nat) (H:AHeap) (v:AV) (xs:List α):Prop:=Own H e size v xs.length (xs.flatMap enc)
structure rA {α:Type} (enc:α->List AV) (e size:Nat) (H0 H:AHeap) (v:AV) (xs:List α):Prop where
 own:d9 enc e size H v xs
 fr:Fr Em H0 H
 fresh:∀ b,bC v b->H0.next<=b
section
variable {α:Type} {enc:α->List AV} {e size:Nat} {H0 H H':AHeap} {v:AV} {xs:List α}
theorem eJ.one (h:eJ enc size H v xs):bn v=true:=Sl.one h
theorem rA.nil (H:AHeap):rA enc e size H H .nils ([]:List α):=⟨Own.nil H e size,Fr.refl H,λ b h=>(h.1 rfl).elim⟩
theorem rA.sl (h:rA enc e size H0 H v xs):eJ enc size H v xs:=Own.sl h.own
theorem d9.sl (h:d9 enc e size H v xs):eJ enc size H v xs:=Own.sl h
theorem rA.em (h:rA enc e size H0 H v xs) (f:Fr Em H H'):rA enc e size H0 H' v xs:=⟨Own.em h.own f,h.fr.em f,h.fresh⟩
theorem rA.len (h:rA enc e size H0 H v xs):Op.bJ [v]=some (.int .i64 xs.length):=h.sl.len
theorem rA.step (h:rA enc e size H0 H v xs) {v':AV} {ys:List α} (h1:d9 enc e size H' v' ys) (h2:Fr (bC v) H H') (h3:∀ b,bC v' b->bC v b\/H.next<=b):rA enc e size H0 H' v' ys :=
 ⟨h1,h.fr.trans h2 λ x hx=>.inr (h.fresh x hx),λ b hb=>(h3 b hb).elim (h.fresh b) λ q=>xu h.fr.next q⟩
theorem Ke {f:α->List AV} (hs:∀ x,(f x).length=size):∀ (xs:List α) {i:Nat} {x:α},xs[i]? = some x -> ∀ (y:α),(xs.set i y).flatMap f=(xs.flatMap f).take (i*size)++f y++(xs.flatMap f).drop (i*size+size)
 | [],i,x,h,y=>by simp at h
 | z::zs,0,x,h,y=>by
  simp at h;subst h;simp only [List.set_cons_zero,ju,vp,CN,je,yd];rw [kx (by rw [hs];omega),j3 (by rw [hs];omega),je]
 | z::zs,i+1,x,h,y=>by
  simp only [zx] at h;have e1:(f z++zs.flatMap f).take ((i+1)*size)=f z++(zs.flatMap f).take (i*size):=by
   rw [show (i+1)*size=(f z).length+i*size from by rw [hs,px];omega,List.take_length_add_append]
  have e2:(f z++zs.flatMap f).drop ((i+1)*size+size)=(zs.flatMap f).drop (i*size+size):=by
   rw [show (i+1)*size+size=(f z).length+(i*size+size) from by rw [hs,px];omega,List.drop_length_add_append]
  rw [List.set_cons_succ,ju,ju,Ke hs zs h y,e1,e2];simp only [zi]
theorem xQ (hs:∀ x,(enc x).length=size) (l:List α):(l.flatMap enc).length=l.length*size:=by
 induction l with
 | nil=>simp
 | cons a l ih=>rw [ju,qx,hs,ih,yi,px];omega
theorem AB {L E:List AV} {k0 j:Nat} {u:AV} (hE:E.length=size) (hj:j<size) (hk:k0+size<=L.length) (h:∀ r,r<size->L[k0+r]? = E[r]?) :
 L.take k0++E.set j u++L.drop (k0+size)=L.set (k0+j) u:=by
 refine ky λ k=>?_;have h1:(L.take k0).length=k0:=by rw [j6];omega
 rw [zi,List.getElem?_set];rcases jr k k0 with q|q
 ·rw [km (by omega),kr,qm q,qe (by omega)]
 ·rw [jh (by omega),h1];obtain ⟨r,rfl⟩:∃ r,k=k0+r:=⟨k-k0,by omega⟩
  rw [show k0+r-k0=r from by omega];rcases jr r size with q'|q'
  ·rw [km (by rw [xc];omega),List.getElem?_set]
   by_cases hjr:j=r
   ·subst hjr;rw [qm rfl,qm rfl,qm (by omega),qm (by omega)]
   ·rw [qe hjr,qe (by omega),h r q']
  ·rw [jh (by rw [xc];omega),xc,yb,qe (by omega)];congr 1;omega
end
end Go.Am
namespace Go.Am
theorem pR {k mx d:Nat} {z:Int} (hz:z=k) (h:k<=mx) (kk:IntKind):bound (some (.int kk z)) d mx=some k:=by
 subst hz;show cond (Nat.ble k mx) (some k) none=some k;rw [yn h];rfl
theorem Sl.from {H:AHeap} {size:Nat} {v:AV} {n:Nat} {cells:List AV} (h:Sl H size v n cells) {k:Nat} (hk:k<=n) {z:Int} (hz:z=k) (kk:IntKind) :
 ∃ v',Op.aQ size [some 0,none,none] [v,.int kk z]=some v'/\Sl H size v' (n-k) (cells.drop (k*size))/\(v'=.nils\/aN v'=aN v):=by
 obtain ⟨hl,h⟩:=h;have hlen:(cells.drop (k*size)).length=(n-k)*size:=by rw [j5,hl,Nat.sub_mul]
 have hkn:k*size<=n*size:=kc _ hk;have hsub:(n-k)*size=n*size-k*size:=Nat.sub_mul n k size;split at h
 ·subst h;have:k=0:=by omega
  subst this;refine ⟨.nils,?_,⟨hlen,rfl⟩,.inl rfl⟩;have hbn:bound none 0 0=some 0:=rfl;simp [Op.aQ,arg,iS,c6,hbn,pR hz (qh 0)]
 ·rename_i b o m c;obtain ⟨rfl,hc,h⟩:=h;have hb1:∀ d m,bound none d m=some d:=λ _ _=>rfl;refine ⟨.slice b (cond (Nat.beq c k) o (o+k*size)) (m-k) (c-k),by simp [Op.aQ,arg,iS,c6,hb1,pR hz hk],⟨hlen,rfl,by omega,?_⟩,.inr rfl⟩;rcases h with h|⟨hb,all,h1,h2⟩
  ·left;omega
  ·by_cases he:c=k
   ·left;omega
   ·right;obtain ⟨h3,rfl⟩:=Jv h2;refine ⟨hb,all,h1,?_⟩;rw [DI he,zk,oe,qm (by omega),List.drop_take,Bp];simp [hsub]
 ·rename_i b i m s alt q;obtain ⟨rfl,rfl,hm,h⟩:=h;have e1:∀ n,Nat.beq n n=true:=λ n=>by simp
  have hb1:∀ d m,bound none d m=some d:=λ _ _=>rfl;have hq:=yn (show q<=m-i by omega);have him:=yn (show i<=m by omega);refine ⟨.gslice b (i+k) m s (cond (Nat.beq k 0) alt (i*s)) (q-k),by simp only [Op.aQ,arg,iS,jl,qn,c6,hb1,pR hz hk,e1,him,hq,jf,xk],⟨hlen,rfl,rfl,by omega,?_⟩,.inr rfl⟩;rcases h with h|⟨hb,all,h1,h2⟩
  ·left;omega
  ·right;obtain ⟨h3,rfl⟩:=Jv h2;refine ⟨hb,all,h1,?_⟩;rw [oe,qm (by rw [kh];omega),List.drop_take,Bp,kh];simp [hsub]
 ·rename_i b;obtain ⟨rfl,hb⟩:=h;have:k=0:=by omega
  subst this;have hbn:bound none 0 0=some 0:=rfl;refine ⟨.eslice b,?_,⟨hlen,rfl,hb⟩,.inr rfl⟩;simp [Op.aQ,arg,iS,c6,hbn,pR hz (qh 0)]
 ·exact h.elim
section
variable {α:Type} {enc:α->List AV} {size:Nat} {H H':AHeap} {v:AV} {xs:List α}
theorem qsu (hs:∀ x,(enc x).length=size):∀ (xs:List α) (k:Nat),(xs.flatMap enc).drop (k*size)=(xs.drop k).flatMap enc
 | [],k=>by simp
 | x::xs,0=>by simp
 | x::xs,k+1=>by
  rw [ju,show (k+1)*size=(enc x).length+k*size from by rw [hs,px];omega,List.drop_length_add_append,qsu hs xs k];rfl
theorem eJ.from (hs:∀ x,(enc x).length=size) (h:eJ enc size H v xs) {k:Nat} (hk:k<=xs.length) {z:Int} (hz:z=k) (kk:IntKind) :
 ∃ v',Op.aQ size [some 0,none,none] [v,.int kk z]=some v'/\eJ enc size H v' (xs.drop k)/\(v'=.nils\/aN v'=aN v):=by
 obtain ⟨v',h1,h2,h3⟩:=Sl.from h hk hz kk
 refine ⟨v',h1,?_,h3⟩;unfold eJ;rw [j5,<-qsu hs];exact h2
def dp (enc:α->List AV) (e size:Nat) (H:AHeap) (v:AV) (xs:List α):Prop:=∃ b,v=.slice b 0 xs.length xs.length/\b<H.next/\H.get b=some (.row (xs.flatMap enc) e (0,0) true)
theorem dp.sl {e:Nat} (hs:∀ x,(enc x).length=size) (h:dp enc e size H v xs):eJ enc size H v xs:=by
 obtain ⟨b,rfl,h1,h2⟩:=h;refine ⟨xQ hs xs,rfl,qh _,.inr ⟨h1,_,xb h2,?_⟩⟩;rw [oe,qm (by rw [xQ hs];omega),FJ,zh (by rw [xQ hs];omega)]
theorem dp.fr {e:Nat} {W:Nat->Prop} (h:dp enc e size H v xs) (f:Fr W H H') (hw:¬ W (aN v)):dp enc e size H' v xs:=by
 obtain ⟨b,rfl,h1,h2⟩:=h;exact ⟨b,rfl,qp h1 f.next,by rw [f.ae b h1 hw];exact h2⟩
theorem dp.lt {e:Nat} (h:dp enc e size H v xs):aN v<H.next:=by
 obtain ⟨b,rfl,h1,h2⟩:=h;exact h1
theorem dp.Al {e:Nat} (hs:∀ x,(enc x).length=size) (h:dp enc e size H v xs) {i:Nat} {x y:α} (hx:xs[i]? = some x) {j:Nat} (hj:j<size) {u:AV} (hu:bn u=true) (hy:enc y=(enc x).set j u) :
 ∃ H',Op.store 1 [.ptr (aN v) (cr size v i+j),u] H=some (.undef,H')/\dp enc e size H' v (xs.set i y)/\Fr (On (aN v)) H H':=by
 obtain ⟨b,rfl,h1,h2⟩:=h;have hi:=Bg hx;have hl:=xQ hs xs;have hb:(i+1)*size<=xs.length*size:=kc _ hi;rw [px] at hb;have hc:u.cells=[u]:=by cases u<;>first|rfl|cases hu
 have hst:=oA h2 (o:=i*size+j) (n:=1) (v:=u) (by rw [hc];rfl) (by omega) (by rw [hc,nZ];simpa using hu);have ho:cr size (AV.slice b 0 xs.length xs.length) i=i*size:=by simp [cr]
 rw [ho];refine ⟨_,hst,⟨b,?_,h1,?_⟩,(Fr.refl H).set (W:=On b) (.inl rfl) _⟩
 ·rw [xc]
 ·rw [xe,Ke hs xs hx,hy,hc,AB (L:=xs.flatMap enc) (E:=enc x) (hs x) hj (by omega) (λ r hr=>Ch hs xs hx hr),List.set_eq_take_append_cons_drop,qm (by omega)];simp
end
theorem JS (e bytes:Nat) (z:List AV) (n:Nat) (k k':IntKind) (h:n*bytes<=140737488355328) (h':n<=140737488355328) :
 Op.mkSlice e bytes z [.int k n,.int k' n]=some (.row (dh n z) e (0,0) true,Op.sliceTo n n):=by
 have h1:nh 0 (n:Int)=true:=by rw [wV];simp
 have h2:nh (n:Int) n=true:=by rw [wV];simp
 have h3:nh ((n:Int)*(bytes:Int)) 140737488355328=true:=by rw [wV];simp;omega
 have h4:nh (n:Int) 140737488355328=true:=by rw [wV];simp;omega
 simp [Op.mkSlice,h1,h2,h3,h4]
end Go.Am
namespace Go.Am
theorem q4l {tm:T AV} {x:bA} {K K':AV->Prop} (h:wR tm x K) (hk:∀ v,K v->K' v):wR tm x K':=by
 obtain ⟨v,h1,h2⟩:=h.elim;cases x with
 | tmp t=>simp only [lf] at h1;simp only [wR,bq,h1];exact hk v h2
 | const c=>injection h1 with h1;subst h1;exact hk _ h2
 | cY c=>injection h1 with h1;subst h1;exact hk _ h2
 | func c=>injection h1 with h1;subst h1;exact hk _ h2
theorem A5 {tm:T AV}:∀ {l:List bA} {K K':List AV->Prop},jW tm l K->(∀ v,K v->K' v)->jW tm l K'
 | [],K,K',h,hk=>hk _ h
 | .tmp t::xs,K,K',h,hk=>by
  simp only [jW] at h ⊢;unfold bq at h ⊢;split at h
  ·exact A5 h λ vs=>hk _
  ·exact h.elim
 | .const v::xs,K,K',h,hk=>A5 (l:=xs) h λ vs=>hk _
 | .cY v::xs,K,K',h,hk=>A5 (l:=xs) h λ vs=>hk _
 | .func v::xs,K,K',h,hk=>A5 (l:=xs) h λ vs=>hk _
theorem wU {α:Type} {m:Bool} {o:Option α} {K K':α->Prop} (h:bq m o K) (hk:∀ a,K a->K' a):bq m o K':=by
 cases o with
 | none=>exact h
 | some a=>exact hk a h
theorem qx9 {α β:Type} {m:Bool} {o:Option (α × β)} {K K':α -> β->Prop} (h:eN m o K) (hk:∀ a b,K a b->K' a b):eN m o K':=by
 cases o with
 | none=>exact h
 | some a=>exact hk a.1 a.2 h
section
variable {AP:aL}
theorem Js {m:Bool} {f:ff} {vs:List AV} {H:AHeap} {K K':AV->AHeap->Prop} {E E':aC->AHeap->Prop} (h:ib AP m f vs H K E) (hk:∀ v H,K v H->K' v H) (he:∀ c H,E c H->E' c H):ib AP m f vs H K' E':=by
 obtain ⟨e,H',h1,h2⟩:=h;refine ⟨e,H',h1,?_⟩;cases e with
 | ret v=>exact hk _ _ h2
 | panic c=>exact he _ _ h2
theorem Hj {ps:Option (List Nat)} {tm:T AV} {aR:List aM} {up:Option aC} {Q Q':bU} (hq:∀ e st,Q e st->Q' e st) (c:aC) (H:AHeap) (h:wJ ps tm aR up Q c H):wJ ps tm aR up Q' c H:=by
 cases ps with
 | none=>exact h
 | some ds=>exact hq _ _ h
theorem q4n {ctx:Ctx} {dst:Option Nat} {ps:Option (List Nat)} {st:St} {Q Q':bU} {K K':St->Prop} {vs:List AV} {op:dD} (h:jY AP ctx dst ps st Q K vs op) (hq:∀ e st,Q e st->Q' e st) (hk:∀ st,K st->K' st):jY AP ctx dst ps st Q' K' vs op:=by
 cases op with
 | pure f=>exact wU (m:=aA) h λ _=>hk _
 | read f=>exact wU (m:=aA) h λ _=>hk _
 | alloc f=>simp only [jY] at h ⊢;exact qx9 h λ _ _=>hk _
 | eE f=>simp only [jY] at h ⊢;exact qx9 h λ _ _=>hk _
 | ew f=>exact Js (m:=aA) h (λ _ _=>hk _) (Hj hq)
 | eD =>
  simp only [jY,DJ] at h ⊢;split at h
  ·exact Js h (λ _ _=>hk _) (Hj hq)
  ·exact Js h (λ _ _=>hk _) (Hj hq)
  ·exact h.elim
 | invoke n =>
  simp only [jY,EF] at h ⊢;split at h
  ·exact wU h λ _ q=>Js q (λ _ _=>hk _) (Hj hq)
  ·exact h.elim
 | recover =>
  simp only [jY,nM] at h ⊢;split at h
  ·refine ⟨h.1,?_⟩;have h2:=h.2;split at h2<;>exact hk _ h2
  ·exact h.elim
 | defer =>
  simp only [jY,uy] at h ⊢;refine ⟨h.1,?_⟩;have h2:=h.2;split at h2
  ·exact hk _ h2
  ·exact h2.elim
 | panic =>
  simp only [jY,dT] at h ⊢;split at h
  ·exact Hj hq _ _ h
  ·exact h.elim
theorem q7y {ctx:Ctx} {s:aU} {st:St} {Q Q':bU} {K K':St->Prop} (h:oH AP ctx s st Q K) (hq:∀ e st,Q e st->Q' e st) (hk:∀ st,K st->K' st):oH AP ctx s st Q' K':=by
 obtain ⟨eC,dst,guard,args,op,ps⟩:=s;cases eC with
 | false =>
  cases guard with
  | none=>exact A5 h λ _ q=>q4n q hq hk
  | some g =>
   refine wU (m:=aA) h λ w q=>?_;cases w with
   | true=>exact A5 (K:=_) q λ _ q=>q4n q hq hk
   | false=>exact hk _ q
 | true =>
  cases guard with
  | none=>exact A5 h λ _ q=>⟨q.1,hk _ q.2⟩
  | some g =>
   refine wU (m:=aA) h λ w q=>?_;cases w with
   | true=>exact A5 (K:=_) q λ _ q=>⟨q.1,hk _ q.2⟩
   | false=>exact ⟨q.1,hk _ q.2⟩
theorem q4o {ctx:Ctx}:∀ {l:List aU} {st:St} {Q Q':bU},lh AP ctx l st Q->(∀ e st,Q e st->Q' e st)->lh AP ctx l st Q'
 | [],st,Q,Q',h,hq=>hq _ _ h
 | s::rest,st,Q,Q',h,hq=>q7y h hq λ st' h'=>q4o h' hq
theorem FY {ctx:Ctx} {st:St} {k:Nat} {H0:AHeap} {aR:List aM} {d:Nat} {Q Q':bU} {v:AV} (h:hZ AP ctx st k H0 aR d Q v) (hq:∀ e st,Q e st->Q' e st):hZ AP ctx st k H0 aR d Q' v:=by
 unfold hZ at h ⊢;split at h
 ·obtain ⟨e,H',h1,h2⟩:=h;refine ⟨e,H',h1,?_⟩;cases e with
  | panic c=>exact hq _ _ h2
  | ret v=>obtain ⟨s,p,f,k,tm,d,q1,q2,q3⟩:=h2;exact ⟨s,p,f,k,tm,d,q1,q2,hq _ _ q3⟩
 ·exact h.elim
theorem mg {ctx:Ctx}:∀ {c:ah} {st:St} {Q Q':bU},WP AP ctx c st Q->(∀ e st,Q e st->Q' e st)->WP AP ctx c st Q'
 | .skip,st,Q,Q',h,hq=>hq _ _ h
 | .label _,st,Q,Q',h,hq=>hq _ _ h
 | .exit _,st,Q,Q',h,hq=>hq _ _ h
 | .goto _,st,Q,Q',h,hq=>hq _ _ h
 | .ret,st,Q,Q',h,hq=>hq _ _ h
 | .stuck,st,Q,Q',h,hq=>h.elim
 | .region l,st,Q,Q',h,hq=>q4o h hq
 | .seq a b,st,Q,Q',h,hq=>mg (c:=a) h λ e st' h'=>by
  cases e with
  | normal=>exact mg (c:=b) h' hq
  | exit _=>exact hq _ _ h'
  | goto _=>exact hq _ _ h'
  | ret=>exact hq _ _ h'
  | panic _=>exact hq _ _ h'
 | .cond c a b,st,Q,Q',h,hq=>q4l h λ v q=>wU (m:=aA) q λ w q=>by
  cases w with
  | true=>exact mg (c:=a) q hq
  | false=>exact mg (c:=b) q hq
 | .block id b,st,Q,Q',h,hq=>mg (c:=b) h λ e st' h'=>by cases e<;>exact hq _ _ h'
 | .scope b,st,Q,Q',h,hq=>mg (c:=b) h λ e st' h'=>by
  cases e with
  | goto l=>exact ⟨h'.1,hq _ _ h'.2⟩
  | normal=>exact hq _ _ h'
  | exit _=>exact hq _ _ h'
  | ret=>exact hq _ _ h'
  | panic _=>exact hq _ _ h'
 | .loop ae b,st,Q,Q',⟨I,h0,h⟩,hq=>⟨I,h0,λ n st hi=>mg (c:=b) (h n st hi) λ e st' h'=>by cases e<;>first|exact h'|exact hq _ _ h'⟩
 | .rangeFunc f k,st,Q,Q',h,hq=>q4l h λ v q=>by
  unfold AR at q ⊢;split at q
  ·exact FY q hq
  ·exact wU (m:=aA) q λ d q=>FY q hq
def dE:aE->Prop
 | .exit _=>True
 | .goto _=>True
 | .ret=>True
 | _=>False
end
end Go.Am
namespace Go.Am
noncomputable section
abbrev aI:=aE->Env->List aM->AHeap->Prop
def lk (E:Env) (t:Nat):Option AV:=List.rec (motive:=λ _=>Option AV) none (λ p _ ih=>cond (Nat.beq p.1 t) (some p.2) ih) E
theorem vF (t:Nat):lk [] t=none:=rfl
theorem oX (k t:Nat) (v:AV) (E:Env):lk ((k,v)::E) t=if k=t then some v else lk E t:=by
 show cond (Nat.beq k t) (some v) (lk E t)=_;cases hb:Nat.beq k t with
 | true=>rw [qm (Nat.eq_of_beq_eq_true hb)];rfl
 | false=>rw [qe (Il hb)];rfl
def bM (t:Nat) (l:List Nat):Bool:=List.rec (motive:=λ _=>Bool) false (λ x _ ih=>cond (Nat.beq x t) true ih) l
def dt (ks:List Nat) (E:Env) (tm:T AV):Prop:=∀ t v,lk E t=some v->tm.get t=some v/\bM t ks=true
def mP:Env->Env->Prop
 | [],_=>True
 | (k,v)::r,E=>lk E k=some v/\mP r E
theorem zE (E:Env):mP [] E=True:=rfl
theorem tS (k:Nat) (v:AV) (r E:Env):mP ((k,v)::r) E=(lk E k=some v/\mP r E):=rfl
theorem mP.look:∀ {A E:Env},mP A E -> ∀ {t:Nat} {v:AV},lk A t=some v->lk E t=some v
 | [],E,_,t,v,h=>by cases h
 | (k,w)::r,E,h,t,v,hl=>by
  rw [oX] at hl;split at hl
  ·rename_i e;subst e;injection hl with hl;subst hl;exact h.1
  ·exact mP.look h.2 hl
theorem mP.sub {ks:List Nat} {A E:Env} (h:mP A E) {tm:T AV} (he:dt ks E tm):dt ks A tm:=λ t v hl=>he t v (h.look hl)
def SS (A E:Env):Prop:=∀ t v,lk A t=some v->lk E t=some v
theorem mP.ss {A E:Env} (h:mP A E):SS A E:=λ t v hl=>h.look hl
theorem SS.sub {ks:List Nat} {A E:Env} (h:SS A E) {tm:T AV} (he:dt ks E tm):dt ks A tm:=λ t v hl=>he t v (h t v hl)
def B3 {α:Type} (m:Bool) (o:Option α) (K:Bool -> α->Prop):Prop:=match o with
 | some a=>K m a
 | none=>False
def aY {α β:Type} (m:Bool) (o:Option (α × β)) (K:Bool -> α -> β->Prop):Prop:=match o with
 | some a=>K m a.1 a.2
 | none=>False
def bo (m:Bool) (v:AV) (A B:Bool->Prop):Prop:=match v with
 | .bool q=>match q with
  | true=>A m
  | false=>B m
 | _=>False
def cw (m:Bool) (q:Bool) (A B:Bool->Prop):Prop:=match q with
 | true=>A m
 | false=>B m
def ui (m:Bool) (o o':Option AV) (K:Bool->Prop):Prop:=(∃ v,o=some v/\o'=some v)/\K m
def A3 (m:Bool) (e:Nat) (z:List AV) (H:AHeap) (K:Bool->AV->AHeap->Prop):Prop:=K m (.ptr H.next 0) (H.alloc (.row z e (0,0) true))
def JN {α:Type} (F:α->Prop) (K:α):Prop:=F K
def aw (m:Bool) (Q:aI) (e:aE) (E:Env) (D:List aM) (H:AHeap):Prop:=Q e E D H
theorem As {α:Type} (a:α) (K:Bool -> α->Prop):B3 true (some a) K=K true a:=propext j2
theorem vD {α β:Type} (a:α) (b:β) (K:Bool -> α -> β->Prop):aY true (some (a,b)) K=K true a b:=propext j2
theorem tn (A B:Bool->Prop):bo true (.bool true) A B=A true:=propext j2
theorem q7p (A B:Bool->Prop):bo true (.bool false) A B=B true:=propext j2
theorem uD (A B:Bool->Prop):cw true true A B=A true:=propext j2
theorem q7q (A B:Bool->Prop):cw true false A B=B true:=propext j2
theorem Jd (v:AV) (K:Bool->Prop):ui true (some v) (some v) K=K true:=propext ⟨λ h=>h.2,λ h=>⟨⟨v,rfl,rfl⟩,h⟩⟩
theorem GR (e:Nat) (z:List AV) (H:AHeap) (K:Bool->AV->AHeap->Prop):A3 true e z H K=K true (.ptr H.next 0) (H.alloc (.row z e (0,0) true)):=propext j2
theorem qi {α:Type} (F:α->Prop) (K:α):JN F K=F K:=propext j2
theorem sY (Q:aI) (e:aE) (E:Env) (D:List aM) (H:AHeap):aw true Q e E D H=Q e E D H:=propext j2
@[congr] theorem GK {α:Type} {m m':Bool} {o o':Option α} {K:Bool -> α->Prop} (hm:m=m') (h:o=o'):B3 m o K=B3 m' o' K:=by subst hm;subst h;rfl
@[congr] theorem Fh {α β:Type} {m m':Bool} {o o':Option (α × β)} {K:Bool -> α -> β->Prop} (hm:m=m') (h:o=o'):aY m o K=aY m' o' K:=by subst hm;subst h;rfl
@[congr] theorem FD {m m':Bool} {v v':AV} {A B:Bool->Prop} (hm:m=m') (h:v=v'):bo m v A B=bo m' v' A B:=by subst hm;subst h;rfl
@[congr] theorem Fo {m m':Bool} {v v':Bool} {A B:Bool->Prop} (hm:m=m') (h:v=v'):cw m v A B=cw m' v' A B:=by subst hm;subst h;rfl
@[congr] theorem Fv {m m':Bool} {o o' p p':Option AV} {K:Bool->Prop} (hm:m=m') (h:o=o') (h':p=p'):ui m o p K=ui m' o' p' K:=by subst hm;subst h;subst h';rfl
@[congr] theorem GP {m m':Bool} {e:Nat} {z z':List AV} {H H':AHeap} {K:Bool->AV->AHeap->Prop} (hm:m=m') (h:z=z') (h':H=H'):A3 m e z H K=A3 m' e z' H' K:=by subst hm;subst h;subst h';rfl
theorem B3.elim {α:Type} {m:Bool} {o:Option α} {K:Bool -> α->Prop} (h:B3 m o K):∃ a,o=some a/\K m a:=by
 cases o with
 | none=>exact False.elim h
 | some a=>exact ⟨a,rfl,h⟩
theorem aY.elim {α β:Type} {m:Bool} {o:Option (α × β)} {K:Bool -> α -> β->Prop} (h:aY m o K):∃ a b,o=some (a,b)/\K m a b:=by
 cases o with
 | none=>exact False.elim h
 | some a=>exact ⟨a.1,a.2,rfl,h⟩
theorem LK.elim {α:Type} {m:Bool} {o:Option α} {K:Bool -> α->Prop} (h:LK m o K):∃ a,o=some a/\K m a:=by
 cases o with
 | none=>exact False.elim h
 | some a=>exact ⟨a,rfl,h⟩
theorem B3.intro {α:Type} {m:Bool} {o:Option α} {K:Bool -> α->Prop} {a:α} (h:o=some a) (hk:K m a):B3 m o K:=by subst h;exact hk
theorem aY.intro {α β:Type} {m:Bool} {o:Option (α × β)} {K:Bool -> α -> β->Prop} {a:α} {b:β} (h:o=some (a,b)) (hk:K m a b):aY m o K:=by subst h;exact hk
theorem bo.cases {m:Bool} {q:Bool} {A B:Bool->Prop} (h1:q=true->A m) (h2:q=false->B m):bo m (.bool q) A B:=by
 cases q with
 | true=>exact h1 rfl
 | false=>exact h2 rfl
theorem cw.cases {m:Bool} {q:Bool} {A B:Bool->Prop} (h1:q=true->A m) (h2:q=false->B m):cw m q A B:=by
 cases q with
 | true=>exact h1 rfl
 | false=>exact h2 rfl
theorem bo.elim {m:Bool} {v:AV} {A B:Bool->Prop} (h:bo m v A B):∃ q,v=.bool q/\(match q with|true=>A m|false=>B m):=by
 unfold bo at h;split at h
 ·exact ⟨_,rfl,h⟩
 ·exact h.elim
section
variable (M:aL)
structure Kp where
 ae:List Nat
 cj:Bool
 named:List Nat
def cW (K:List Nat) (E L:Env):Env:=List.rec (motive:=λ _=>Env) E (λ p _ ih=>cond (bM p.1 K) (p::ih) ih) L
def lY (ds:List Nat) (E:Env):Env:=List.rec (motive:=λ _=>Env) [] (λ p _ ih=>cond (bM p.1 ds) ih (p::ih)) E
def iM (L:Env):List Nat:=List.rec (motive:=λ _=>List Nat) [] (λ p _ ih=>p.1::ih) L
abbrev KR:=Bool->Env->Env->AHeap->Prop
def TV (E L R:Env) (t:Nat) (g:Bool) (K:Bool->Env->AV->Prop):Prop :=
 Option.rec (motive:=λ _=>Prop) (Option.rec (motive:=λ _=>Prop) (LK g (lk E t) λ g v=>K g ((t,v)::R) v) (λ v=>K g R v) (lk R t)) (λ v=>K g R v) (lk L t)
def pP (E L:Env) (l:List bA):Bool->Env->(Bool->Env->List AV->Prop)->Prop:=List.rec (motive:=λ _=>Bool->Env->(Bool->Env->List AV->Prop)->Prop) (λ g R K=>K g R [])
 (λ x _ ih g R K=>bA.casesOn x (λ t=>TV E L R t g λ g R v=>ih g R λ g R vs=>K g R (v::vs)) (λ v=>ih g R λ g R vs=>K g R (v::vs)) (λ b=>ih g R λ g R vs=>K g R (.ptr b 0::vs)) (λ f=>ih g R λ g R vs=>K g R (.fn (.func f) [] []::vs))) l
def C3 (m:Bool) (f:ff) (vs:List AV) (H:AHeap) (K:Bool->AV->AHeap->Prop):Prop:=∃ v H',nK M f vs H (.ret v) H'/\K m v H'
def P3 (m:Bool) (X:aC->AHeap->Prop) (f:ff) (vs:List AV) (H:AHeap) (K:Bool->AV->AHeap->Prop):Prop:=∃ e H',nK M f vs H e H'/\match e with
 | .ret v=>K m v H'
 | .panic c=>X c H'
@[congr] theorem HX {M:aL} {m m':Bool} {f f':ff} {vs vs':List AV} {H H':AHeap} {K:Bool->AV->AHeap->Prop} (hm:m=m') (hf:f=f') (h:vs=vs') (h':H=H'):C3 M m f vs H K=C3 M m' f' vs' H' K:=by subst hm;subst h;subst hf;subst h';rfl
@[congr] theorem Hs {M:aL} {m m':Bool} {X:aC->AHeap->Prop} {f f':ff} {vs vs':List AV} {H H':AHeap} {K:Bool->AV->AHeap->Prop} (hm:m=m') (hf:f=f') (h:vs=vs') (h':H=H'):P3 M m X f vs H K=P3 M m' X f' vs' H' K:=by subst hm;subst h;subst hf;subst h';rfl
def V3 (m:Bool) (vs:List AV) (K:Bool->ff->List AV->Prop):Prop:=match vs with
 | .fn (.func g) first cap::args=>K m (.func g) (first++(args++cap))
 | .fn (.yield l) first []::args=>K m (.yield l) (first++args)
 | _=>False
@[congr] theorem G4 {m m':Bool} {vs vs':List AV} {K:Bool->ff->List AV->Prop} (hm:m=m') (h:vs=vs'):V3 m vs K=V3 m' vs' K:=by subst hm;subst h;rfl
theorem xY (g:Nat) (first cap args:List AV) (K:Bool->ff->List AV->Prop):V3 true (.fn (.func g) first cap::args) K=K true (.func g) (first++(args++cap)):=propext j2
theorem si (l:Nat) (first args:List AV) (K:Bool->ff->List AV->Prop):V3 true (.fn (.yield l) first []::args) K=K true (.yield l) (first++args):=propext j2
def N3 (m:Bool) (name:String) (vs:List AV) (K:Bool->ff->List AV->Prop):Prop:=match vs with
 | .iface t v::args=>B3 m (M.lM t name) λ m g=>K m (.func g) (v::args)
 | _=>False
@[congr] theorem Iv {M:aL} {m m':Bool} {name:String} {vs vs':List AV} {K:Bool->ff->List AV->Prop} (hm:m=m') (h:vs=vs'):N3 M m name vs K=N3 M m' name vs' K:=by subst hm;subst h;rfl
theorem tW (name:String) (t:Nat) (v:AV) (args:List AV) (K:Bool->ff->List AV->Prop):N3 M true name (.iface t v::args) K=B3 true (M.lM t name) λ m g=>K m (.func g) (v::args):=propext j2
def PX (ps:Option (List Nat)) (ks:List Nat) (Q:aI) (E:Env) (D:List aM) (c:aC) (H:AHeap):Prop:=match ps with
 | some ds=>Q (.panic c) (lY ds (lY ks E)) D H
 | none=>False
def uT (cj:Bool) (ps:Option (List Nat)) (L:Env) (Q:aI) (E:Env) (D:List aM) (g:Bool) (f:ff) (vs:List AV) (H:AHeap) (K:Bool->AV->AHeap->Prop):Prop :=
 cond cj (P3 M g (PX ps (iM L) Q E D) f vs H K) (C3 M g f vs H K)
def nV (cj:Bool) (dst:Option Nat) (ps:Option (List Nat)) (Q:aI) (E:Env) (D:List aM) (L R:Env) (H:AHeap) (K:KR) (g:Bool) (vs:List AV):dD->Prop
 | .pure f=>B3 g (f vs) λ g v=>K g (lg dst v L) R H
 | .read f=>B3 g (f vs H) λ g v=>K g (lg dst v L) R H
 | .alloc f=>aY g (f vs) λ g o mk=>K g (lg dst (mk H.next) L) R (H.alloc o)
 | .eE f=>aY g (f vs H) λ g v H=>K g (lg dst v L) R H
 | .ew f=>uT M cj ps L Q E D g (.func f) vs H (λ g v H=>K g (lg dst v L) R H)
 | .eD=>V3 g vs λ g f vs=>uT M cj ps L Q E D g f vs H (λ g v H=>K g (lg dst v L) R H)
 | .invoke name=>N3 M g name vs λ g f vs=>uT M cj ps L Q E D g f vs H (λ g v H=>K g (lg dst v L) R H)
 | .panic=>cond cj (dT vs H (PX ps (iM L) Q E D)) False
 | _=>False
def Nt (L E:Env) (d:Nat):Option AV:=Option.rec (motive:=λ _=>Option AV) (lk E d) (λ v=>some v) (lk L d)
def I0 (dst:Option Nat) (E L R:Env) (H:AHeap) (K:KR) (g:Bool) (vs:List AV):dD->Prop
 | .read f=>match dst with
  | some d=>ui g (f vs H) (Nt L E d) λ g=>K g L R H
  | none=>False
 | _=>False
def wO (cj:Bool) (s:aU) (Q:aI) (E:Env) (D:List aM) (K:KR):KR:=λ g L R H =>
 pP E L s.args g R λ g R vs=>match s.eC with
  | false=>nV M cj s.dst s.bN Q E D L R H K g vs s.op
  | true=>I0 s.dst E L R H K g vs s.op
def jT (cj:Bool) (Q:aI) (E:Env) (D:List aM) (K:KR) (l:List aU):KR:=List.rec (motive:=λ _=>KR) K (λ s _ ih=>wO M cj s Q E D ih) l
abbrev zO:=Option (Nat × Bool) × List aU
def mb:Option (Nat × Bool)->Option (Nat × Bool)->Bool
 | none,none=>true
 | some (t,b),some (u,c)=>cond (Nat.beq t u) (cond b c (!c)) false
 | _,_=>false
def Ej (l:List aU):List zO:=List.rec (motive:=λ _=>List zO) [] (λ s _ ih=>List.casesOn (motive:=λ _=>List zO) ih [(s.guard,[s])] λ g r=>cond (mb g.1 s.guard) ((g.1,s::g.2)::r) ((s.guard,[s])::g::r)) l
def Dk (o:Option Nat) (t:Nat):Bool:=Option.rec (motive:=λ _=>Bool) false (λ d=>Nat.beq d t) o
def oL (t:Nat) (l:List aU):Bool:=List.rec (motive:=λ _=>Bool) true (λ s _ ih=>cond (Dk s.dst t) false (cond s.eC (cond s.dst.isSome ih false) ih)) l
def CT (n:Nat):Type:=Nat.rec (motive:=λ _=>Type) (AHeap->Prop) (λ _ T=>AV->T) n
def kA (n:Nat):(List AV->AHeap->Prop)->CT n:=Nat.rec (motive:=λ n=>(List AV->AHeap->Prop)->CT n) (λ f=>f []) (λ _ ih f v=>ih λ l=>f (v::l)) n
def jM (n:Nat):CT n->List AV->AHeap->Prop:=Nat.rec (motive:=λ n=>CT n->List AV->AHeap->Prop) (λ k _=>k) (λ _ ih k l=>List.casesOn (motive:=λ _=>AHeap->Prop) l (λ _=>False) λ v l=>ih (k v) l) n
def bm (l:List aU):List Nat->List Nat:=List.rec (motive:=λ _=>List Nat->List Nat) (λ acc=>acc) (λ s _ ih acc=>ih (cond s.eC acc (Option.rec (motive:=λ _=>List Nat) acc (λ d=>d::acc) s.dst))) l
def gk (ks:List Nat) (L:Env):List AV->Env:=List.rec (motive:=λ _=>List AV->Env) (λ _=>L) (λ k _ ih l=>List.casesOn (motive:=λ _=>Env) l L λ v l=>(k,v)::ih l) ks
def mf (n:Nat):Env->List AV:=Nat.rec (motive:=λ _=>Env->List AV) (λ _=>[]) (λ _ ih L=>List.casesOn (motive:=λ _=>List AV) L [] λ p L=>p.2::ih L) n
def mI (n:Nat):List AV:=Nat.rec (motive:=λ _=>List AV) [] (λ _ ih=>.undef::ih) n
def IW (cj:Bool) (Q:aI) (E:Env) (D:List aM) (x:zO) (K:KR):KR:=λ g L R H=>match x.1 with
 | none=>jT M cj Q E D K x.2 g L R H
 | some q=>cond (oL q.1 x.2) (TV E L R q.1 g λ g R v=>JN (α:=Bool->CT (ct (bm x.2 [])))
  (λ k=>B3 g (aB q.2 (some v)) λ g w=>cw g w (λ g=>jT M cj Q E D (λ g L _ H=>jM (ct (bm x.2 [])) (k g) (mf (ct (bm x.2 [])) L) H) x.2 g L R H) (λ g=>jM (ct (bm x.2 [])) (k g) (mI (ct (bm x.2 []))) H))
  (λ g=>kA (ct (bm x.2 [])) λ vs H=>K g (gk (bm x.2 []) L vs) R H)) False
def qX (cj:Bool) (Q:aI) (E:Env) (D:List aM) (K:KR) (l:List zO):KR:=List.rec (motive:=λ _=>KR) K (λ x _ ih=>IW M cj Q E D x ih) l
def mq (cj:Bool) (Q:aI) (E:Env) (D:List aM) (l:List aU) (g:Bool) (H:AHeap) (K:KR):Prop:=qX M cj Q E D K (Ej l) g [] [] H
abbrev WX:=Bool->aI->Env->List aM->AHeap->Prop
def aj (X:WX) (Q:aI):aI:=λ e E D H=>match e with
 | .normal=>X true Q E D H
 | e=>Q e E D H
def aF (id:Nat) (Q:aI):aI:=λ e E D H=>match e with
 | .exit id'=>Q (cond (Nat.beq id id') .normal (.exit id')) E D H
 | e=>Q e E D H
def mF (b:ah) (Q:aI):aI:=λ e E D H=>match e with
 | .goto l=>wG b l=false/\Q (.goto l) E D H
 | e=>Q e E D H
abbrev CS:=Nat->Env->List aM->AHeap->Prop
def LP3 (I:CS) (n:Nat) (Q:aI):aI:=λ e E D H=>match e with
 | .normal=>∃ m E',I m E' D H/\SS E' E/\m<n
 | e=>Q e E D H
def bu (X:WX) (Q:aI) (E:Env) (D:List aM) (H:AHeap):Prop :=
 ∃ I:CS,(∃ n E0,I n E0 D H/\SS E0 E) /\ ∀ n E D H,I n E D H->X true (LP3 I n Q) E D H
def eK (ks:List Nat) (ctx:Ctx) (k:Nat) (E:Env) (D:List aM) (H:AHeap) (Q:aI) (v:AV):Prop :=
 ∀ tm up,dt ks E tm->AR M ctx k ⟨tm,D,up,H⟩ (λ e st=>st.up=up/\st.tm=tm/\Q e E st.aR st.H) v
def OV (E:Env) (x:bA) (g:Bool) (K:Bool->AV->Prop):Prop:=match x with
 | .tmp t=>LK g (lk E t) K
 | .const v=>K g v
 | .cY b=>K g (.ptr b 0)
 | .func f=>K g (.fn (.func f) [] [])
def CV (E L R:Env) (x:bA) (g:Bool) (K:Bool->AV->Prop):Prop:=match x with
 | .tmp t=>TV E L R t g λ g _ v=>K g v
 | .const v=>K g v
 | .cY b=>K g (.ptr b 0)
 | .func f=>K g (.fn (.func f) [] [])
def W3 (ctx:Ctx) (K:Kp):ah->Bool->aI->Env->List aM->AHeap->Prop
 | .skip,g,Q,E,D,H=>aw g Q .normal E D H
 | .label _,g,Q,E,D,H=>aw g Q .normal E D H
 | .exit id,g,Q,E,D,H=>aw g Q (.exit id) E D H
 | .goto l,g,Q,E,D,H=>aw g Q (.goto l) E D H
 | .ret,g,Q,E,D,H=>aw g Q .ret E D H
 | .stuck,_,_,_,_,_=>False
 | .region l,g,Q,E,D,H=>mq M K.cj Q E D l g H λ g L _ H=>aw g Q .normal (cW K.ae E L) D H
 | .seq a b,g,Q,E,D,H=>match a,b with
  | .region l,.cond c x y=>mq M K.cj Q E D l g H λ g L R H=>CV E L R c g λ g v=>bo g v (λ g=>W3 ctx K x g Q (cW K.ae E L) D H) (λ g=>W3 ctx K y g Q (cW K.ae E L) D H)
  | .region l,.seq (.cond c x y) r=>mq M K.cj Q E D l g H λ g L R H=>CV E L R c g λ g v=>bo g v (λ g=>W3 ctx K x g (aj (W3 ctx K r) Q) (cW K.ae E L) D H) (λ g=>W3 ctx K y g (aj (W3 ctx K r) Q) (cW K.ae E L) D H)
  | .region l,b=>mq M K.cj Q E D l g H λ g L _ H=>W3 ctx K b g Q (cW K.ae E L) D H
  | a,b=>W3 ctx K a g (aj (W3 ctx K b) Q) E D H
 | .cond c x y,g,Q,E,D,H=>OV E c g λ g v=>bo g v (λ g=>W3 ctx K x g Q E D H) (λ g=>W3 ctx K y g Q E D H)
 | .block id b,g,Q,E,D,H=>W3 ctx K b g (aF id Q) E D H
 | .scope b,g,Q,E,D,H=>W3 ctx K b g (mF b Q) E D H
 | .loop (some _) _,_,_,_,_,_=>False
 | .loop none b,g,Q,E,D,H=>bu (W3 ctx K b) Q E D H
 | .rangeFunc f k,g,Q,E,D,H=>OV E f g λ g v=>eK M K.ae ctx k E D H Q v
end
structure gF (E L R:Env) (tm:T AV):Prop where
 l:∀ t v,lk L t=some v->tm.get t=some v
 r:∀ t v,lk L t=none->lk R t=some v->tm.get t=some v
 e:∀ t v,lk L t=none->lk E t=some v->tm.get t=some v
theorem gF.first {ks:List Nat} {E:Env} {tm:T AV} (h:dt ks E tm):gF E [] [] tm:=⟨λ _ _ h=>(by cases h),λ _ _ _ h=>(by cases h),λ t v _ hv=>(h t v hv).1⟩
theorem gF.put {E L R:Env} {tm:T AV} (h:gF E L R tm) (dst:Option Nat) (v:AV):gF E (lg dst v L) R (cO dst v tm):=by
 cases dst with
 | none=>exact h
 | some d =>
  show gF E ((d,v)::L) R (tm.set d v);refine ⟨λ t w hw=>?_,λ t w hn hw=>?_,λ t w hn hw=>?_⟩
  ·rw [oX] at hw;rw [T.aJ];split at hw
   ·rename_i e;rw [qm e];exact hw
   ·rename_i e;rw [qe e];exact h.l t w hw
  ·rw [oX] at hn;rw [T.aJ];split at hn
   ·cases hn
   ·rename_i e;rw [qe e];exact h.r t w hn hw
  ·rw [oX] at hn;rw [T.aJ];split at hn
   ·cases hn
   ·rename_i e;rw [qe e];exact h.e t w hn hw
theorem TV.elim {E L R:Env} {t:Nat} {g:Bool} {K:Bool->Env->AV->Prop} {tm:T AV} (hr:gF E L R tm) (h:TV E L R t g K):∃ v R',tm.get t=some v/\gF E L R' tm/\K g R' v:=by
 unfold TV at h;cases hl:lk L t with
 | some v=>rw [hl] at h;exact ⟨v,R,hr.l t v hl,hr,h⟩
 | none =>
  rw [hl] at h;cases hq:lk R t with
  | some v=>rw [hq] at h;exact ⟨v,R,hr.r t v hl hq,hr,h⟩
  | none =>
   rw [hq] at h;obtain ⟨v,hv,h⟩:=LK.elim h;refine ⟨v,_,hr.e t v hl hv,⟨hr.l,λ u w hn hw=>?_,hr.e⟩,h⟩;rw [oX] at hw;split at hw
   ·rename_i e;subst e;injection hw with hw;subst hw;exact hr.e t v hl hv
   ·exact hr.r u w hn hw
theorem Ge {tm:T AV}:∀ {l:List bA} {vs:List AV} {K:List AV->Prop},gR tm l=some vs->K vs->jW tm l K
 | [],vs,K,h,hk=>by injection h with h;subst h;exact hk
 | x::xs,vs,K,h,hk=>by
  simp only [gR,qc] at h;obtain ⟨v,h1,ws,h2,h3⟩:=h;injection h3 with h3;subst h3
  cases x with
  | tmp t=>exact bq.intro (m:=aA) h1 (Ge h2 hk)
  | const c=>injection h1 with h1;subst h1;exact Ge (K:=λ vs=>K (c::vs)) h2 hk
  | cY c=>injection h1 with h1;subst h1;exact Ge (K:=λ vs=>K (_::vs)) h2 hk
  | func c=>injection h1 with h1;subst h1;exact Ge (K:=λ vs=>K (_::vs)) h2 hk
theorem pP.elim {E L:Env} {tm:T AV} {g:Bool}:∀ {l:List bA} {R:Env} {K:Bool->Env->List AV->Prop},gF E L R tm->pP E L l g R K -> ∃ vs R',gR tm l=some vs/\gF E L R' tm/\K g R' vs
 | [],R,K,hr,h=>⟨[],R,rfl,hr,h⟩
 | .tmp t::xs,R,K,hr,h=>by
  obtain ⟨v,R1,h1,hr1,h⟩:=TV.elim hr (show TV E L R t g (λ g R v=>pP E L xs g R λ g R vs=>K g R (v::vs)) from h);obtain ⟨vs,R2,h2,hr2,h⟩:=pP.elim hr1 h;exact ⟨v::vs,R2,by simp [gR,lf,h1,h2],hr2,h⟩
 | .const v::xs,R,K,hr,h=>by
  obtain ⟨vs,R2,h2,hr2,h⟩:=pP.elim (l:=xs) hr h;exact ⟨v::vs,R2,by simp [gR,lf,h2],hr2,h⟩
 | .cY v::xs,R,K,hr,h=>by
  obtain ⟨vs,R2,h2,hr2,h⟩:=pP.elim (l:=xs) hr h;exact ⟨_,R2,by simp [gR,lf,h2],hr2,h⟩
 | .func v::xs,R,K,hr,h=>by
  obtain ⟨vs,R2,h2,hr2,h⟩:=pP.elim (l:=xs) hr h;exact ⟨_,R2,by simp [gR,lf,h2],hr2,h⟩
theorem Jx (ds:List Nat):∀ (E:Env) (t:Nat),lk (lY ds E) t=if bM t ds then none else lk E t
 | [],t=>by simp [lY,vF]
 | (k,v)::r,t=>by
  show lk (cond (bM k ds) (lY ds r) ((k,v)::lY ds r)) t=_;cases hm:bM k ds with
  | true =>
   rw [xk,Jx ds r,oX]
   by_cases e:k=t
   ·subst e;rw [hm];rfl
   ·rw [qe e]
  | false =>
   rw [zk,oX,Jx ds r,oX]
   by_cases e:k=t
   ·subst e;rw [hm];simp
   ·rw [qe e,qe e]
theorem q15:∀ (L:Env) (t:Nat),bM t (iM L)=false->lk L t=none
 | [],t,_=>rfl
 | (k,v)::r,t,h=>by
  have h:cond (Nat.beq k t) true (bM t (iM r))=false:=h;rw [oX];cases hb:Nat.beq k t with
  | true=>rw [hb] at h;cases h
  | false=>rw [hb,zk] at h;rw [qe (Il hb)];exact q15 r t h
theorem q5e {t:Nat}:∀ {l:List Nat},t ∈ l->bM t l=true
 | x::r,h=>by
  show cond (Nat.beq x t) true (bM t r)=true;cases hb:Nat.beq x t with
  | true=>rfl
  | false =>
   rw [zk];rcases jg.1 h with e|h
   ·exact (Il hb e.symm).elim
   ·exact q5e h
theorem qvl:∀ (ds:List Nat) (tm:T AV) (t:Nat),t ∉ ds->(forget ds tm).get t=tm.get t
 | [],tm,t,_=>rfl
 | d::ds,tm,t,h=>by
  show (forget ds (tm.put d none)).get t=_;rw [qvl ds _ t (λ q=>h (ww _ q)),T.fN,qe (λ e=>h (by rw [e];exact BP ..))]
def QQ (ks:List Nat) (Q:aI) (up:Option aC):bU:=λ e st=>st.up=up /\ ∃ E',dt ks E' st.tm/\Q e E' st.aR st.H
section
variable {M:aL} {ctx:Ctx} {cj:Bool} {Q:aI} {E:Env} {D:List aM} {up:Option aC}
theorem PX.Bm {Z:bU} (hp:∀ c tm H E',(∀ t v,lk E' t=some v->tm.get t=some v/\lk E t=some v)->Q (.panic c) E' D H->Z (.panic c) ⟨tm,D,up,H⟩) {ps:Option (List Nat)} {L R:Env} {tm:T AV} (hr:gF E L R tm) {c:aC} {H:AHeap} (h:PX ps (iM L) Q E D c H):wJ ps tm D up Z c H:=by
 cases ps with
 | none=>exact h
 | some ds =>
  refine hp _ _ _ _ (λ t v hv=>?_) h;rw [Jx,Jx] at hv;split at hv
  ·cases hv
  ·rename_i h1;split at hv
   ·cases hv
   ·rename_i h2;rw [qvl ds tm t (λ q=>h1 (q5e q))];exact ⟨hr.e t v (q15 L t (by simpa using h2)) hv,hv⟩
theorem uT.py {Z:bU} (hp:∀ c tm H E',(∀ t v,lk E' t=some v->tm.get t=some v/\lk E t=some v)->Q (.panic c) E' D H->Z (.panic c) ⟨tm,D,up,H⟩) {ps:Option (List Nat)} {L R:Env} {tm:T AV} (hr:gF E L R tm) {g:Bool} {f:ff} {vs:List AV} {H:AHeap} {K:Bool->AV->AHeap->Prop} {K':AV->AHeap->Prop}
 (h:uT M cj ps L Q E D g f vs H K) (hk:∀ v H,K g v H->K' v H):ib M aA f vs H K' (wJ ps tm D up Z):=by
 cases cj with
 | false =>
  obtain ⟨v,H',h1,h2⟩:=(show C3 M g f vs H K from h)
  exact ⟨_,H',h1,hk _ _ h2⟩
 | true =>
  obtain ⟨e,H',h1,h2⟩:=(show P3 M g (PX ps (iM L) Q E D) f vs H K from h)
  refine ⟨_,H',h1,?_⟩;cases e with
  | ret v=>exact hk _ _ h2
  | panic c=>exact PX.Bm hp hr h2
theorem wO.body {Z:bU} (hp:∀ c tm H E',(∀ t v,lk E' t=some v->tm.get t=some v/\lk E t=some v)->Q (.panic c) E' D H->Z (.panic c) ⟨tm,D,up,H⟩) {s:aU} {K:KR} {g:Bool} {L R R0:Env} {tm:T AV} {H:AHeap} (hr:gF E L R tm) (hr0:gF E L R0 tm) (h:wO M cj s Q E D K g L R H) {KK:St->Prop}
 (hK:∀ L' R' tm' H',(s.eC=true/\L'=L/\tm'=tm \/ ∃ v,s.eC=false/\L'=lg s.dst v L/\tm'=cO s.dst v tm)->gF E L' R' tm'->gF E L' R0 tm'->K g L' R' H'->KK ⟨tm',D,up,H'⟩) :
 match s.eC with
 | false=>jW tm s.args λ vs=>jY M ctx s.dst s.bN ⟨tm,D,up,H⟩ Z KK vs s.op
 | true=>jW tm s.args λ vs=>GX s.dst ⟨tm,D,up,H⟩ vs s.op/\KK ⟨tm,D,up,H⟩:=by
 obtain ⟨eC,dst,guard,args,op,ps⟩:=s;obtain ⟨vs,R1,h1,hr1,h⟩:=pP.elim hr h;cases eC with
 | true =>
  refine Ge h1 ?_;have h:I0 dst E L R1 H K g vs op:=h;cases op with
  | read f =>
   cases dst with
   | none=>exact h.elim
   | some d =>
    have h:ui g (f vs H) (Nt L E d) (λ g=>K g L R1 H):=h;obtain ⟨⟨v,e1,e2⟩,h⟩:=h;refine ⟨?_,hK L R1 tm H (.inl ⟨rfl,rfl,rfl⟩) hr1 hr0 h⟩;refine bq.intro (m:=aA) e1 (bq.intro (m:=aA) (a:=v) ?_ rfl);unfold Nt at e2;cases hl:lk L d with
    | some w=>rw [hl] at e2;injection e2 with e2;subst e2;exact hr.l d w hl
    | none=>rw [hl] at e2;exact hr.e d v hl e2
  | _=>exact h.elim
 | false =>
  have put:∀ v H',K g (lg dst v L) R1 H'->KK ⟨cO dst v tm,D,up,H'⟩:=λ v H' hk=>hK _ R1 _ H' (.inr ⟨v,rfl,rfl,rfl⟩) (hr1.put dst v) (hr0.put dst v) hk;refine Ge h1 ?_;have h:nV M cj dst ps Q E D L R1 H K g vs op:=h;cases op with
  | pure f=>simp only [nV] at h;obtain ⟨v,e,h⟩:=B3.elim h;exact bq.intro (m:=aA) e (put _ _ h)
  | read f=>simp only [nV] at h;obtain ⟨v,e,h⟩:=B3.elim h;exact bq.intro (m:=aA) e (put _ _ h)
  | alloc f=>simp only [nV] at h;simp only [jY];obtain ⟨o,mk,e,h⟩:=aY.elim h;exact eN.intro (m:=aA) e (put _ _ h)
  | eE f=>simp only [nV] at h;simp only [jY];obtain ⟨v,H',e,h⟩:=aY.elim h;exact eN.intro (m:=aA) e (put _ _ h)
  | ew f=>exact uT.py hp hr1 h λ v H' hk=>put v H' hk
  | eD =>
   simp only [nV,V3] at h;simp only [jY,DJ];split at h
   ·exact uT.py hp hr1 h λ v H' hk=>put v H' hk
   ·exact uT.py hp hr1 h λ v H' hk=>put v H' hk
   ·exact h.elim
  | invoke n =>
   simp only [nV,N3] at h;simp only [jY,EF];split at h
   ·obtain ⟨f,e,h⟩:=B3.elim h;exact bq.intro (m:=aA) e (uT.py hp hr1 h λ v H' hk=>put v H' hk)
   ·exact h.elim
  | recover=>exact False.elim h
  | defer=>exact False.elim h
  | panic =>
   cases cj with
   | false=>exact False.elim h
   | true =>
    have h:dT vs H (PX ps (iM L) Q E D):=h;show dT vs H (wJ ps tm D up Z);unfold dT at h ⊢;split at h
    ·exact PX.Bm hp hr1 h
    ·exact h.elim
def FN (g:Option (Nat × Bool)) (l:List aU):Prop:=∀ s ∈ l,s.guard=g
theorem jT.free {Z:bU} (hp:∀ c tm H E',(∀ t v,lk E' t=some v->tm.get t=some v/\lk E t=some v)->Q (.panic c) E' D H->Z (.panic c) ⟨tm,D,up,H⟩) {K:KR} {g:Bool} {R0:Env} {rest:List aU} (hK:∀ L R tm H,gF E L R tm->gF E L R0 tm->K g L R H->lh M ctx rest ⟨tm,D,up,H⟩ Z) :
 ∀ {l:List aU} {L R:Env} {tm:T AV} {H:AHeap},FN none l->gF E L R tm->gF E L R0 tm->jT M cj Q E D K l g L R H->lh M ctx (l++rest) ⟨tm,D,up,H⟩ Z
 | [],L,R,tm,H,_,hr,hr0,h=>hK _ _ _ _ hr hr0 h
 | s::l,L,R,tm,H,hg,hr,hr0,h=>by
  rw [CL,Ls];have hs:s.guard=none:=hg s (BP ..);have:=wO.body hp (ctx:=ctx) (up:=up) (KK:=λ st'=>lh M ctx (l++rest) st' Z) hr hr0 (show wO M cj s Q E D (jT M cj Q E D K l) g L R H from h)
   λ L' R' tm' H' _ q1 q2 q3=>jT.free hp hK (λ x hx=>hg x (ww _ hx)) q1 q2 q3
  obtain ⟨eC,dst,guard,args,op,ps⟩:=s;subst hs;cases eC<;>exact this
theorem K1:∀ (n:Nat) (f:List AV->AHeap->Prop) (l:List AV) (H:AHeap),l.length=n->jM n (kA n f) l H=f l H
 | 0,f,[],H,_=>rfl
 | n+1,f,v::l,H,h=>K1 n (λ l=>f (v::l)) l H (by simpa using h)
 | 0,f,_::_,H,h=>by cases h
 | n+1,f,[],H,h=>by cases h
theorem uC {α:Type} (l:List α):ct l=l.length:=by
 induction l with
 | nil=>rfl
 | cons x l ih=>show ct l+1=_;rw [ih];rfl
theorem q5u:∀ (ks:List Nat) (L:Env) (vs:List AV),vs.length=ks.length->mf ks.length (gk ks L vs)=vs
 | [],L,[],_=>rfl
 | k::ks,L,v::vs,h=>by
  show v::mf ks.length (gk ks L vs)=_;rw [q5u ks L vs (by simpa using h)]
 | [],L,_::_,h=>by cases h
 | _::_,L,[],h=>by cases h
theorem xab:∀ n,(mI n).length=n
 | 0=>rfl
 | n+1=>by show (mI n).length+1=_;rw [xab n]
theorem jT.under {Z:bU} (hp:∀ c tm H E',(∀ t v,lk E' t=some v->tm.get t=some v/\lk E t=some v)->Q (.panic c) E' D H->Z (.panic c) ⟨tm,D,up,H⟩) {K:KR} {g:Bool} {R0:Env} {rest:List aU} {t:Nat} {b:Bool} {v:AV} (hw:aB b (some v)=some true) {kf:List Nat} {L0:Env} (hK:∀ vs R tm H,vs.length=kf.length->gF E (gk kf L0 vs) R tm->gF E (gk kf L0 vs) R0 tm->K g (gk kf L0 vs) R H->lh M ctx rest ⟨tm,D,up,H⟩ Z) :
 ∀ {l:List aU} {acc:List Nat} {us:List AV} {L R:Env} {tm:T AV} {H:AHeap},bm l acc=kf->us.length=acc.length->L=gk acc L0 us->FN (some (t,b)) l->oL t l=true->tm.get t=some v->gF E L R tm->gF E L R0 tm->jT M cj Q E D K l g L R H->lh M ctx (l++rest) ⟨tm,D,up,H⟩ Z
 | [],acc,us,L,R,tm,H,e1,e2,e3,_,_,_,hr,hr0,h=>by
  have e1:acc=kf:=e1;subst e1;subst e3;exact hK _ _ _ _ e2 hr hr0 h
 | s::l,acc,us,L,R,tm,H,e1,e2,e3,hg,ho,ht,hr,hr0,h=>by
  rw [CL,Ls];have hs:s.guard=some (t,b):=hg s (BP ..);have ho:cond (Dk s.dst t) false (cond s.eC (cond s.dst.isSome (oL t l) false) (oL t l))=true:=ho;have hd:Dk s.dst t=false:=by cases q:Dk s.dst t with
   | true=>rw [q] at ho;cases ho
   | false=>rfl
  rw [hd,zk] at ho;have ho':oL t l=true:=by
   cases hc:s.eC with
   | false=>rw [hc] at ho;exact ho
   | true=>rw [hc] at ho;cases hd:s.dst.isSome with
    | true=>rw [hd] at ho;exact ho
    | false=>rw [hd] at ho;cases ho
  have:=wO.body hp (ctx:=ctx) (up:=up) (KK:=λ st'=>lh M ctx (l++rest) st' Z) hr hr0 (show wO M cj s Q E D (jT M cj Q E D K l) g L R H from h)
   λ L' R' tm' H' hq q1 q2 q3=>by
    have e1:bm l (cond s.eC acc (Option.rec (motive:=λ _=>List Nat) acc (λ d=>d::acc) s.dst))=kf:=e1;obtain ⟨us',e2',e3'⟩:∃ us',us'.length=(cond s.eC acc (Option.rec (motive:=λ _=>List Nat) acc (λ d=>d::acc) s.dst)).length/\L'=gk (cond s.eC acc (Option.rec (motive:=λ _=>List Nat) acc (λ d=>d::acc) s.dst)) L0 us':=by
     rcases hq with ⟨hc,rfl,_⟩|⟨w,hc,rfl,_⟩
     ·rw [hc];exact ⟨us,e2,e3⟩
     ·rw [hc];cases s.dst with
      | none=>exact ⟨us,e2,e3⟩
      | some d=>exact ⟨w::us,by simpa using e2,by rw [e3];rfl⟩
    exact jT.under hp hw hK e1 e2' e3' (λ x hx=>hg x (ww _ hx)) ho' (by
     rcases hq with ⟨_,_,rfl⟩|⟨w,_,_,rfl⟩
     ·exact ht
     ·cases hdd:s.dst with
      | none=>exact ht
      | some d =>
       rw [hdd] at hd;show (tm.set d w).get t=_;rw [T.aJ,qe (Il hd)];exact ht) q1 q2 q3
  obtain ⟨eC,dst,guard,args,op,ps⟩:=s;subst hs;have e:aB b (tm.get t)=some true:=by rw [ht];exact hw
  cases eC with
  | false=>exact bq.intro (m:=aA) e this
  | true=>exact bq.intro (m:=aA) e this
theorem jT.over {Z:bU} {R0:Env} {rest:List aU} {t:Nat} {b:Bool} {v:AV} (hw:aB b (some v)=some false) {kf:List Nat} {L0:Env} {H:AHeap} (hK:∀ tm,gF E (gk kf L0 (mI kf.length)) R0 tm->lh M ctx rest ⟨tm,D,up,H⟩ Z) :
 ∀ {l:List aU} {acc:List Nat} {tm:T AV},bm l acc=kf->FN (some (t,b)) l->oL t l=true->tm.get t=some v->gF E (gk acc L0 (mI acc.length)) R0 tm->lh M ctx (l++rest) ⟨tm,D,up,H⟩ Z
 | [],acc,tm,e1,_,_,_,hr0=>by
  have e1:acc=kf:=e1;subst e1;exact hK _ hr0
 | s::l,acc,tm,e1,hg,ho,ht,hr0=>by
  rw [CL,Ls];have hs:s.guard=some (t,b):=hg s (BP ..);have ho:cond (Dk s.dst t) false (cond s.eC (cond s.dst.isSome (oL t l) false) (oL t l))=true:=ho;have hd:Dk s.dst t=false:=by cases q:Dk s.dst t with
   | true=>rw [q] at ho;cases ho
   | false=>rfl
  rw [hd,zk] at ho;have e:aB b (tm.get t)=some false:=by rw [ht];exact hw
  have hg':FN (some (t,b)) l:=λ x hx=>hg x (ww _ hx);have e1:bm l (cond s.eC acc (Option.rec (motive:=λ _=>List Nat) acc (λ d=>d::acc) s.dst))=kf:=e1;cases hc:s.eC with
  | true =>
   rw [hc] at ho e1;cases hds:s.dst.isSome with
   | false=>rw [hds] at ho;cases ho
   | true =>
    rw [hds] at ho;have:=jT.over hw hK e1 hg' ho ht hr0;obtain ⟨eC,dst,guard,args,op,ps⟩:=s;subst hs;subst hc;exact bq.intro (m:=aA) e ⟨hds,this⟩
  | false =>
   rw [hc] at ho e1;have:=jT.over hw hK (tm:=cO s.dst .undef tm) e1 hg' ho (by
    cases hdd:s.dst with
     | none=>exact ht
     | some d =>
      rw [hdd] at hd;show (tm.set d _).get t=_;rw [T.aJ,qe (Il hd)];exact ht) (by
    have:=hr0.put s.dst .undef;cases hdd:s.dst with
     | none=>rw [hdd] at this;exact this
     | some d=>rw [hdd] at this;exact this)
   obtain ⟨eC,dst,guard,args,op,ps⟩:=s;subst hs;subst hc;exact bq.intro (m:=aA) e this
theorem u7 {a b:Option (Nat × Bool)} (h:mb a b=true):a=b:=by
 cases a with
 | none=>cases b with
  | none=>rfl
  | some _=>cases h
 | some p=>cases b with
  | none=>cases h
  | some q =>
   obtain ⟨t,x⟩:=p;obtain ⟨u,y⟩:=q;have h:cond (Nat.beq t u) (cond x y (!y)) false=true:=h;cases hb:Nat.beq t u with
   | false=>rw [hb] at h;cases h
   | true =>
    rw [hb] at h;rw [Nat.eq_of_beq_eq_true hb];cases x<;>cases y<;>first|rfl|cases h
theorem t8:∀ (l:List aU),(Ej l).flatMap (·.2)=l /\ ∀ x ∈ Ej l,FN x.1 x.2
 | []=>⟨rfl,λ x hx=>by cases hx⟩
 | s::l=>by
  obtain ⟨h1,h2⟩:=t8 l;have e:Ej (s::l)=List.casesOn (motive:=λ _=>List zO) (Ej l) [(s.guard,[s])] λ g r=>cond (mb g.1 s.guard) ((g.1,s::g.2)::r) ((s.guard,[s])::g::r):=rfl;rw [e];cases hg:Ej l with
  | nil =>
   rw [hg] at h1;exact ⟨by simpa using h1,λ x hx=>by simp at hx;subst hx;intro y hy;simp at hy;subst hy;rfl⟩
  | cons g r =>
   rw [hg] at h1 h2;show (cond (mb g.1 s.guard) ((g.1,s::g.2)::r) ((s.guard,[s])::g::r)).flatMap _=_ /\ ∀ x ∈ cond (mb g.1 s.guard) ((g.1,s::g.2)::r) ((s.guard,[s])::g::r),_;cases hs:mb g.1 s.guard with
   | true =>
    refine ⟨by simpa using h1,λ x hx=>?_⟩;rcases jg.1 hx with rfl|hx
    ·intro y hy;rcases jg.1 hy with rfl|hy
     ·exact (u7 hs).symm
     ·exact h2 g (BP ..) y hy
    ·exact h2 x (ww _ hx)
   | false =>
    refine ⟨by simpa using h1,λ x hx=>?_⟩;rcases jg.1 hx with rfl|hx
    ·intro y hy;simp at hy;subst hy;rfl
    ·exact h2 x hx
theorem qX.Gp {Z:bU} (hp:∀ c tm H E',(∀ t v,lk E' t=some v->tm.get t=some v/\lk E t=some v)->Q (.panic c) E' D H->Z (.panic c) ⟨tm,D,up,H⟩) {K:KR} {g:Bool} (hK:∀ L R tm H,gF E L R tm->K g L R H->Z .normal ⟨tm,D,up,H⟩):∀ {gs:List zO} {L R:Env} {tm:T AV} {H:AHeap},(∀ x ∈ gs,FN x.1 x.2)->gF E L R tm->qX M cj Q E D K gs g L R H ->
 lh M ctx (gs.flatMap (·.2)) ⟨tm,D,up,H⟩ Z
 | [],L,R,tm,H,_,hr,h=>hK _ _ _ _ hr h
 | x::gs,L,R,tm,H,hg,hr,h=>by
  rw [ju];have ih:∀ L R tm H,gF E L R tm->qX M cj Q E D K gs g L R H->lh M ctx (gs.flatMap (·.2)) ⟨tm,D,up,H⟩ Z:=λ L R tm H hr h=>qX.Gp hp hK (λ x hx=>hg x (ww _ hx)) hr h;have hx:=hg x (BP ..);obtain ⟨q,l⟩:=x;cases q with
  | none=>exact jT.free hp (R0:=R) (λ L R tm H q1 _ q2=>ih L R tm H q1 q2) hx hr hr (show jT M cj Q E D (qX M cj Q E D K gs) l g L R H from h)
  | some q =>
   obtain ⟨t,b⟩:=q;cases ho:oL t l with
   | false =>
    have h:cond (oL t l) _ False:=h;rw [ho] at h;exact h.elim
   | true =>
    have h:cond (oL t l) _ False:=h;rw [ho,xk] at h;obtain ⟨v,R1,ht,hr1,h⟩:=TV.elim hr h;have kl:ct (bm l [])=(bm l []).length:=uC _;have h:B3 g (aB b (some v)) λ g w=>cw g w (λ g=>jT M cj Q E D (λ g L' _ H=>jM (ct (bm l [])) (kA (ct (bm l [])) λ vs H=>qX M cj Q E D K gs g (gk (bm l []) L vs) R1 H) (mf (ct (bm l [])) L') H) l g L R1 H)
     (λ g=>jM (ct (bm l [])) (kA (ct (bm l [])) λ vs H=>qX M cj Q E D K gs g (gk (bm l []) L vs) R1 H) (mI (ct (bm l []))) H):=h
    obtain ⟨w,hw,h⟩:=B3.elim h;cases w with
    | true =>
     refine jT.under hp (R0:=R1) hw (kf:=bm l []) (L0:=L) (λ vs R tm H q q1 q0 q2=>?_) (acc:=[]) (us:=[]) rfl rfl rfl hx ho ht hr1 hr1 h;rw [kl,q5u _ _ _ q,K1 _ _ _ _ q] at q2;exact ih _ R1 tm H q0 q2
    | false =>
     have h:jM (ct (bm l [])) (kA (ct (bm l [])) λ vs H=>qX M cj Q E D K gs g (gk (bm l []) L vs) R1 H) (mI (ct (bm l []))) H:=h;rw [kl,K1 _ _ _ _ (xab _)] at h;exact jT.over hw (kf:=bm l []) (L0:=L) (λ tm hq=>ih _ R1 tm H hq h) (acc:=[]) rfl hx ho ht hr1
theorem mq.Gp {Z:bU} (hp:∀ c tm H E',(∀ t v,lk E' t=some v->tm.get t=some v/\lk E t=some v)->Q (.panic c) E' D H->Z (.panic c) ⟨tm,D,up,H⟩) {l:List aU} {g:Bool} {H:AHeap} {K:KR} {tm:T AV} {ks:List Nat} (he:dt ks E tm) (h:mq M cj Q E D l g H K) (hK:∀ L R tm H,gF E L R tm->K g L R H->Z .normal ⟨tm,D,up,H⟩):lh M ctx l ⟨tm,D,up,H⟩ Z:=by
 obtain ⟨h1,h2⟩:=t8 l;have:=qX.Gp hp (ctx:=ctx) hK h2 (gF.first he) h
 rwa [h1] at this
end
end
end Go.Am
namespace Go.Am
noncomputable section
variable {M:aL} {ctx:Ctx} {K:Kp}
theorem LX (ks:List Nat) (E:Env):∀ (L:Env) (t:Nat) (v:AV),bM t ks=true->lk (cW ks E L) t=some v->lk L t=some v\/lk L t=none/\lk E t=some v
 | [],t,v,_,h=>.inr ⟨rfl,h⟩
 | (k,w)::r,t,v,ht,h=>by
  have h:lk (cond (bM k ks) ((k,w)::cW ks E r) (cW ks E r)) t=some v:=h;rw [oX];cases hm:bM k ks with
  | true =>
   rw [hm,xk,oX] at h;split at h
   ·rename_i e;rw [qm e];exact .inl h
   ·rename_i e;rw [qe e];exact LX ks E r t v ht h
  | false =>
   rw [hm,zk] at h
   by_cases e:k=t
   ·subst e;rw [hm] at ht;cases ht
   ·rw [qe e];exact LX ks E r t v ht h
theorem Mm (ks:List Nat) (E:Env) (hE:∀ t v,lk E t=some v->bM t ks=true):∀ (L:Env) (t:Nat) (v:AV),lk (cW ks E L) t=some v->bM t ks=true
 | [],t,v,h=>hE t v h
 | (k,w)::r,t,v,h=>by
  have h:lk (cond (bM k ks) ((k,w)::cW ks E r) (cW ks E r)) t=some v:=h;cases hm:bM k ks with
  | true =>
   rw [hm,xk,oX] at h;split at h
   ·rename_i e;subst e;exact hm
   ·exact Mm ks E hE r t v h
  | false=>rw [hm,zk] at h;exact Mm ks E hE r t v h
theorem gF.ae {E L R:Env} {tm:T AV} (h:gF E L R tm) {ks:List Nat} (hE:∀ t v,lk E t=some v->bM t ks=true):dt ks (cW ks E L) tm:=λ t v hv=>by
 have hm:=Mm ks E hE L t v hv;refine ⟨?_,hm⟩;rcases LX ks E L t v hm hv with q|⟨q1,q2⟩
 ·exact h.l t v q
 ·exact h.e t v q1 q2
theorem dt.keys {ks:List Nat} {E:Env} {tm:T AV} (h:dt ks E tm):∀ t v,lk E t=some v->bM t ks=true:=λ t v hv=>(h t v hv).2
theorem dt.cj {ks:List Nat} {E E':Env} {tm tm':T AV} (h:dt ks E tm) (h':∀ t v,lk E' t=some v->tm'.get t=some v/\lk E t=some v):dt ks E' tm':=λ t v hv=>⟨(h' t v hv).1,(h t v (h' t v hv).2).2⟩
theorem TV.cv {E L R:Env} {x:bA} {g:Bool} {P:Bool->AV->Prop} {tm:T AV} (hr:gF E L R tm) (h:CV E L R x g P):∃ v,lf tm x=some v/\P g v:=by
 cases x with
 | tmp t=>obtain ⟨v,_,h1,_,h2⟩:=TV.elim hr (show TV E L R t g (λ g _ v=>P g v) from h);exact ⟨v,h1,h2⟩
 | const v=>exact ⟨v,rfl,h⟩
 | cY v=>exact ⟨_,rfl,h⟩
 | func v=>exact ⟨_,rfl,h⟩
theorem OV.elim {ks:List Nat} {E:Env} {x:bA} {g:Bool} {P:Bool->AV->Prop} {tm:T AV} (hr:dt ks E tm) (h:OV E x g P):∃ v,lf tm x=some v/\P g v:=by
 cases x with
 | tmp t=>obtain ⟨v,h1,h2⟩:=LK.elim (show LK g (lk E t) P from h);exact ⟨v,(hr t v h1).1,h2⟩
 | const v=>exact ⟨v,rfl,h⟩
 | cY v=>exact ⟨_,rfl,h⟩
 | func v=>exact ⟨_,rfl,h⟩
theorem q08 {tm:T AV} {x:bA} {v:AV} {P:AV->Prop} (h:lf tm x=some v) (hp:P v):wR tm x P:=by
 cases x with
 | tmp t=>exact bq.intro (m:=aA) h hp
 | const c=>injection h with h;subst h;exact hp
 | cY c=>injection h with h;subst h;exact hp
 | func c=>injection h with h;subst h;exact hp
theorem bo.wp {a b:ah} {g:Bool} {v:AV} {A B:Bool->Prop} {tm:T AV} {c:bA} {st:St} {Q:bU} (hv:lf st.tm c=some v) (h:bo g v A B) (ha:A g->WP M ctx a st Q) (hb:B g->WP M ctx b st Q):WP M ctx (.cond c a b) st Q:=by
 obtain ⟨q,rfl,h⟩:=h.elim;refine q08 hv ?_;cases q with
 | true=>exact ha h
 | false=>exact hb h
def c9:ah->Nat
 | .seq a b=>c9 a+c9 b+1
 | .cond _ a b=>c9 a+c9 b+1
 | .block _ b=>c9 b+1
 | .loop _ b=>c9 b+1
 | .scope b=>c9 b+1
 | _=>0
theorem W3.wp:∀ (n:Nat) (c:ah),c9 c<=n -> ∀ {g:Bool} {Q:aI} {E:Env} {D:List aM} {H:AHeap} {tm:T AV} {up:Option aC},W3 M ctx K c g Q E D H->dt K.ae E tm->WP M ctx c ⟨tm,D,up,H⟩ (QQ K.ae Q up):=by
 intro n
 induction n with
 | zero =>
  intro c hc g Q E D H tm up h he;cases c with
  | skip=>exact ⟨rfl,E,he,h⟩
  | label _=>exact ⟨rfl,E,he,h⟩
  | exit _=>exact ⟨rfl,E,he,h⟩
  | goto _=>exact ⟨rfl,E,he,h⟩
  | ret=>exact ⟨rfl,E,he,h⟩
  | stuck=>exact False.elim h
  | region l=>exact mq.Gp (λ c tm' H' E' h1 h2=>⟨rfl,E',he.cj h1,h2⟩) he (show mq M K.cj Q E D l g H _ from h) λ L R tm H hr hk=>⟨rfl,_,hr.ae he.keys,hk⟩
  | rangeFunc f k =>
   obtain ⟨v,hv,h⟩:=OV.elim he (show OV E f g _ from h);exact q08 hv (by
    have:=h tm up he;unfold AR at this ⊢;split
    ·rename_i hr;rw [hr] at this;exact FY this λ e st ⟨h1,h2,h3⟩=>⟨h1,E,by rw [h2];exact he,h3⟩
    ·rename_i l hr;rw [hr] at this;exact wU (m:=aA) this λ d q=>FY q λ e st ⟨h1,h2,h3⟩=>⟨h1,E,by rw [h2];exact he,h3⟩)
  | seq _ _=>simp [c9] at hc
  | cond _ _ _=>simp [c9] at hc
  | block _ _=>simp [c9] at hc
  | loop _ _=>simp [c9] at hc
  | scope _=>simp [c9] at hc
 | succ n ih =>
  intro c hc g Q E D H tm up h he;have seqq:∀ {a b:ah} {tm:T AV} {H:AHeap},c9 b<=n->WP M ctx a ⟨tm,D,up,H⟩ (QQ K.ae (aj (W3 M ctx K b) Q) up)->WP M ctx a ⟨tm,D,up,H⟩ (Kx (WP M ctx b) (QQ K.ae Q up)):=λ {a b tm H} hb h=>mg h λ e st ⟨h1,E',h2,h3⟩=>by
   obtain ⟨tm',D',up',H'⟩:=st;subst h1;cases e with
   | normal=>exact ih b hb h3 h2
   | exit _=>exact ⟨rfl,E',h2,h3⟩
   | goto _=>exact ⟨rfl,E',h2,h3⟩
   | ret=>exact ⟨rfl,E',h2,h3⟩
   | panic _=>exact ⟨rfl,E',h2,h3⟩
  have cnd:∀ {c:bA} {x y:ah} {E:Env} {tm:T AV} {v:AV} {g:Bool} {Q:aI} {H:AHeap},c9 x<=n->c9 y<=n->lf tm c=some v->dt K.ae E tm->bo g v (λ g=>W3 M ctx K x g Q E D H) (λ g=>W3 M ctx K y g Q E D H)->WP M ctx (.cond c x y) ⟨tm,D,up,H⟩ (QQ K.ae Q up) :=
   λ {c x y E tm v g Q H} hx hy hv he h=>bo.wp (tm:=tm) (st:=⟨tm,D,up,H⟩) hv h (λ h=>ih x hx h he) (λ h=>ih y hy h he)
  cases c with
  | seq a b =>
   have hab:c9 a+c9 b<=n:=by simp only [c9] at hc;omega
   have gen:W3 M ctx K a g (aj (W3 M ctx K b) Q) E D H->WP M ctx (.seq a b) ⟨tm,D,up,H⟩ (QQ K.ae Q up):=λ h=>seqq (a:=a) (b:=b) (by omega) (ih a (by omega) h he);have reg:∀ (l:List aU) (KF:KR),a=.region l->mq M K.cj Q E D l g H KF->(∀ L R tm H,gF E L R tm->KF g L R H->WP M ctx b ⟨tm,D,up,H⟩ (QQ K.ae Q up))->WP M ctx (.seq a b) ⟨tm,D,up,H⟩ (QQ K.ae Q up):=λ l KF e h' hk=>by
    subst e;exact mq.Gp (Z:=Kx (WP M ctx b) (QQ K.ae Q up)) (λ c tm' H' E' h1 h2=>⟨rfl,E',he.cj h1,h2⟩) he h' hk
   cases a with
   | region l =>
    have plain:(mq M K.cj Q E D l g H λ g L _ H=>W3 M ctx K b g Q (cW K.ae E L) D H)->WP M ctx (.seq (.region l) b) ⟨tm,D,up,H⟩ (QQ K.ae Q up):=λ h=>reg l _ rfl h λ L R tm H hr hk=>ih b (by omega) hk (hr.ae he.keys);cases b with
    | cond c x y =>
     have hxy:c9 x+c9 y+1<=n:=by simp only [c9] at hab;omega
     refine reg l _ rfl h λ L R tm H hr hk=>?_;obtain ⟨v,hv,hk⟩:=TV.cv hr hk;exact cnd (by omega) (by omega) hv (hr.ae he.keys) hk
    | seq b1 r =>
     cases b1 with
     | cond c x y =>
      have hxy:c9 x+c9 y+1+c9 r+1<=n:=by simp only [c9] at hab;omega
      refine reg l _ rfl h λ L R tm H hr hk=>?_;obtain ⟨v,hv,hk⟩:=TV.cv hr hk;exact seqq (by omega) (cnd (by omega) (by omega) hv (hr.ae he.keys) hk)
     | _=>exact plain h
    | _=>exact plain h
   | _=>exact gen h
  | cond c x y =>
   have hab:c9 x+c9 y<=n:=by simp only [c9] at hc;omega
   obtain ⟨v,hv,h⟩:=OV.elim he (show OV E c g _ from h);exact cnd (by omega) (by omega) hv he h
  | block id b =>
   have hb:c9 b<=n:=by simp only [c9] at hc;omega
   exact mg (c:=b) (ih b hb (show W3 M ctx K b g (aF id Q) E D H from h) he) λ e st ⟨h1,E',h2,h3⟩=>by cases e<;>exact ⟨h1,E',h2,h3⟩
  | scope b =>
   have hb:c9 b<=n:=by simp only [c9] at hc;omega
   refine mg (c:=b) (ih b hb (show W3 M ctx K b g (mF b Q) E D H from h) he) λ e st ⟨h1,E',h2,h3⟩=>?_;cases e with
   | goto l=>exact ⟨h3.1,h1,E',h2,h3.2⟩
   | normal=>exact ⟨h1,E',h2,h3⟩
   | exit _=>exact ⟨h1,E',h2,h3⟩
   | ret=>exact ⟨h1,E',h2,h3⟩
   | panic _=>exact ⟨h1,E',h2,h3⟩
  | loop ae b =>
   have hb:c9 b<=n:=by simp only [c9] at hc;omega
   cases ae with
   | some _=>exact False.elim h
   | none =>
    obtain ⟨I,⟨n0,E0,h0,hs⟩,hstep⟩:=(show bu (W3 M ctx K b) Q E D H from h)
    refine ⟨λ n st=>st.up=up /\ ∃ E',dt K.ae E' st.tm/\I n E' st.aR st.H,⟨n0,rfl,E0,hs.sub he,h0⟩,λ n st ⟨h1,E',h2,h3⟩=>?_⟩;obtain ⟨tm',D',up',H'⟩:=st;subst h1;refine mg (c:=b) (ih b hb (hstep n E' D' H' h3) h2) λ e st ⟨k1,E2,k2,k3⟩=>?_;cases e with
    | normal=>obtain ⟨m,E3,q1,q2,q3⟩:=k3;exact ⟨m,q3,k1,E3,q2.sub k2,q1⟩
    | exit _=>exact ⟨k1,E2,k2,k3⟩
    | goto _=>exact ⟨k1,E2,k2,k3⟩
    | ret=>exact ⟨k1,E2,k2,k3⟩
    | panic _=>exact ⟨k1,E2,k2,k3⟩
  | skip=>exact ⟨rfl,E,he,h⟩
  | label _=>exact ⟨rfl,E,he,h⟩
  | exit _=>exact ⟨rfl,E,he,h⟩
  | goto _=>exact ⟨rfl,E,he,h⟩
  | ret=>exact ⟨rfl,E,he,h⟩
  | stuck=>exact False.elim h
  | region l=>exact ih _ (zq _) h he
  | rangeFunc f k=>exact ih _ (zq _) h he
def dn (E:Env) (H:AHeap):List cQ->(List AV->Prop)->Prop
 | [],P=>P []
 | .tmp t::rs,P=>LK true (lk E t) λ _ v=>dn E H rs λ vs=>P (v::vs)
 | .gn a::rs,P=>LK true (lk E a) λ _ v=>B3 true (Op.aa [v] H) λ _ v=>dn E H rs λ vs=>P (v::vs)
 | .cz n a::rs,P=>LK true (lk E a) λ _ v=>B3 true (Op.ao n [v] H) λ _ v=>dn E H rs λ vs=>P (v::vs)
def jU (M:aL) (rs:List cQ) (E:Env) (Q:br->AHeap->Prop):List aM->Option aC->AHeap->Prop
 | [],none,H=>dn E H rs λ l=>Q (.ret (c7 l)) H
 | [],some c,H=>Q (.panic c) H
 | .eU b::ds,m,H=>H.get b=some (.deferred (some []))/\jU M rs E Q ds m (H.set b (.deferred none))
 | .fn (.func f) args::ds,m,H=>∃ v up' H',m6 M f args (some (m.getD [])) H (.ret v) (some up') H'/\bq aA (iO m up') λ m'=>jU M rs E Q ds m' H'
 | .fn (.yield _) _::_,_,_=>False
theorem dn.elim {ks:List Nat} {E:Env} {tm:T AV} (he:dt ks E tm) {H:AHeap}:∀ {rs:List cQ} {P:List AV->Prop},dn E H rs P -> ∃ l,cH H tm rs=some l/\P l
 | [],P,h=>⟨[],rfl,h⟩
 | .tmp t::rs,P,h=>by
  obtain ⟨v,h1,h⟩:=LK.elim (show LK true (lk E t) _ from h);obtain ⟨l,h2,h⟩:=dn.elim he h;exact ⟨v::l,by rw [yN,(he t v h1).1,h2];rfl,h⟩
 | .gn t::rs,P,h=>by
  obtain ⟨v,h1,h⟩:=LK.elim (show LK true (lk E t) _ from h);obtain ⟨w,h2,h⟩:=B3.elim h;obtain ⟨l,h3,h⟩:=dn.elim he h;exact ⟨w::l,by rw [q9v,(he t v h1).1,qn,h2,qn,h3];rfl,h⟩
 | .cz n t::rs,P,h=>by
  obtain ⟨v,h1,h⟩:=LK.elim (show LK true (lk E t) _ from h);obtain ⟨w,h2,h⟩:=B3.elim h;obtain ⟨l,h3,h⟩:=dn.elim he h;exact ⟨w::l,by rw [q9w,(he t v h1).1,qn,h2,qn,h3];rfl,h⟩
theorem jU.MQ {ks:List Nat} {E:Env} {tm:T AV} (he:dt ks E tm) {rs:List cQ} {Q:br->AHeap->Prop}:∀ {D:List aM} {m:Option aC} {H:AHeap},jU M rs E Q D m H->rh M rs tm Q D m H
 | [],none,H,h=>by obtain ⟨l,h1,h2⟩:=dn.elim he h;exact bq.intro (m:=aA) h1 h2
 | [],some c,H,h=>h
 | .eU b::ds,m,H,⟨h1,h2⟩=>⟨h1,jU.MQ he h2⟩
 | .fn (.func f) args::ds,m,H,⟨v,up',H',h1,h2⟩=>⟨v,up',H',h1,wU h2 λ m' h=>jU.MQ he h⟩
 | .fn (.yield _) _::_,_,_,h=>h
def aK (M:aL) (rs:List cQ) (Q:br->AHeap->Prop):aI:=λ e E D H=>match e with
 | .normal=>jU M rs E Q D none H
 | .ret=>jU M rs E Q D none H
 | .panic c=>jU M rs E Q D (some c) H
 | _=>False
def yg (M:aL) (f:Nat) (vs:List AV) (H:AHeap) (Q:br->AHeap->Prop):Prop:=∃ e H',iG M f vs H e H'/\Q e H'
def kY (Q:AV->AHeap->Prop) (e:br) (H:AHeap):Prop:=match e with
 | .ret v=>Q v H
 | .panic _=>False
def jx (M:aL) (f:Nat) (vs:List AV) (H:AHeap) (Q:AV->AHeap->Prop):Prop:=yg M f vs H (kY Q)
theorem jx.elim {f:Nat} {vs:List AV} {H:AHeap} {Q:AV->AHeap->Prop} (h:jx M f vs H Q):∃ v H',iG M f vs H (.ret v) H'/\Q v H':=by
 obtain ⟨e,H',h1,h2⟩:=h;cases e with
 | ret v=>exact ⟨v,H',h1,h2⟩
 | panic _=>exact h2.elim
theorem jx.intro {f:Nat} {vs:List AV} {H:AHeap} {Q:AV->AHeap->Prop} {v:AV} {H':AHeap} (h:iG M f vs H (.ret v) H') (hq:Q v H'):jx M f vs H Q:=⟨_,H',h,hq⟩
theorem jx.mono {f:Nat} {vs:List AV} {H:AHeap} {Q Q':AV->AHeap->Prop} (h:jx M f vs H Q) (hq:∀ v H',Q v H'->Q' v H'):jx M f vs H Q':=by
 obtain ⟨v,H',h1,h2⟩:=h.elim;exact ⟨_,H',h1,hq _ _ h2⟩
theorem C3.q {m:Bool} {f:Nat} {vs:List AV} {H:AHeap} {R:AV->AHeap->Prop} {P:Bool->AV->AHeap->Prop} (h:jx M f vs H R) (hk:∀ v H',R v H'->P m v H'):C3 M m (.func f) vs H P:=by
 obtain ⟨v,H',h1,h2⟩:=h.elim;exact ⟨v,H',h1,hk v H' h2⟩
theorem C3.ret {m:Bool} {f:Nat} {vs:List AV} {H:AHeap} {P:Bool->AV->AHeap->Prop} {v:AV} {H':AHeap} (h:iG M f vs H (.ret v) H') (hk:P m v H'):C3 M m (.func f) vs H P:=⟨v,H',h,hk⟩
theorem C3.Aa {m:Bool} {l:Nat} {vs:List AV} {H:AHeap} {P:Bool->AV->AHeap->Prop} {v:AV} {H':AHeap} (h:lT M l vs H (.ret v) H') (hk:P m v H'):C3 M m (.yield l) vs H P:=⟨v,H',h,hk⟩
theorem P3.q {m:Bool} {X:aC->AHeap->Prop} {f:Nat} {vs:List AV} {H:AHeap} {R:br->AHeap->Prop} {P:Bool->AV->AHeap->Prop} (h:yg M f vs H R) (hk:∀ v H',R (.ret v) H'->P m v H') (hx:∀ c H',R (.panic c) H'->X c H'):P3 M m X (.func f) vs H P:=by
 obtain ⟨e,H',h1,h2⟩:=h;refine ⟨e,H',h1,?_⟩;cases e with
 | ret v=>exact hk _ _ h2
 | panic c=>exact hx _ _ h2
def qY:Nat->List AV->Env
 | _,[]=>[]
 | i,v::vs=>(i,v)::qY (i+1) vs
def lS:Nat->Nat->List Nat->Bool
 | _,0,_=>true
 | i,n+1,ks=>bM i ks && lS (i+1) n ks
theorem qyb:∀ (vs:List AV) (i t:Nat) (tm:T AV),(fC i vs tm).get t=if i<=t then (match vs[t-i]? with|some v=>some v|none=>tm.get t) else tm.get t
 | [],i,t,tm=>by simp [fC]
 | v::vs,i,t,tm=>by
  rw [fC,qyb vs (i+1) t,T.aJ]
  by_cases h:i=t
  ·subst h;simp;intro h;omega
  ·by_cases h2:i<=t
   ·have e:t-i=(t-(i+1))+1:=by omega
    rw [qm (show i+1<=t by omega),qm h2,qe h,e,zx]
   ·rw [qe (by omega),qe h2,qe h]
theorem q88:∀ (vs:List AV) (i t:Nat) (v:AV),lk (qY i vs) t=some v->i<=t/\vs[t-i]? = some v
 | [],i,t,v,h=>by cases h
 | w::vs,i,t,v,h=>by
  rw [qY,oX] at h;split at h
  ·rename_i e;subst e;injection h with h;subst h;simp
  ·obtain ⟨h1,h2⟩:=q88 vs (i+1) t v h;refine ⟨by omega,?_⟩;have e:t-i=(t-(i+1))+1:=by omega
   rw [e,zx,h2]
theorem q11:∀ (n i:Nat) (ks:List Nat),lS i n ks=true -> ∀ t,i<=t->t<i+n->bM t ks=true
 | 0,i,ks,_,t,h1,h2=>by omega
 | n+1,i,ks,h,t,h1,h2=>by
  simp only [lS,xq] at h
  by_cases e:i=t
  ·subst e;exact h.1
  ·exact q11 n (i+1) ks h.2 t (by omega) (by omega)
theorem rY {ks:List Nat} {vs:List AV} (h:lS 0 vs.length ks=true):dt ks (qY 0 vs) (fC 0 vs .nil):=λ t v hv=>by
 obtain ⟨_,h2⟩:=q88 vs 0 t v hv;rw [Ey] at h2;refine ⟨by rw [qyb,qm (zq _),Ey,h2],q11 _ 0 ks h t (zq _) ?_⟩;rw [yd];exact (qj.1 h2).1
structure Fn3 where
 n:Nat
 F:av
 K:Kp
def pre:ah->List ah
 | .seq a b=>.seq a b::fH (pre a) (pre b)
 | .cond c a b=>.cond c a b::fH (pre a) (pre b)
 | .block i b=>.block i b::pre b
 | .loop k b=>.loop k b::pre b
 | .scope b=>.scope b::pre b
 | c=>[c]
def part (c:ah) (k:Nat):ah:=Option.rec (motive:=λ _=>ah) .stuck (λ c=>c) (nth (pre c) k)
def cX:ah->Nat
 | .seq a b=>cX a+cX b+1
 | .cond _ a b=>cX a+cX b+1
 | .block _ b=>cX b+1
 | .loop _ b=>cX b+1
 | .scope b=>cX b+1
 | _=>1
theorem xN:∀ (c:ah),(pre c).length=cX c
 | .seq a b=>by simp [pre,cX,jF,xN a,xN b]
 | .cond _ a b=>by simp [pre,cX,jF,xN a,xN b]
 | .block _ b=>by simp [pre,cX,xN b]
 | .loop _ b=>by simp [pre,cX,xN b]
 | .scope b=>by simp [pre,cX,xN b]
 | .skip=>rfl
 | .label _=>rfl
 | .exit _=>rfl
 | .goto _=>rfl
 | .ret=>rfl
 | .stuck=>rfl
 | .region _=>rfl
 | .rangeFunc _ _=>rfl
theorem MI (c:ah):∃ l,pre c=c::l:=by cases c<;>exact ⟨_,rfl⟩
theorem M4 {α:Type}:∀ (l:List α) (i:Nat),nth l i=l[i]?
 | [],i=>rfl
 | x::l,0=>rfl
 | x::l,i+1=>by rw [zx,<-M4 l i];rfl
theorem BX:∀ (r:ah) (k:Nat) (c:ah),(pre r)[k]? = some c -> ∃ l,(pre r).drop k=pre c++l:=by
 intro r
 induction r with
 | seq a b iha ihb =>
  intro k c h;cases k with
  | zero=>simp [pre] at h;subst h;exact ⟨[],by simp⟩
  | succ k =>
   simp only [pre,jF,zx] at h;simp only [pre,jF,HN]
   by_cases hk:k<(pre a).length
   ·rw [km hk] at h;obtain ⟨l,hl⟩:=iha k c h;exact ⟨l++pre b,by rw [kx (by omega),hl,zi]⟩
   ·rw [jh (by omega)] at h;obtain ⟨l,hl⟩:=ihb _ c h;refine ⟨l,?_⟩;rw [vz,j3 (by omega),je,hl]
 | cond x a b iha ihb =>
  intro k c h;cases k with
  | zero=>simp [pre] at h;subst h;exact ⟨[],by simp⟩
  | succ k =>
   simp only [pre,jF,zx] at h;simp only [pre,jF,HN]
   by_cases hk:k<(pre a).length
   ·rw [km hk] at h;obtain ⟨l,hl⟩:=iha k c h;exact ⟨l++pre b,by rw [kx (by omega),hl,zi]⟩
   ·rw [jh (by omega)] at h;obtain ⟨l,hl⟩:=ihb _ c h;refine ⟨l,?_⟩;rw [vz,j3 (by omega),je,hl]
 | block i b ih =>
  intro k c h;cases k with
  | zero=>simp [pre] at h;subst h;exact ⟨[],by simp⟩
  | succ k=>simp only [pre,zx] at h;simpa only [pre,HN] using ih k c h
 | loop i b ih =>
  intro k c h;cases k with
  | zero=>simp [pre] at h;subst h;exact ⟨[],by simp⟩
  | succ k=>simp only [pre,zx] at h;simpa only [pre,HN] using ih k c h
 | scope b ih =>
  intro k c h;cases k with
  | zero=>simp [pre] at h;subst h;exact ⟨[],by simp⟩
  | succ k=>simp only [pre,zx] at h;simpa only [pre,HN] using ih k c h
 | _ =>
  intro k c h;cases k with
  | zero=>simp [pre] at h;subst h;exact ⟨[],by simp [pre]⟩
  | succ k=>simp [pre] at h
theorem q2h {r:ah} {k:Nat} {c:ah} (h:(pre r)[k]? = some c):part r k=c:=by
 unfold part;rw [M4,h]
theorem q2g {r:ah} {k:Nat} {c:ah} (h:part r k=c) (hc:c ≠ .stuck):∀ (j:Nat) (d:ah),(pre c)[j]? = some d->part r (k+j)=d:=λ j d hd=>by
 have h1:(pre r)[k]? = some c:=by
  unfold part at h;rw [M4] at h;cases hq:(pre r)[k]? with
  | none=>rw [hq] at h;exact (hc h.symm).elim
  | some x=>rw [hq] at h;exact congrArg some h
 obtain ⟨l,hl⟩:=BX r k c h1;refine q2h ?_;rw [<-yb,hl,km (qj.1 hd).1,hd]
theorem vS (c:ah):(pre c)[0]? = some c:=by obtain ⟨l,h⟩:=MI c;rw [h];rfl
theorem yA {r:ah} {k:Nat} {c a b:ah} (h:part r k=c) (hc:c ≠ .stuck) (e:∃ x l,pre c=x::(pre a++l)):part r (k+1)=a:=by
 obtain ⟨x,l,e⟩:=e;obtain ⟨l',e'⟩:=MI a;exact q2g h hc 1 a (by rw [e,e'];rfl)
theorem FU {r:ah} {k:Nat} {c a b:ah} (h:part r k=c) (hc:c ≠ .stuck) (e:∃ x,pre c=x::(pre a++pre b)):part r (k+1+cX a)=b:=by
 obtain ⟨x,e⟩:=e;obtain ⟨l',e'⟩:=MI b;rw [vh];exact q2g h hc (1+cX a) b (by rw [e,Nat.add_comm,zx,jh (by rw [xN];exact qh _),xN,Nat.sub_self,e'];rfl)
def U (M:aL) (ctx:Ctx) (K:Kp) (X:Nat->WX):ah->Nat->WX
 | .skip,_,g,Q,E,D,H=>aw g Q .normal E D H
 | .label _,_,g,Q,E,D,H=>aw g Q .normal E D H
 | .exit id,_,g,Q,E,D,H=>aw g Q (.exit id) E D H
 | .goto l,_,g,Q,E,D,H=>aw g Q (.goto l) E D H
 | .ret,_,g,Q,E,D,H=>aw g Q .ret E D H
 | .stuck,_,_,_,_,_,_=>False
 | .region l,_,g,Q,E,D,H=>mq M K.cj Q E D l g H λ g L _ H=>aw g Q .normal (cW K.ae E L) D H
 | .seq a b,k,g,Q,E,D,H=>match a,b with
  | .region l,.cond c x y=>mq M K.cj Q E D l g H λ g L R H=>CV E L R c g λ g v=>bo g v (λ g=>(Bool.rec (motive:=λ _=>WX) (U M ctx K X x (k+3)) (X (k+3)) (bM (k+3) K.named)) g Q (cW K.ae E L) D H) (λ g=>(Bool.rec (motive:=λ _=>WX) (U M ctx K X y (k+3+cX x)) (X (k+3+cX x)) (bM (k+3+cX x) K.named)) g Q (cW K.ae E L) D H)
  | .region l,.seq (.cond c x y) r=>mq M K.cj Q E D l g H λ g L R H=>CV E L R c g λ g v=>bo g v (λ g=>(Bool.rec (motive:=λ _=>WX) (U M ctx K X x (k+4)) (X (k+4)) (bM (k+4) K.named)) g (aj (Bool.rec (motive:=λ _=>WX) (U M ctx K X r (k+4+cX x+cX y)) (X (k+4+cX x+cX y)) (bM (k+4+cX x+cX y) K.named)) Q) (cW K.ae E L) D H)
   (λ g=>(Bool.rec (motive:=λ _=>WX) (U M ctx K X y (k+4+cX x)) (X (k+4+cX x)) (bM (k+4+cX x) K.named)) g (aj (Bool.rec (motive:=λ _=>WX) (U M ctx K X r (k+4+cX x+cX y)) (X (k+4+cX x+cX y)) (bM (k+4+cX x+cX y) K.named)) Q) (cW K.ae E L) D H)
  | .region l,b=>mq M K.cj Q E D l g H λ g L _ H=>(Bool.rec (motive:=λ _=>WX) (U M ctx K X b (k+2)) (X (k+2)) (bM (k+2) K.named)) g Q (cW K.ae E L) D H
  | a,b=>(Bool.rec (motive:=λ _=>WX) (U M ctx K X a (k+1)) (X (k+1)) (bM (k+1) K.named)) g (aj (Bool.rec (motive:=λ _=>WX) (U M ctx K X b (k+1+cX a)) (X (k+1+cX a)) (bM (k+1+cX a) K.named)) Q) E D H
 | .cond c x y,k,g,Q,E,D,H=>OV E c g λ g v=>bo g v (λ g=>(Bool.rec (motive:=λ _=>WX) (U M ctx K X x (k+1)) (X (k+1)) (bM (k+1) K.named)) g Q E D H) (λ g=>(Bool.rec (motive:=λ _=>WX) (U M ctx K X y (k+1+cX x)) (X (k+1+cX x)) (bM (k+1+cX x) K.named)) g Q E D H)
 | .block id b,k,g,Q,E,D,H=>(Bool.rec (motive:=λ _=>WX) (U M ctx K X b (k+1)) (X (k+1)) (bM (k+1) K.named)) g (aF id Q) E D H
 | .scope b,k,g,Q,E,D,H=>(Bool.rec (motive:=λ _=>WX) (U M ctx K X b (k+1)) (X (k+1)) (bM (k+1) K.named)) g (mF b Q) E D H
 | .loop (some _) _,_,_,_,_,_,_=>False
 | .loop none b,k,g,Q,E,D,H=>bu (Bool.rec (motive:=λ _=>WX) (U M ctx K X b (k+1)) (X (k+1)) (bM (k+1) K.named)) Q E D H
 | .rangeFunc f n,_,g,Q,E,D,H=>OV E f g λ g v=>eK M K.ae ctx n E D H Q v
theorem Ko (r:ah):∀ (n:Nat) (c:ah),cX c<=n -> ∀ k,part r k=c->U M ctx K (λ j=>W3 M ctx K (part r j)) c k=W3 M ctx K c:=by
 intro n
 induction n with
 | zero=>intro c hc;cases c<;>simp [cX] at hc
 | succ n ih =>
  intro c hc k hk;have sub:∀ (d:ah) (j:Nat),cX d<=n->part r j=d->Bool.rec (motive:=λ _=>WX) (U M ctx K (λ j=>W3 M ctx K (part r j)) d j) (W3 M ctx K (part r j)) (bM j K.named)=W3 M ctx K d:=λ d j h1 h2=>by
   cases bM j K.named with
   | true=>show W3 M ctx K (part r j)=_;rw [h2]
   | false=>exact ih d h1 j h2
  have pl:=@yA r;have pr:=@FU r;cases c with
  | seq a b =>
   have e:pre (.seq a b)=.seq a b::(pre a++pre b):=by simp [pre,jF]
   have ha:=yA (b:=b) hk (by simp) ⟨_,_,e⟩;have hb:=FU hk (by simp) ⟨_,e⟩;have hs:cX a+cX b<=n:=by simp only [cX] at hc;omega
   have gen:(Bool.rec (motive:=λ _=>WX) (U M ctx K (λ j=>W3 M ctx K (part r j)) a (k+1)) (W3 M ctx K (part r (k+1))) (bM (k+1) K.named))=W3 M ctx K a/\(Bool.rec (motive:=λ _=>WX) (U M ctx K (λ j=>W3 M ctx K (part r j)) b (k+1+cX a)) (W3 M ctx K (part r (k+1+cX a))) (bM (k+1+cX a) K.named))=W3 M ctx K b :=
    ⟨sub a _ (by omega) ha,sub b _ (by omega) hb⟩
   cases a with
   | region l =>
    have plain:(Bool.rec (motive:=λ _=>WX) (U M ctx K (λ j=>W3 M ctx K (part r j)) b (k+2)) (W3 M ctx K (part r (k+2))) (bM (k+2) K.named))=W3 M ctx K b:=sub b _ (by omega) hb;cases b with
    | cond c x y =>
     have e2:pre (.cond c x y)=.cond c x y::(pre x++pre y):=by simp [pre,jF]
     have hx:=yA (b:=y) hb (by simp) ⟨_,_,e2⟩;have hy:=FU hb (by simp) ⟨_,e2⟩;have hxy:cX x+cX y+1<=n:=by simp only [cX] at hs;omega
     have s1:=sub x (k+3) (by omega) hx;have s2:=sub y (k+3+cX x) (by omega) hy;funext g Q E D H;simp only [U,W3,s1,s2]
    | seq b1 q =>
     cases b1 with
     | cond c x y =>
      have e1:pre (.seq (.cond c x y) q)=.seq (.cond c x y) q::(pre (.cond c x y)++pre q):=by simp [pre,jF]
      have e2:pre (.cond c x y)=.cond c x y::(pre x++pre y):=by simp [pre,jF]
      have hc2:=yA (b:=q) hb (by simp) ⟨_,_,e1⟩;have hq:=FU hb (by simp) ⟨_,e1⟩;have hx:=yA (b:=y) hc2 (by simp) ⟨_,_,e2⟩;have hy:=FU hc2 (by simp) ⟨_,e2⟩;have hxy:cX x+cX y+1+cX q+1<=n:=by simp only [cX] at hs;omega
      have s1:=sub x (k+4) (by omega) hx;have s2:=sub y (k+4+cX x) (by omega) hy;have s3:=sub q (k+4+cX x+cX y) (by omega) (by rw [<-hq];simp only [cX];congr 1;omega);funext g Q E D H;simp only [U,W3,s1,s2,s3]
     | _=>funext g Q E D H;simp only [U,W3] at plain ⊢;simp only [plain]
    | _=>funext g Q E D H;simp only [U,W3] at plain ⊢;simp only [plain]
   | _=>funext g Q E D H;simp only [U,W3] at gen ⊢;simp only [gen.1,gen.2]
  | cond c x y =>
   have e2:pre (.cond c x y)=.cond c x y::(pre x++pre y):=by simp [pre,jF]
   have hx:=yA (b:=y) hk (by simp) ⟨_,_,e2⟩;have hy:=FU hk (by simp) ⟨_,e2⟩;have hxy:cX x+cX y<=n:=by simp only [cX] at hc;omega
   have s1:=sub x (k+1) (by omega) hx;have s2:=sub y (k+1+cX x) (by omega) hy;funext g Q E D H;simp only [U,W3,s1,s2]
  | block i b =>
   have s1:=sub b (k+1) (by simp only [cX] at hc;omega) (yA (b:=b) hk (by simp) ⟨.block i b,[],by simp [pre]⟩);funext g Q E D H;simp only [U,W3,s1]
  | scope b =>
   have s1:=sub b (k+1) (by simp only [cX] at hc;omega) (yA (b:=b) hk (by simp) ⟨.scope b,[],by simp [pre]⟩);funext g Q E D H;simp only [U,W3,s1]
  | loop i b =>
   have s1:=sub b (k+1) (by simp only [cX] at hc;omega) (yA (b:=b) hk (by simp) ⟨.loop i b,[],by simp [pre]⟩);funext g Q E D H;cases i with
   | none=>simp only [U,W3,s1]
   | some _=>rfl
  | _=>funext g Q E D H;rfl
theorem IM:∃ F:aL->Ctx->Kp × ah->WX,F=λ M ctx p=>W3 M ctx p.1 p.2:=⟨_,rfl⟩
def W:aL->Ctx->Kp × ah->WX:=Classical.choose IM
theorem i7 (M:aL) (ctx:Ctx) (p:Kp × ah):W M ctx p=W3 M ctx p.1 p.2:=congrFun (congrFun (congrFun (Classical.choose_spec IM) M) ctx) p
def funcAt (P:Program) (n:Nat):av:=Option.rec (motive:=λ _=>av) ⟨[],.stuck,[]⟩ (λ f=>f) ((ak P).func n)
def iY (F:av) (i:Nat):df:=Option.rec (motive:=λ _=>df) ⟨[],.stuck,.stuck⟩ (λ l=>l) (nth F.loops i)
theorem aG {M:aL} {ctx:Ctx} {K:Kp} {r:ah} {k:Nat} {g:Bool} {Q:aI} {E:Env} {D:List aM} {H:AHeap} {R:Prop} (h:U M ctx K (λ j=>W M ctx (K,part r j)) (part r k) k g Q E D H=R):W M ctx (K,part r k) g Q E D H=R:=by
 rw [<-h];have e:(λ j=>W M ctx (K,part r j))=λ j=>W3 M ctx K (part r j):=by funext j;exact i7 ..
 rw [e,Ko (M:=M) (ctx:=ctx) (K:=K) r _ (part r k) (qh _) k rfl,i7]
abbrev uu:AV:=.undef
theorem p7 (c:ah):part c 0=c:=q2h (vS c)
theorem zd {α β:Type} {a b:α} {x y:β} (h:(a,x)=(b,y)):a=b/\x=y:=by injection h with h1 h2;exact ⟨h1,h2⟩
theorem IB {M:aL} {f:Nat} {fn:av} (hf:M.func f=some fn) {ks:Kp} {vs:List AV} (hk:lS 0 vs.length ks.ae=true) {H:AHeap} {Q:br->AHeap->Prop}
 (h:W M ⟨none,f⟩ (ks,part fn.body 0) true (aK M fn.results Q) (qY 0 vs) [] H):yg M f vs H Q:=by
 rw [i7,p7] at h;refine q6f hf (mg (W3.wp (c9 fn.body) fn.body (qh _) (up:=none) h (rY hk)) λ e st ⟨h1,E',h2,h3⟩=>?_);obtain ⟨tm,D,up,H'⟩:=st;have h1:up=none:=h1;subst h1;have mono:∀ {m:Option aC},jU M fn.results E' Q D m H'->rh M fn.results tm (λ e H=>(none:Option aC)=none/\Q e H) D m H':=λ {m} h=>by
  have h':jU M fn.results E' (λ e H=>(none:Option aC)=none/\Q e H) D m H':=by
   have e:(λ e H=>(none:Option aC)=none/\Q e H)=Q:=by funext e H;simp
   rw [e];exact h
  exact jU.MQ h2 h'
 cases e with
 | normal=>exact mono h3
 | ret=>exact mono h3
 | panic c=>exact mono h3
 | exit _=>exact h3.elim
 | goto _=>exact h3.elim
section
variable (E:Env) (H:AHeap) (K:Bool->AV->Prop) (K2:Bool->AV->AHeap->Prop) (A B:Bool->Prop)
def Lz (E:Env) (n:Nat) (K:Bool->AV->Prop):Prop:=LK true (lk E n) K
def Ly (g:Bool) (E:Env) (n:Nat) (K:Bool->AV->Prop):Prop:=LK g (lk E n) K
def Fl (g:Bool) (i:Nat) (a:AV) (H:AHeap) (K:Bool->AV->Prop):Prop:=B3 g (Op.fieldAddr i [a]) λ g x=>B3 g (Op.aa [x] H) K
def Nf (g:Bool) (i:Nat) (a:AV) (H:AHeap) (K:Bool->AV->Prop):Prop:=B3 g (Op.nilCheck [a]) λ g x=>Fl g i x H K
def Fs (g:Bool) (i:Nat) (a b:AV) (H:AHeap) (K:Bool->AV->AHeap->Prop):Prop:=B3 g (Op.fieldAddr i [a]) λ g x=>aY g (Op.store 1 [x,b] H) K
def Ns (g:Bool) (i:Nat) (a b:AV) (H:AHeap) (K:Bool->AV->AHeap->Prop):Prop:=B3 g (Op.nilCheck [a]) λ g x=>Fs g i x b H K
def Xl (g:Bool) (a b:AV) (H:AHeap) (K:Bool->AV->Prop):Prop:=B3 g (Op.aP 1 [a,b]) λ g x=>B3 g (Op.aa [x] H) K
def Xs (g:Bool) (a b c:AV) (H:AHeap) (K:Bool->AV->AHeap->Prop):Prop:=B3 g (Op.aP 1 [a,b]) λ g x=>aY g (Op.store 1 [x,c] H) K
def Bn (g:Bool) (o:BinOp) (a b:AV) (K:Bool->AV->Prop):Prop:=B3 g (Op.bin o [a,b]) K
def Cb (g:Bool) (o:BinOp) (a b:AV) (A B:Bool->Prop):Prop:=B3 g (Op.bin o [a,b]) λ g v=>bo g v A B
def Gt (g:Bool) (M:aL) (c:Ctx) (p:Kp × ah) (Q:aI) (E:Env) (D:List aM) (H:AHeap):Prop:=aw g (aj (W M c p) Q) .normal E D H
theorem Oc (n:Nat):Lz E n K=LK true (lk E n) K:=propext j2
theorem Ln (n:Nat):Ly true E n K=LK true (lk E n) K:=propext j2
theorem KM (i:Nat) (a:AV):Fl true i a H K=B3 true (Op.fieldAddr i [a]) λ g x=>B3 g (Op.aa [x] H) K:=propext j2
theorem MT (i:Nat) (a:AV):Nf true i a H K=B3 true (Op.nilCheck [a]) λ g x=>Fl g i x H K:=propext j2
theorem Lx (i:Nat) (a b:AV):Fs true i a b H K2=B3 true (Op.fieldAddr i [a]) λ g x=>aY g (Op.store 1 [x,b] H) K2:=propext j2
theorem NK (i:Nat) (a b:AV):Ns true i a b H K2=B3 true (Op.nilCheck [a]) λ g x=>Fs g i x b H K2:=propext j2
theorem NR (a b:AV):Xl true a b H K=B3 true (Op.aP 1 [a,b]) λ g x=>B3 g (Op.aa [x] H) K:=propext j2
theorem Ld (a b c:AV):Xs true a b c H K2=B3 true (Op.aP 1 [a,b]) λ g x=>aY g (Op.store 1 [x,c] H) K2:=propext j2
theorem Kk (o:BinOp) (a b:AV):Bn true o a b K=B3 true (Op.bin o [a,b]) K:=propext j2
theorem Kt (o:BinOp) (a b:AV):Cb true o a b A B=B3 true (Op.bin o [a,b]) λ g v=>bo g v A B:=propext j2
theorem Kl (M:aL) (c:Ctx) (p:Kp × ah) (Q:aI) (D:List aM):Gt true M c p Q E D H=aw true (aj (W M c p) Q) .normal E D H:=propext j2
end
end
end Go.Am
namespace Go.Am
def Mv (g:Bool) (a:AV) (K:Bool->AV->Prop):Prop:=B3 g (Op.move [a]) K
theorem iV (a:AV) (K:Bool->AV->Prop):Mv true a K=K true a:=propext j2
@[congr] theorem GF {g g':Bool} {a a':AV} {K:Bool->AV->Prop} (hg:g=g') (ha:a=a'):Mv g a K=Mv g' a' K:=by subst hg;subst ha;rfl
end Go.Am
namespace Go.Am
section
variable {M:aL} {ctx:Ctx} {cj:Bool} {Q Q':aI} {E:Env} {D:List aM}
theorem IZ {α:Type} {m:Bool} {o:Option α} {K K':Bool -> α->Prop} (h:B3 m o K) (hk:∀ a,K m a->K' m a):B3 m o K':=by
 cases o with
 | none=>exact h
 | some a=>exact hk a h
theorem q4k {α β:Type} {m:Bool} {o:Option (α × β)} {K K':Bool -> α -> β->Prop} (h:aY m o K) (hk:∀ a b,K m a b->K' m a b):aY m o K':=by
 cases o with
 | none=>exact h
 | some a=>exact hk a.1 a.2 h
theorem q7r {α:Type} {m:Bool} {o:Option α} {K K':Bool -> α->Prop} (h:LK m o K) (hk:∀ a,K m a->K' m a):LK m o K':=by
 cases o with
 | none=>exact h
 | some a=>exact hk a h
theorem q4m {m:Bool} {v:AV} {A B A' B':Bool->Prop} (h:bo m v A B) (ha:A m->A' m) (hb:B m->B' m):bo m v A' B':=by
 obtain ⟨q,rfl,h⟩:=h.elim;cases q with
 | true=>exact ha h
 | false=>exact hb h
theorem Ny {L R:Env} {t:Nat} {g:Bool} {K K':Bool->Env->AV->Prop} (h:TV E L R t g K) (hk:∀ R v,K g R v->K' g R v):TV E L R t g K':=by
 unfold TV at h ⊢;cases hl:lk L t with
 | some v=>rw [hl] at h;exact hk _ _ h
 | none =>
  rw [hl] at h;cases hq:lk R t with
  | some v=>rw [hq] at h;exact hk _ _ h
  | none=>rw [hq] at h;exact q7r h λ v q=>hk _ _ q
theorem q7u {x:bA} {g:Bool} {K K':Bool->AV->Prop} (h:OV E x g K) (hk:∀ v,K g v->K' g v):OV E x g K':=by
 cases x with
 | tmp t=>simp only [OV] at h ⊢;exact q7r h hk
 | const v=>exact hk _ h
 | cY b=>exact hk _ h
 | func f=>exact hk _ h
theorem Az {L R:Env} {x:bA} {g:Bool} {K K':Bool->AV->Prop} (h:CV E L R x g K) (hk:∀ v,K g v->K' g v):CV E L R x g K':=by
 cases x with
 | tmp t=>simp only [CV] at h ⊢;exact Ny h λ _ v=>hk v
 | const v=>exact hk _ h
 | cY b=>exact hk _ h
 | func f=>exact hk _ h
theorem Ii {L:Env} {g:Bool}:∀ {l:List bA} {R:Env} {K K':Bool->Env->List AV->Prop},pP E L l g R K->(∀ R vs,K g R vs->K' g R vs)->pP E L l g R K'
 | [],R,K,K',h,hk=>hk _ _ h
 | .tmp t::xs,R,K,K',h,hk=>Ny (K:=λ g R v=>pP E L xs g R λ g R vs=>K g R (v::vs)) (K':=λ g R v=>pP E L xs g R λ g R vs=>K' g R (v::vs)) h λ R v q=>Ii (K:=λ g R vs=>K g R (v::vs)) (K':=λ g R vs=>K' g R (v::vs)) q λ R vs=>hk _ _
 | .const v::xs,R,K,K',h,hk=>Ii (l:=xs) (K:=λ g R vs=>K g R (v::vs)) (K':=λ g R vs=>K' g R (v::vs)) h λ R vs=>hk _ _
 | .cY v::xs,R,K,K',h,hk=>Ii (l:=xs) (K:=λ g R vs=>K g R (.ptr v 0::vs)) (K':=λ g R vs=>K' g R (.ptr v 0::vs)) h λ R vs=>hk _ _
 | .func v::xs,R,K,K',h,hk=>Ii (l:=xs) (K:=λ g R vs=>K g R (.fn (.func v) [] []::vs)) (K':=λ g R vs=>K' g R (.fn (.func v) [] []::vs)) h λ R vs=>hk _ _
theorem q7v (hq:∀ e E D H,Q e E D H->Q' e E D H) {ps:Option (List Nat)} {ks:List Nat} {c:aC} {H:AHeap} (h:PX ps ks Q E D c H):PX ps ks Q' E D c H:=by
 cases ps with
 | none=>exact h
 | some _=>exact hq _ _ _ _ h
theorem JE (hq:∀ e E D H,Q e E D H->Q' e E D H) {ps:Option (List Nat)} {L:Env} {g:Bool} {f:ff} {vs:List AV} {H:AHeap} {K K':Bool->AV->AHeap->Prop} (h:uT M cj ps L Q E D g f vs H K) (hk:∀ v H,K g v H->K' g v H):uT M cj ps L Q' E D g f vs H K':=by
 cases cj with
 | false=>obtain ⟨v,H',h1,h2⟩:=h;exact ⟨v,H',h1,hk _ _ h2⟩
 | true =>
  obtain ⟨e,H',h1,h2⟩:=h;refine ⟨e,H',h1,?_⟩;cases e with
  | ret v=>exact hk _ _ h2
  | panic c=>exact q7v hq h2
theorem sI (hq:∀ e E D H,Q e E D H->Q' e E D H) {s:aU} {K K':KR} {g:Bool} {L R:Env} {H:AHeap} (h:wO M cj s Q E D K g L R H) (hk:∀ L R H,K g L R H->K' g L R H):wO M cj s Q' E D K' g L R H:=by
 refine Ii (show pP E L s.args g R _ from h) λ R vs h=>?_;obtain ⟨eC,dst,guard,args,op,ps⟩:=s;cases eC with
 | true =>
  have h:I0 dst E L R H K g vs op:=h;show I0 dst E L R H K' g vs op;cases op with
  | read f =>
   cases dst with
   | none=>exact h
   | some d=>exact ⟨h.1,hk _ _ _ h.2⟩
  | _=>exact h
 | false =>
  have h:nV M cj dst ps Q E D L R H K g vs op:=h;show nV M cj dst ps Q' E D L R H K' g vs op;cases op with
  | pure f=>simp only [nV] at h ⊢;exact IZ h λ a=>hk _ _ _
  | read f=>simp only [nV] at h ⊢;exact IZ h λ a=>hk _ _ _
  | alloc f=>simp only [nV] at h ⊢;exact q4k h λ a b=>hk _ _ _
  | eE f=>simp only [nV] at h ⊢;exact q4k h λ a b=>hk _ _ _
  | ew f=>exact JE hq h λ v H=>hk _ _ _
  | eD =>
   simp only [nV,V3] at h ⊢;split at h
   ·exact JE hq h λ v H=>hk _ _ _
   ·exact JE hq h λ v H=>hk _ _ _
   ·exact h.elim
  | invoke n =>
   simp only [nV,N3] at h ⊢;split at h
   ·exact IZ h λ a q=>JE hq q λ v H=>hk _ _ _
   ·exact h.elim
  | recover=>exact h
  | defer=>exact h
  | panic =>
   cases cj with
   | false=>exact h
   | true =>
    have h:dT vs H (PX ps (iM L) Q E D):=h;show dT vs H (PX ps (iM L) Q' E D);unfold dT at h ⊢;split at h
    ·exact q7v hq h
    ·exact h.elim
theorem L7 (hq:∀ e E D H,Q e E D H->Q' e E D H) {K K':KR} {g:Bool} (hk:∀ L R H,K g L R H->K' g L R H):∀ {l:List aU} {L R:Env} {H:AHeap},jT M cj Q E D K l g L R H->jT M cj Q' E D K' l g L R H
 | [],L,R,H,h=>hk _ _ _ h
 | s::l,L,R,H,h=>sI hq (show wO M cj s Q E D (jT M cj Q E D K l) g L R H from h) λ L R H=>L7 hq hk
theorem Nn:∀ (n:Nat) {f f':List AV->AHeap->Prop},(∀ vs H,f vs H->f' vs H) -> ∀ (l:List AV) (H:AHeap),jM n (kA n f) l H->jM n (kA n f') l H
 | 0,f,f',hf,l,H,h=>hf [] H h
 | n+1,f,f',hf,[],H,h=>h
 | n+1,f,f',hf,v::l,H,h=>Nn n (f:=λ l=>f (v::l)) (f':=λ l=>f' (v::l)) (λ vs H=>hf _ _) l H h
theorem tV (hq:∀ e E D H,Q e E D H->Q' e E D H) {x:zO} {K K':KR} {g:Bool} (hk:∀ L R H,K g L R H->K' g L R H) {L R:Env} {H:AHeap} (h:IW M cj Q E D x K g L R H):IW M cj Q' E D x K' g L R H:=by
 obtain ⟨q,l⟩:=x;cases q with
 | none=>exact L7 hq hk (show jT M cj Q E D K l g L R H from h)
 | some q =>
  cases ho:oL q.1 l with
  | false =>
   have h:cond (oL q.1 l) _ False:=h;rw [ho] at h;exact h.elim
  | true =>
   have h:cond (oL q.1 l) _ False:=h;rw [ho,xk] at h;show cond (oL q.1 l) _ False;rw [ho,xk];refine Ny h λ R1 v h=>?_;have h:B3 g (aB q.2 (some v)) λ g w=>cw g w (λ g=>jT M cj Q E D (λ g L' _ H=>jM (ct (bm l [])) (kA (ct (bm l [])) λ vs H=>K g (gk (bm l []) L vs) R1 H) (mf (ct (bm l [])) L') H) l g L R1 H)
    (λ g=>jM (ct (bm l [])) (kA (ct (bm l [])) λ vs H=>K g (gk (bm l []) L vs) R1 H) (mI (ct (bm l []))) H):=h
   refine IZ (K':=λ g w=>cw g w (λ g=>jT M cj Q' E D (λ g L' _ H=>jM (ct (bm l [])) (kA (ct (bm l [])) λ vs H=>K' g (gk (bm l []) L vs) R1 H) (mf (ct (bm l [])) L') H) l g L R1 H)
    (λ g=>jM (ct (bm l [])) (kA (ct (bm l [])) λ vs H=>K' g (gk (bm l []) L vs) R1 H) (mI (ct (bm l []))) H)) h λ w h=>?_
   cases w with
   | true=>exact L7 hq (λ L' R H h=>Nn _ (λ vs H=>hk _ _ _) _ _ h) (show jT M cj Q E D _ l g L R1 H from h)
   | false=>exact Nn _ (λ vs H=>hk _ _ _) _ _ h
theorem IY (hq:∀ e E D H,Q e E D H->Q' e E D H) {l:List aU} {K K':KR} {g:Bool} (hk:∀ L R H,K g L R H->K' g L R H) {H:AHeap} (h:mq M cj Q E D l g H K):mq M cj Q' E D l g H K':=by
 unfold mq at h ⊢;generalize Ej l=gs at h ⊢;generalize ([]:Env)=L at h ⊢;have key:∀ (gs:List zO) (L R:Env) (H:AHeap),qX M cj Q E D K gs g L R H->qX M cj Q' E D K' gs g L R H:=by
  intro gs
  induction gs with
  | nil=>exact λ L R H h=>hk _ _ _ h
  | cons x gs ih=>exact λ L R H h=>tV hq ih (show IW M cj Q E D x (qX M cj Q E D K gs) g L R H from h)
 exact key gs L L H h
theorem yG {K:Kp}:∀ (n:Nat) (c:ah),c9 c<=n -> ∀ {g:Bool} {Q Q':aI} {E:Env} {D:List aM} {H:AHeap},(∀ e E D H,Q e E D H->Q' e E D H)->W3 M ctx K c g Q E D H->W3 M ctx K c g Q' E D H:=by
 intro n
 induction n with
 | zero =>
  intro c hc g Q Q' E D H hq h;cases c with
  | region l=>exact IY hq (λ L R H h=>hq _ _ _ _ h) h
  | rangeFunc f k =>
   have h:OV E f g λ g v=>eK M K.ae ctx k E D H Q v:=h;show OV E f g λ g v=>eK M K.ae ctx k E D H Q' v;have key:∀ v,eK M K.ae ctx k E D H Q v->eK M K.ae ctx k E D H Q' v:=λ v h tm up he=>by
    have:=h tm up he;unfold AR at this ⊢;split
    ·rename_i hr;rw [hr] at this;exact FY this λ e st ⟨h1,h2,h3⟩=>⟨h1,h2,hq _ _ _ _ h3⟩
    ·rename_i l hr;rw [hr] at this;exact wU (m:=aA) this λ d q=>FY q λ e st ⟨h1,h2,h3⟩=>⟨h1,h2,hq _ _ _ _ h3⟩
   exact q7u h key
  | skip=>exact hq _ _ _ _ h
  | label _=>exact hq _ _ _ _ h
  | exit _=>exact hq _ _ _ _ h
  | goto _=>exact hq _ _ _ _ h
  | ret=>exact hq _ _ _ _ h
  | stuck=>exact h
  | seq _ _=>simp [c9] at hc
  | cond _ _ _=>simp [c9] at hc
  | block _ _=>simp [c9] at hc
  | loop _ _=>simp [c9] at hc
  | scope _=>simp [c9] at hc
 | succ n ih =>
  intro c hc g Q Q' E D H hq h;have sq:∀ {b:ah},c9 b<=n -> ∀ e E D H,aj (W3 M ctx K b) Q e E D H->aj (W3 M ctx K b) Q' e E D H:=λ hb e E D H h=>by
   cases e with
   | normal=>exact ih _ hb hq h
   | _=>exact hq _ _ _ _ h
  cases c with
  | seq a b =>
   have hab:c9 a+c9 b<=n:=by simp only [c9] at hc;omega
   have gen:W3 M ctx K a g (aj (W3 M ctx K b) Q) E D H->W3 M ctx K a g (aj (W3 M ctx K b) Q') E D H:=λ h=>ih a (by omega) (sq (by omega)) h;cases a with
   | region l =>
    have plain:(mq M K.cj Q E D l g H λ g L _ H=>W3 M ctx K b g Q (cW K.ae E L) D H)->mq M K.cj Q' E D l g H λ g L _ H=>W3 M ctx K b g Q' (cW K.ae E L) D H:=λ h=>IY hq (λ L R H h=>ih b (by omega) hq h) h;have cv:∀ {L R:Env} {c:bA} {A B A' B':Bool->Prop},CV E L R c g (λ g v=>bo g v A B)->(A g->A' g)->(B g->B' g)->CV E L R c g (λ g v=>bo g v A' B'):=λ {L R c A B A' B'} h ha hb=>by
     exact Az h λ v h=>q4m h ha hb
    cases b with
    | cond c x y =>
     have hxy:c9 x+c9 y+1<=n:=by simp only [c9] at hab;omega
     exact IY hq (λ L R H h=>cv h (ih x (by omega) hq) (ih y (by omega) hq)) h
    | seq b1 r =>
     cases b1 with
     | cond c x y =>
      have hxy:c9 x+c9 y+1+c9 r+1<=n:=by simp only [c9] at hab;omega
      exact IY hq (λ L R H h=>cv h (ih x (by omega) (sq (by omega))) (ih y (by omega) (sq (by omega)))) h
     | _=>exact plain h
    | _=>exact plain h
   | _=>exact gen h
  | cond c x y =>
   have hab:c9 x+c9 y<=n:=by simp only [c9] at hc;omega
   have h:OV E c g λ g v=>bo g v (λ g=>W3 M ctx K x g Q E D H) (λ g=>W3 M ctx K y g Q E D H):=h;exact q7u (K':=λ g v=>bo g v (λ g=>W3 M ctx K x g Q' E D H) (λ g=>W3 M ctx K y g Q' E D H)) h λ v h=>q4m h (ih x (by omega) hq) (ih y (by omega) hq)
  | block id b =>
   have hb:c9 b<=n:=by simp only [c9] at hc;omega
   exact ih b hb (λ e E D H h=>by cases e<;>exact hq _ _ _ _ h) h
  | scope b =>
   have hb:c9 b<=n:=by simp only [c9] at hc;omega
   exact ih b hb (λ e E D H h=>by cases e<;>first|exact hq _ _ _ _ h|exact ⟨h.1,hq _ _ _ _ h.2⟩) h
  | loop ae b =>
   have hb:c9 b<=n:=by simp only [c9] at hc;omega
   cases ae with
   | some _=>exact h
   | none =>
    obtain ⟨I,h0,h1⟩:=h;exact ⟨I,h0,λ n E D H hi=>ih b hb (λ e E D H h=>by cases e<;>first|exact h|exact hq _ _ _ _ h) (h1 n E D H hi)⟩
  | _=>exact ih _ (zq _) hq h
end
theorem W.mono {M:aL} {ctx:Ctx} {p:Kp × ah} {g:Bool} {Q Q':aI} {E:Env} {D:List aM} {H:AHeap} (h:W M ctx p g Q E D H) (hq:∀ e E D H,Q e E D H->Q' e E D H):W M ctx p g Q' E D H:=by
 rw [i7] at h ⊢;exact yG _ p.2 (qh _) hq h
end Go.Am
namespace Go.Am
noncomputable section
variable (X:WX) (Q:aI) (E:Env) (D:List aM) (H:AHeap) (I:CS) (n:Nat)
theorem q28:aj X Q .normal E D H=X true Q E D H:=propext j2
theorem sr:aj X Q .ret E D H=Q .ret E D H:=propext j2
theorem q7w (l:Nat):aj X Q (.exit l) E D H=Q (.exit l) E D H:=propext j2
theorem q7x (l:Nat):aj X Q (.goto l) E D H=Q (.goto l) E D H:=propext j2
theorem q57 (c:aC):aj X Q (.panic c) E D H=Q (.panic c) E D H:=propext j2
theorem q24 (i:Nat):aF i Q .normal E D H=Q .normal E D H:=propext j2
theorem ux (i:Nat):aF i Q .ret E D H=Q .ret E D H:=propext j2
theorem q7k (i l:Nat):aF i Q (.goto l) E D H=Q (.goto l) E D H:=propext j2
theorem q5w (i:Nat) (c:aC):aF i Q (.panic c) E D H=Q (.panic c) E D H:=propext j2
theorem q7j (i l:Nat):aF i Q (.exit l) E D H=if i=l then Q .normal E D H else Q (.exit l) E D H:=by
 show Q (cond (Nat.beq i l) .normal (.exit l)) E D H=_
 by_cases h:i=l
 ·subst h;simp
 ·rw [qe h,DI h];rfl
section
variable (M:aL) (rs:List cQ) (Q:br->AHeap->Prop) (P:List AV->Prop) (R:AV->AHeap->Prop)
theorem tC:aK M rs Q .ret E [] H=dn E H rs λ l=>Q (.ret (c7 l)) H:=propext j2
theorem q27:aK M rs Q .normal E [] H=dn E H rs λ l=>Q (.ret (c7 l)) H:=propext j2
theorem q52 (c:aC):aK M rs Q (.panic c) E [] H=Q (.panic c) H:=propext j2
theorem rK:dn E H [] P=P []:=propext j2
theorem sA (t:Nat):dn E H (.tmp t::rs) P=LK true (lk E t) λ _ v=>dn E H rs λ vs=>P (v::vs):=propext j2
theorem q55 (t:Nat):dn E H (.gn t::rs) P=LK true (lk E t) λ _ v=>B3 true (Op.aa [v] H) λ _ v=>dn E H rs λ vs=>P (v::vs):=propext j2
theorem q56 (n t:Nat):dn E H (.cz n t::rs) P=LK true (lk E t) λ _ v=>B3 true (Op.ao n [v] H) λ _ v=>dn E H rs λ vs=>P (v::vs):=propext j2
theorem Ad (v:AV):kY R (.ret v) H=R v H:=propext j2
end
theorem Bi:((0:Nat):Int)=0:=rfl
theorem x9 (l:List AV):AV.cells (.agg l)=l:=rfl
theorem q8c (k:IntKind) (n:Int):AV.cells (.int k n)=[.int k n]:=rfl
theorem q6i (b:Bool):AV.cells (.bool b)=[.bool b]:=rfl
theorem q8e (s:List UInt8):AV.cells (.str s)=[.str s]:=rfl
theorem q8d (b o:Nat):AV.cells (.ptr b o)=[.ptr b o]:=rfl
def rq (I:Nat->Env->AHeap->Prop) (D:List aM) (n:Nat) (Q:aI):aI:=λ e E D' H=>match e with
 | .normal=>D'=D /\ ∃ m E',I m E' H/\mP E' E/\m<n
 | e=>Q e E D' H
theorem bu.intro {M:aL} {ctx:Ctx} {p:Kp × ah} {Q:aI} {E:Env} {D:List aM} {H:AHeap} (I:Nat->Env->AHeap->Prop) (h0:∃ n E0,I n E0 H/\mP E0 E) (h:∀ n E H,I n E H->W M ctx p true (rq I D n Q) E D H):bu (W M ctx p) Q E D H:=by
 obtain ⟨n,E0,h1,h2⟩:=h0;refine ⟨λ n E D' H=>D'=D/\I n E H,⟨n,E0,⟨rfl,h1⟩,h2.ss⟩,λ n E D' H ⟨e,hi⟩=>?_⟩;subst e;refine W.mono (h n E H hi) λ e E D'' H hq=>?_;cases e with
 | normal=>obtain ⟨q,m,E',a,b,c⟩:=hq;exact ⟨m,E',⟨q,a⟩,b.ss,c⟩
 | _=>exact hq
def yE (P:Env->List aM->AHeap->Prop) (Q:aI):aI:=λ e E D H=>match e with
 | .normal=>P E D H
 | e=>Q e E D H
theorem q53 (P:Env->List aM->AHeap->Prop) (Q:aI) (E:Env) (D:List aM) (H:AHeap):yE P Q .normal E D H=P E D H:=propext j2
theorem yL (P:Env->List aM->AHeap->Prop) (Q:aI) (E:Env) (D:List aM) (H:AHeap):yE P Q .ret E D H=Q .ret E D H:=propext j2
theorem tZ (P:Env->List aM->AHeap->Prop) (Q:aI) (E:Env) (D:List aM) (H:AHeap) (l:Nat):yE P Q (.exit l) E D H=Q (.exit l) E D H:=propext j2
def LN (X:WX) (Q:aI):Nat->Env->List aM->AHeap->Prop
 | 0,_,_,_=>False
 | n+1,E,D,H=>X true (yE (LN X Q n) Q) E D H
theorem AD (X:WX) (Q:aI) (n:Nat) (E:Env) (D:List aM) (H:AHeap):LN X Q (n+1) E D H=X true (yE (LN X Q n) Q) E D H:=propext j2
theorem q54 (I:Nat->Env->AHeap->Prop) (D:List aM) (n:Nat) (Q:aI) (E:Env) (H:AHeap):rq I D n Q .normal E D H = ∃ m E',I m E' H/\mP E' E/\m<n:=propext ⟨λ h=>h.2,λ h=>⟨rfl,h⟩⟩
theorem xR (I:Nat->Env->AHeap->Prop) (D D':List aM) (n:Nat) (Q:aI) (E:Env) (H:AHeap):rq I D n Q .ret E D' H=Q .ret E D' H:=propext j2
theorem tA (I:Nat->Env->AHeap->Prop) (D D':List aM) (n:Nat) (Q:aI) (E:Env) (H:AHeap) (l:Nat):rq I D n Q (.exit l) E D' H=Q (.exit l) E D' H:=propext j2
theorem tU (I:Nat->Env->AHeap->Prop) (D D':List aM) (n:Nat) (Q:aI) (E:Env) (H:AHeap) (l:Nat):rq I D n Q (.goto l) E D' H=Q (.goto l) E D' H:=propext j2
theorem q7s (I:Nat->Env->AHeap->Prop) (D D':List aM) (n:Nat) (Q:aI) (E:Env) (H:AHeap) (c:aC):rq I D n Q (.panic c) E D' H=Q (.panic c) E D' H:=propext j2
theorem GO:(∀ {α:Type} (a:α) (K:Bool -> α->Prop),LK true (some a) K=K true a)/\(∀ {α:Type} (a:α) (K:Bool -> α->Prop),B3 true (some a) K=K true a)/\(∀ {α β:Type} (a:α) (b:β) (K:Bool -> α -> β->Prop),aY true (some (a,b)) K=K true a b)/\(∀ (A B:Bool->Prop),bo true (AV.bool true) A B=A true)/\(∀ (A B:Bool->Prop),bo true (AV.bool false) A B=B true)/\(∀ (A B:Bool->Prop),cw true true A B=A true)/\(∀ (A B:Bool->Prop),cw true false A B=B true)/\(∀ (v:AV) (K:Bool->Prop),ui true (some v) (some v) K=K true)/\(∀ (e:Nat) (z:List AV) (H:AHeap) (K:Bool->AV->AHeap->Prop),A3 true e z H K=K true (AV.ptr H.next 0) (H.alloc (bK.row z e (0,0) true)))/\(∀ {α:Type} (F:α->Prop) (K:α),JN F K=F K)/\(∀ (Q:aI) (e:aE) (E:Env) (D:List aM) (H:AHeap),aw true Q e E D H=Q e E D H)/\(∀ (g:Nat) (first cap args:List AV) (K:Bool->ff->List AV->Prop),V3 true (AV.fn (ff.func g) first cap::args) K=K true (ff.func g) (first++(args++cap)))/\(∀ (l:Nat) (first args:List AV) (K:Bool->ff->List AV->Prop),V3 true (AV.fn (ff.yield l) first []::args) K=K true (ff.yield l) (first++args))/\(∀ (M:aL) (name:String) (t:Nat) (v:AV) (args:List AV) (K:Bool->ff->List AV->Prop),N3 M true name (AV.iface t v::args) K=B3 true (M.lM t name) λ m g=>K m (ff.func g) (v::args))/\(∀ (k t:Nat) (v:AV) (E:Env),lk ((k,v)::E) t=if k=t then some v else lk E t)/\(∀ (t:Nat),lk [] t=none)/\(∀ (k:Nat) (v:AV) (r E:Env),mP ((k,v)::r) E=(lk E k=some v/\mP r E))/\(∀ (E:Env),mP [] E=True)/\(∀ (X:WX) (Q:aI) (E:Env) (D:List aM) (H:AHeap),aj X Q aE.normal E D H=X true Q E D H)/\(∀ (X:WX) (Q:aI) (E:Env) (D:List aM) (H:AHeap),aj X Q aE.ret E D H=Q aE.ret E D H)/\(∀ (X:WX) (Q:aI) (E:Env) (D:List aM) (H:AHeap) (l:Nat),aj X Q (aE.exit l) E D H=Q (aE.exit l) E D H)/\(∀ (X:WX) (Q:aI) (E:Env) (D:List aM) (H:AHeap) (l:Nat),aj X Q (aE.goto l) E D H=Q (aE.goto l) E D H)/\(∀ (X:WX) (Q:aI) (E:Env) (D:List aM) (H:AHeap) (c:aC),aj X Q (aE.panic c) E D H=Q (aE.panic c) E D H)/\(∀ (Q:aI) (E:Env) (D:List aM) (H:AHeap) (i:Nat),aF i Q aE.normal E D H=Q aE.normal E D H)/\(∀ (Q:aI) (E:Env) (D:List aM) (H:AHeap) (i:Nat),aF i Q aE.ret E D H=Q aE.ret E D H)/\(∀ (Q:aI) (E:Env) (D:List aM) (H:AHeap) (i l:Nat),aF i Q (aE.goto l) E D H=Q (aE.goto l) E D H)/\(∀ (Q:aI) (E:Env) (D:List aM) (H:AHeap) (i:Nat) (c:aC),aF i Q (aE.panic c) E D H=Q (aE.panic c) E D H)/\(∀ (Q:aI) (E:Env) (D:List aM) (H:AHeap) (i l:Nat),aF i Q (aE.exit l) E D H=if i=l then Q aE.normal E D H else Q (aE.exit l) E D H)/\(∀ (P:Env->List aM->AHeap->Prop) (Q:aI) (E:Env) (D:List aM) (H:AHeap),yE P Q aE.normal E D H=P E D H)/\(∀ (P:Env->List aM->AHeap->Prop) (Q:aI) (E:Env) (D:List aM) (H:AHeap),yE P Q aE.ret E D H=Q aE.ret E D H)/\(∀ (P:Env->List aM->AHeap->Prop) (Q:aI) (E:Env) (D:List aM) (H:AHeap) (l:Nat),yE P Q (aE.exit l) E D H=Q (aE.exit l) E D H)/\(∀ (X:WX) (Q:aI) (n:Nat) (E:Env) (D:List aM) (H:AHeap),LN X Q (n+1) E D H=X true (yE (LN X Q n) Q) E D H)/\(∀ (I:Nat->Env->AHeap->Prop) (D:List aM) (n:Nat) (Q:aI) (E:Env) (H:AHeap),rq I D n Q aE.normal E D H = ∃ m E',I m E' H/\mP E' E/\m<n)/\(∀ (I:Nat->Env->AHeap->Prop) (D D':List aM) (n:Nat) (Q:aI) (E:Env) (H:AHeap),rq I D n Q aE.ret E D' H=Q aE.ret E D' H)/\(∀ (I:Nat->Env->AHeap->Prop) (D D':List aM) (n:Nat) (Q:aI) (E:Env) (H:AHeap) (l:Nat),rq I D n Q (aE.exit l) E D' H=Q (aE.exit l) E D' H)/\(∀ (I:Nat->Env->AHeap->Prop) (D D':List aM) (n:Nat) (Q:aI) (E:Env) (H:AHeap) (l:Nat),rq I D n Q (aE.goto l) E D' H=Q (aE.goto l) E D' H)/\(∀ (I:Nat->Env->AHeap->Prop) (D D':List aM) (n:Nat) (Q:aI) (E:Env) (H:AHeap) (c:aC),rq I D n Q (aE.panic c) E D' H=Q (aE.panic c) E D' H)/\(∀ (E:Env) (H:AHeap) (M:aL) (rs:List cQ) (Q:br->AHeap->Prop),aK M rs Q aE.ret E [] H=dn E H rs λ l=>Q (br.ret (c7 l)) H)/\(∀ (E:Env) (H:AHeap) (M:aL) (rs:List cQ) (Q:br->AHeap->Prop),aK M rs Q aE.normal E [] H=dn E H rs λ l=>Q (br.ret (c7 l)) H)/\(∀ (E:Env) (H:AHeap) (M:aL) (rs:List cQ) (Q:br->AHeap->Prop) (c:aC),aK M rs Q (aE.panic c) E [] H=Q (br.panic c) H)/\(∀ (E:Env) (H:AHeap) (P:List AV->Prop),dn E H [] P=P [])/\(∀ (E:Env) (H:AHeap) (rs:List cQ) (P:List AV->Prop) (t:Nat),dn E H (cQ.tmp t::rs) P=LK true (lk E t) λ x v=>dn E H rs λ vs=>P (v::vs))/\(∀ (E:Env) (H:AHeap) (rs:List cQ) (P:List AV->Prop) (t:Nat),dn E H (cQ.gn t::rs) P=LK true (lk E t) λ x v=>B3 true (Op.aa [v] H) λ x v=>dn E H rs λ vs=>P (v::vs))/\(∀ (E:Env) (H:AHeap) (rs:List cQ) (P:List AV->Prop) (n t:Nat),dn E H (cQ.cz n t::rs) P=LK true (lk E t) λ x v=>B3 true (Op.ao n [v] H) λ x v=>dn E H rs λ vs=>P (v::vs))/\(∀ (H:AHeap) (R:AV->AHeap->Prop) (v:AV),kY R (br.ret v) H=R v H)/\(∀ (E:Env) (K:Bool->AV->Prop) (n:Nat),Lz E n K=LK true (lk E n) K)/\(∀ (E:Env) (K:Bool->AV->Prop) (n:Nat),Ly true E n K=LK true (lk E n) K)/\(∀ (H:AHeap) (K:Bool->AV->Prop) (i:Nat) (a:AV),Fl true i a H K=B3 true (Op.fieldAddr i [a]) λ g x=>B3 g (Op.aa [x] H) K)/\(∀ (H:AHeap) (K:Bool->AV->Prop) (i:Nat) (a:AV),Nf true i a H K=B3 true (Op.nilCheck [a]) λ g x=>Fl g i x H K)/\(∀ (H:AHeap) (K2:Bool->AV->AHeap->Prop) (i:Nat) (a b:AV),Fs true i a b H K2=B3 true (Op.fieldAddr i [a]) λ g x=>aY g (Op.store 1 [x,b] H) K2)/\(∀ (H:AHeap) (K2:Bool->AV->AHeap->Prop) (i:Nat) (a b:AV),Ns true i a b H K2=B3 true (Op.nilCheck [a]) λ g x=>Fs g i x b H K2)/\(∀ (H:AHeap) (K:Bool->AV->Prop) (a b:AV),Xl true a b H K=B3 true (Op.aP 1 [a,b]) λ g x=>B3 g (Op.aa [x] H) K)/\(∀ (H:AHeap) (K2:Bool->AV->AHeap->Prop) (a b c:AV),Xs true a b c H K2=B3 true (Op.aP 1 [a,b]) λ g x=>aY g (Op.store 1 [x,c] H) K2)/\(∀ (K:Bool->AV->Prop) (o:BinOp) (a b:AV),Bn true o a b K=B3 true (Op.bin o [a,b]) K)/\(∀ (A B:Bool->Prop) (o:BinOp) (a b:AV),Cb true o a b A B=B3 true (Op.bin o [a,b]) λ g v=>bo g v A B)/\(∀ (E:Env) (H:AHeap) (M:aL) (c:Ctx) (p:Kp × ah) (Q:aI) (D:List aM),Gt true M c p Q E D H=aw true (aj (W M c p) Q) aE.normal E D H)/\c7 []=AV.tuple []/\(∀ (v:AV),c7 [v]=v) /\ ∀ (a b:AV) (l:List AV),c7 (a::b::l)=AV.tuple (a::b::l) :=
 And.intro @xF<|And.intro @As<|And.intro @vD<|And.intro tn<|And.intro q7p<|And.intro uD<|And.intro q7q<|And.intro Jd<|And.intro GR<|And.intro @qi<|And.intro sY <|
 And.intro xY<|And.intro si<|And.intro tW<|And.intro oX<|And.intro vF<|And.intro tS<|And.intro zE <|
 And.intro q28<|And.intro sr<|And.intro q7w<|And.intro q7x<|And.intro q57<|And.intro q24<|And.intro ux<|And.intro q7k<|And.intro q5w<|And.intro q7j <|
 And.intro q53<|And.intro yL<|And.intro tZ<|And.intro AD<|And.intro q54<|And.intro xR<|And.intro tA<|And.intro tU<|And.intro q7s<|And.intro tC<|And.intro q27<|And.intro q52<|And.intro rK<|And.intro sA<|And.intro q55<|And.intro q56 <|
 And.intro Ad<|And.intro Oc<|And.intro Ln<|And.intro KM<|And.intro MT<|And.intro Lx<|And.intro NK<|And.intro NR<|And.intro Ld<|And.intro Kk<|And.intro Kt<|And.intro Kl<|And.intro Nh<|And.intro NQ Ng
theorem Ho:(∀ (v:AV),Op.move [v]=some v)/\(∀ (q:Bool) (a b:AV),Op.pick [AV.bool q,a,b]=some (bif q then a else b))/\(∀ (k:IntKind) (a b:Int),Op.bin BinOp.add [AV.int k a,AV.int k b]=some (AV.int k (aW k (a+b))))/\(∀ (k:IntKind) (a b:Int),Op.bin BinOp.sub [AV.int k a,AV.int k b]=some (AV.int k (aW k (a-b))))/\(∀ (k:IntKind) (a b:Int),Op.bin BinOp.mul [AV.int k a,AV.int k b]=some (AV.int k (aW k (a*b))))/\(∀ (k:IntKind) (a b:Int),Op.bin BinOp.eql [AV.int k a,AV.int k b]=some (AV.bool (decide (a=b))))/\(∀ (k:IntKind) (a b:Int),Op.bin BinOp.neq [AV.int k a,AV.int k b]=some (AV.bool (decide (a ≠ b))))/\(∀ (k:IntKind) (a b:Int),Op.bin BinOp.lss [AV.int k a,AV.int k b]=some (AV.bool (decide (a<b))))/\(∀ (k:IntKind) (a b:Int),Op.bin BinOp.leq [AV.int k a,AV.int k b]=some (AV.bool (decide (a<=b))))/\(∀ (k:IntKind) (a b:Int),Op.bin BinOp.gtr [AV.int k a,AV.int k b]=some (AV.bool (decide (b<a))))/\(∀ (k:IntKind) (a b:Int),Op.bin BinOp.geq [AV.int k a,AV.int k b]=some (AV.bool (decide (b<=a))))/\(∀ (k:IntKind) (a:Int) (k':IntKind),Op.wrap k [AV.int k' a]=some (AV.int k (aW k a)))/\(∀ (q:Bool),Op.un UnOp.not [AV.bool q]=some (AV.bool !q))/\(∀ (a b:List UInt8),Op.bin BinOp.eql [AV.str a,AV.str b]=some (AV.bool (decide (a=b))))/\(∀ (a b:List UInt8),Op.bin BinOp.neq [AV.str a,AV.str b]=some (AV.bool (decide (a ≠ b))))/\(∀ (s:List UInt8),Op.oi [AV.str s]=some (AV.int IntKind.i64 ↑s.length))/\(∀ (f n:Nat) (l:List AV),Op.bZ f n l=some (AV.fn (ff.func f) (List.take n l) (List.drop n l)))/\(∀ (t:Nat) (v:AV),Op.pE t [v]=some (AV.iface t v))/\(∀ (off b o:Nat),Op.fieldAddr off [AV.ptr b o]=some (AV.ptr b (o+off)))/\(∀ (off:Nat) (l:List AV),Op.field off none [AV.agg l]=l[off]?)/\(∀ (q:Bool),aB true (some (AV.bool q))=some q)/\(∀ (q:Bool),aB false (some (AV.bool q))=some !q)/\(∀ (b:Bool),aB b (some AV.undef)=some false)/\(∀ (b:Nat),Op.ptrTo b=AV.ptr b 0)/\(∀ (l:List AV),(AV.agg l).cells=l)/\(∀ (k:IntKind) (n:Int),(AV.int k n).cells=[AV.int k n])/\(∀ (b:Bool),(AV.bool b).cells=[AV.bool b])/\(∀ (s:List UInt8),(AV.str s).cells=[AV.str s])/\(∀ (b o:Nat),(AV.ptr b o).cells=[AV.ptr b o])/\(∀ (h:Decidable True),decide True=true)/\(∀ (h:Decidable False),decide False=false)/\(!true)=false/\(!false)=true/\(¬True)=False/\(¬False)=True/\(∀ {α:Type} (a b:α),(a ≠ b) = ¬a=b)/\(∀ (p:Prop),(True/\p)=p)/\(∀ (p:Prop),(p/\True)=p)/\(∀ (p:Prop),(False/\p)=False)/\(∀ (p:Prop),(p/\False)=False)/\(∀ {α:Type} (a b:α),(bif true then a else b)=a)/\(∀ {α:Type} (a b:α),(bif false then a else b)=b)/\(∀ {α:Type} {β:Type} (a:α) (f:α->Option β),(some a).bind f=f a)/\(∀ (n:Nat),n+0=n)/\(∀ (n:Nat),0+n=n)/\(∀ {α:Type} {a:α} {l:List α},(a::l)[0]? = some a)/\(∀ {α:Type} {a:α} {i:Nat} {l:List α},(a::l)[i+1]? = l[i]?)/\(∀ {α:Type} (as:List α),[]++as=as) /\ ∀ {α:Type} {a:α} {as bs:List α},a::as++bs=a::(as++bs) :=
 And.intro EA<|And.intro B0<|And.intro @Is<|And.intro @Gu<|And.intro @Gz<|And.intro @Ig<|And.intro @Hw<|And.intro @HB<|And.intro @HC<|And.intro @Ht<|And.intro @Hl<|And.intro @Ce<|And.intro HY <|
 And.intro Cl<|And.intro Db<|And.intro rH<|And.intro rM<|And.intro q9i<|And.intro q33<|And.intro ub<|And.intro CM<|And.intro zK<|And.intro Ai<|And.intro HF <|
 And.intro x9<|And.intro q8c<|And.intro q6i<|And.intro q8e<|And.intro q8d<|And.intro @decide_true<|And.intro @decide_false<|And.intro Bool.not_true<|And.intro Bool.not_false<|And.intro not_true_eq_false<|And.intro not_false_eq_true<|And.intro @ne_eq<|And.intro qS<|And.intro mz<|And.intro false_and<|And.intro and_false <|
 And.intro @xk<|And.intro @zk<|And.intro @qn<|And.intro qf<|And.intro yd<|And.intro @jl<|And.intro @zx<|And.intro @je @CL
theorem xd:type_of% Bi/\type_of% GO/\type_of% Ho:=⟨Bi,GO,Ho⟩
section
variable {α:Type} {enc:α->List AV} {e size:Nat} {H0 H H':AHeap} {v:AV} {xs:List α}
theorem mK.to3 {α β:Type} {m g:Bool} {o:Option (α × β)} {K:Bool -> α -> β->Prop} (h:mK m o λ _ a b=>K g a b):aY g o K:=by
 cases o with
 | none=>exact False.elim h
 | some a=>exact h
theorem ti {H:AHeap} {e size bytes:Nat} {v:AV} {n:Nat} {cells:List AV} (h:Own H e size v n cells) {x:AV} {k:Nat} {new:List AV} (hx:Sl H size x k new) (hnew:aX new=true) (hs:0<size)
 (hf:(n+k)*bytes<=140737488355328) (hf':n+k<=140737488355328) {K:Bool->AV->AHeap->Prop} {m:Bool}
 (hk:∀ v' H',Own H' e size v' (n+k) (cells++new)->Fr (bC v) H H'->(∀ b,bC v' b->bC v b\/H.next<=b)->K m v' H'):aY m (Op.append e size bytes [v,x] H) K :=
 mK.to3 (m:=m) (qya h hx hnew hs hf hf' hk)
theorem iH {H:AHeap} {e size bytes:Nat} {v:AV} {n:Nat} {cells:List AV} (h:Own H e size v n cells) {zero:List AV} {x:AV} (hz:zero.length=size) (hx:x.cells.length=size) (hnew:aX x.cells=true) (hs:0<size)
 (hf:(n+1)*bytes<=140737488355328) (hf':n+1<=140737488355328) {K:bK->(Nat->AV)->Bool->AV->AHeap->Prop} {m:Bool}
 (hk:∀ v' H',Own H' e size v' (n+1) (cells++x.cells)->Fr (bC v) H H'->(∀ b,bC v' b->bC v b\/H.next<=b)->K (.row x.cells e (0,0) true) (Op.sliceTo 1 1) m v' H') :
 aY m (Op.buildSlice e 1 zero [(0,size)] [x]) λ g o mk=>aY g (Op.append e size bytes [v,mk H.next] (H.alloc o)) (K o mk):=by
 have:=Ar (m:=m) h hz hx hnew hs hf hf' (K:=λ o mk _ v H=>K o mk m v H) hk;obtain ⟨o,mk,h1,h2⟩:∃ o mk,Op.buildSlice e 1 zero [(0,size)] [x]=some (o,mk)/\mK true (Op.append e size bytes [v,mk H.next] (H.alloc o)) (λ _ v H=>K o mk m v H):=by
  unfold mK at this;split at this
  ·rename_i a ha;exact ⟨a.1,a.2,ha,this⟩
  ·exact this.elim
 refine aY.intro h1 ?_;unfold mK at h2;split at h2
 ·rename_i a ha;exact aY.intro (a:=a.1) (b:=a.2) ha h2
 ·exact h2.elim
end
end
end Go.Am
namespace Go.Am
abbrev OR (c:List AV) (e:Nat):bK:=.row c e (0,0) true
theorem qg (b o:Nat):Op.nilCheck [.ptr b o]=some (.ptr b o):=rfl
theorem qr (i:Nat) (l:List AV):Op.extract i [.tuple l]=l[i]?:=q9h i l
abbrev WE (M:aL) (c:Ctx) (p:Kp × ah) (R:aI->Env->List aM->AHeap->Prop):Prop:=∀ Q E D H,W M c p true Q E D H=R Q E D H
end Go.Am
