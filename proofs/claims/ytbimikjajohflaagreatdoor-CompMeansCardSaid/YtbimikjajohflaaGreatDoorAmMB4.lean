/- B4: Logic Logic2 Val Sim Val2 Val3 Iter Logic3 Logic4 Mono3 Sim3 Mem3. -/
import Derived.Test.YtbimikjajohflaaGreatDoorAmMB2
import Derived.Test.YtbimikjajohflaaGreatDoorAmMB1
set_option linter.unusedVariables false
set_option linter.unusedSimpArgs false
namespace Go.Am
def ai:Bool:=true
theorem GF:ai=true:=rfl
def bJ {α:Type} (m:Bool) (o:Option α) (K:α->Prop):Prop:=match o with
 | some a=>K a
 | none=>False
def fq {α β:Type} (m:Bool) (o:Option (α × β)) (K:α -> β->Prop):Prop:=match o with
 | some a=>K a.1 a.2
 | none=>False
def vI (m:Bool) (q:Bool) (A B:Prop):Prop:=match q with
 | true=>A
 | false=>B
@[congr] theorem Du {α:Type} {m m':Bool} {o o':Option α} {K:α->Prop} (hm:m=m') (h:o=o'):bJ m o K=bJ m' o' K:=by rw [h,hm]
@[congr] theorem Cj {α β:Type} {m m':Bool} {o o':Option (α × β)} {K:α -> β->Prop} (hm:m=m') (h:o=o'):fq m o K=fq m' o' K:=by rw [h,hm]
@[congr] theorem Gs {m m' q q':Bool} {A B:Prop} (hm:m=m') (h:q=q'):vI m q A B=vI m' q' A B:=by rw [h,hm]
theorem bJ.elim {α:Type} {m:Bool} {o:Option α} {K:α->Prop} (h:bJ m o K):∃ a,o=some a/\K a:=by
 cases o with
 | none=>exact False.elim h
 | some a=>exact ⟨a,rfl,h⟩
theorem fq.elim {α β:Type} {m:Bool} {o:Option (α × β)} {K:α -> β->Prop} (h:fq m o K):∃ a b,o=some (a,b)/\K a b:=by
 cases o with
 | none=>exact False.elim h
 | some a=>exact ⟨a.1,a.2,rfl,h⟩
theorem bJ.intro {α:Type} {m:Bool} {o:Option α} {K:α->Prop} {a:α} (h:o=some a) (hk:K a):bJ m o K:=by subst h;exact hk
theorem fq.intro {α β:Type} {m:Bool} {o:Option (α × β)} {K:α -> β->Prop} {a:α} {b:β} (h:o=some (a,b)) (hk:K a b):fq m o K:=by subst h;exact hk
theorem vI.dec {m:Bool} {p:Prop} [Decidable p] {A B:Prop} (h1:p->A) (h2:¬ p->B):vI m (decide p) A B:=by
 by_cases h:p
 ·rw [jd h];exact h1 h
 ·rw [jf h];exact h2 h
theorem vI.cases {m:Bool} {q:Bool} {A B:Prop} (h1:q=true->A) (h2:q=false->B):vI m q A B:=by
 cases q with
 | true=>exact h1 rfl
 | false=>exact h2 rfl
def asBool:AV->Option Bool
 | .bool q=>some q
 | _=>none
theorem Hp (q:Bool):asBool (.bool q)=some q:=rfl
noncomputable section
structure aO where
 prog:gm
 told:bU
 mute:Nat->Bool
 ok:∀ f vs up H,mute f=false->told f vs up H=none
def aO.call (M:aO) (n:Nat):bU:=gv M.prog M.told n
def aO.func (M:aO) (f:Nat):Option aq:=cond (M.mute f) none (M.prog.func f)
def aO.mC (M:aO):Nat->String->Option Nat:=M.prog.mC
theorem aO.pQ {M:aO} {f:Nat} {fn:aq} (h:M.func f=some fn):M.mute f=false/\M.prog.func f=some fn:=by
 unfold aO.func at h;cases hm:M.mute f with
 | true=>rw [hm] at h;cases h
 | false=>rw [hm] at h;exact ⟨rfl,h⟩
theorem aO.rF {M:aO} {f:Nat} (h:M.mute f=false) (n:Nat) (vs:List AV) (up:Option ah) (H:AHeap):M.call (n+1) f vs up H=zZ M.prog (M.call n) n f vs up H:=by
 show (match M.told f vs up H with|some r=>some r|none=>zZ M.prog (gv M.prog M.told n) n f vs up H)=_;rw [M.ok f vs up H h];rfl
variable (AP:aO)
def qM (n k:Nat) (ctx:Ctx):RT:=⟨AP.prog,AP.call n,rounds AP.prog (AP.call n) n k,n,ctx⟩
def iU (f:Nat) (vs:List AV) (up:Option ah) (H:AHeap) (e:bE) (up':Option ah) (H':AHeap):Prop:=∃ n0,∀ n,n0<=n->AP.call n f vs up H=some (e,up',H')
def CALL (f:Nat) (vs:List AV) (H:AHeap) (e:bE) (H':AHeap):Prop:=iU AP f vs none H e none H'
def jN (l:Nat) (vs:List AV) (H:AHeap) (e:bE) (H':AHeap):Prop:=∃ n0,∀ n k,n0<=n->n0<=k->rounds AP.prog (AP.call n) n k vs l H=some (e,H')
def oq:fC->List AV->AHeap->bE->AHeap->Prop
 | .func g=>CALL AP g
 | .yield l=>jN AP l
def iB (m:Bool) (f:fC) (vs:List AV) (H:AHeap) (K:AV->AHeap->Prop) (E:ah->AHeap->Prop):Prop :=
 ∃ e H',oq AP f vs H e H'/\match e with
  | .ret v=>K v H'
  | .panic c=>E c H'
@[congr] theorem BU {AP:aO} {m m':Bool} {f:fC} {vs vs':List AV} {H:AHeap} {K:AV->AHeap->Prop} {E:ah->AHeap->Prop} (hm:m=m') (h:vs=vs'):iB AP m f vs H K E=iB AP m' f vs' H K E:=by rw [h,hm]
def CL (m:Bool) (vs:List AV) (K:fC->List AV->Prop):Prop:=match vs with
 | .fn (.func g) first cap::args=>K (.func g) (first++(args++cap))
 | .fn (.yield l) first []::args=>K (.yield l) (first++args)
 | _=>False
@[congr] theorem F1 {m m':Bool} {vs vs':List AV} {K:fC->List AV->Prop} (hm:m=m') (h:vs=vs'):CL m vs K=CL m' vs' K:=by rw [h,hm]
def EI (m:Bool) (name:String) (vs:List AV) (K:fC->List AV->Prop):Prop:=match vs with
 | .iface t v::args=>bJ ai (AP.mC t name) λ g=>K (.func g) (v::args)
 | _=>False
@[congr] theorem Ft {AP:aO} {m m':Bool} {name:String} {vs vs':List AV} {K:fC->List AV->Prop} (hm:m=m') (h:vs=vs'):EI AP m name vs K=EI AP m' name vs' K:=by rw [h,hm]
def jR (tm:T AV):List bP->(List AV->Prop)->Prop
 | [],K=>K []
 | .tmp t::xs,K=>bJ ai (tm.get t) λ v=>jR tm xs λ vs=>K (v::vs)
 | .const v::xs,K=>jR tm xs λ vs=>K (v::vs)
 | .dx g::xs,K=>jR tm xs λ vs=>K (.ptr g 0::vs)
 | .func f::xs,K=>jR tm xs λ vs=>K (.fn (.func f) [] []::vs)
theorem jR.elim {tm:T AV}:∀ {l:List bP} {K:List AV->Prop},jR tm l K -> ∃ vs,iv tm l=some vs/\K vs
 | [],K,h=>⟨[],rfl,h⟩
 | .tmp t::xs,K,h=>by
  obtain ⟨v,hv,h⟩:=bJ.elim (m:=ai) h;obtain ⟨vs,h1,h2⟩:=jR.elim h;exact ⟨v::vs,by simp [iv,mj,hv,h1],h2⟩
 | .const v::xs,K,h=>by
  obtain ⟨vs,h1,h2⟩:=jR.elim (l:=xs) h;exact ⟨v::vs,by simp [iv,mj,h1],h2⟩
 | .dx v::xs,K,h=>by
  obtain ⟨vs,h1,h2⟩:=jR.elim (l:=xs) h;exact ⟨_,by simp [iv,mj,h1],h2⟩
 | .func v::xs,K,h=>by
  obtain ⟨vs,h1,h2⟩:=jR.elim (l:=xs) h;exact ⟨_,by simp [iv,mj,h1],h2⟩
def si (tm:T AV) (x:bP) (K:AV->Prop):Prop:=match x with
 | .tmp t=>bJ ai (tm.get t) K
 | .const v=>K v
 | .dx g=>K (.ptr g 0)
 | .func f=>K (.fn (.func f) [] [])
theorem si.elim {tm:T AV} {x:bP} {K:AV->Prop} (h:si tm x K):∃ v,mj tm x=some v/\K v:=by
 cases x with
 | tmp t=>exact bJ.elim (m:=ai) h
 | const v=>exact ⟨v,rfl,h⟩
 | dx v=>exact ⟨_,rfl,h⟩
 | func v=>exact ⟨_,rfl,h⟩
abbrev aX:=aF->St->Prop
def oL (ps:Option (List Nat)) (tm:T AV) (az:List aC) (up:Option ah) (Q:aX) (c:ah) (H:AHeap):Prop:=match ps with
 | some ds=>Q (.panic c) ⟨forget ds tm,az,up,H⟩
 | none=>False
def gV (m:Bool) (ctx:Ctx) (up:Option ah) (K:AV->Option ah->Prop):Prop:=ctx.round=none/\match up with
 | some ((v,false)::older)=>K v (some ((v,true)::older))
 | _=>K .nili up
@[congr] theorem Bs {m m':Bool} {ctx:Ctx} {up up':Option ah} {K:AV->Option ah->Prop} (hm:m=m') (h:up=up'):gV m ctx up K=gV m' ctx up' K:=by rw [h,hm]
theorem q97 (m:Bool) (f:Nat) (K:AV->Option ah->Prop):gV m ⟨none,f⟩ none K=K .nili none:=by simp [gV]
theorem xcq (m:Bool) (f:Nat) (K:AV->Option ah->Prop):gV m ⟨none,f⟩ (some []) K=K .nili (some []):=by simp [gV]
theorem q96 (m:Bool) (f:Nat) (v:AV) (older:ah) (K:AV->Option ah->Prop):gV m ⟨none,f⟩ (some ((v,false)::older)) K=K v (some ((v,true)::older)):=by simp [gV]
def pI (m:Bool) (ctx:Ctx) (vs:List AV) (az:List aC) (K:List aC->Prop):Prop:=ctx.round=none/\match vs with
 | .fn (.func f) first cap::args=>K (.fn (.func f) (first++(args++cap))::az)
 | _=>False
@[congr] theorem Ej {m m':Bool} {ctx:Ctx} {vs vs':List AV} {az:List aC} {K:List aC->Prop} (hm:m=m') (h:vs=vs'):pI m ctx vs az K=pI m' ctx vs' az K:=by rw [h,hm]
theorem yX (m:Bool) (g f:Nat) (first cap args:List AV) (az:List aC) (K:List aC->Prop):pI m ⟨none,g⟩ (.fn (.func f) first cap::args) az K=K (.fn (.func f) (first++(args++cap))::az):=by simp [pI]
def dc (vs:List AV) (H:AHeap) (E:ah->AHeap->Prop):Prop:=match vs with
 | [.iface t v]=>E [(.iface t v,false)] H
 | _=>False
@[congr] theorem zK {vs vs':List AV} {H:AHeap} {E:ah->AHeap->Prop} (h:vs=vs'):dc vs H E=dc vs' H E:=by rw [h]
theorem Kz (t:Nat) (v:AV) (H:AHeap) (E:ah->AHeap->Prop):dc [.iface t v] H E=E [(.iface t v,false)] H:=propext zg
def iq (ctx:Ctx) (dst:Option Nat) (ps:Option (List Nat)) (st:St) (Q:aX) (K:St->Prop) (vs:List AV):dS->Prop
 | .pure f=>bJ ai (f vs) λ v=>K ⟨dr dst v st.tm,st.az,st.up,st.H⟩
 | .read f=>bJ ai (f vs st.H) λ v=>K ⟨dr dst v st.tm,st.az,st.up,st.H⟩
 | .alloc f=>fq ai (f vs) λ o mk=>K ⟨dr dst (mk st.H.next) st.tm,st.az,st.up,st.H.alloc o⟩
 | .bQ f=>fq ai (f vs st.H) λ v H=>K ⟨dr dst v st.tm,st.az,st.up,H⟩
 | .eM g=>iB AP ai (.func g) vs st.H (λ v H=>K ⟨dr dst v st.tm,st.az,st.up,H⟩) (oL ps st.tm st.az st.up Q)
 | .ec=>CL ai vs λ f vs=>iB AP ai f vs st.H (λ v H=>K ⟨dr dst v st.tm,st.az,st.up,H⟩) (oL ps st.tm st.az st.up Q)
 | .invoke name=>EI AP ai name vs λ f vs=>iB AP ai f vs st.H (λ v H=>K ⟨dr dst v st.tm,st.az,st.up,H⟩) (oL ps st.tm st.az st.up Q)
 | .recover=>match vs with
  | []=>gV ai ctx st.up λ v up=>K ⟨dr dst v st.tm,st.az,up,st.H⟩
  | _=>False
 | .defer=>pI ai ctx vs st.az λ az=>K ⟨dr dst .undef st.tm,az,st.up,st.H⟩
 | .panic=>dc vs st.H (oL ps st.tm st.az st.up Q)
def D8 (dst:Option Nat) (st:St) (vs:List AV):dS->Prop
 | .read f=>match dst with
  | some d=>bJ ai (f vs st.H) λ v=>bJ ai (st.tm.get d) λ v'=>v=v'
  | none=>False
 | _=>False
def mF (ctx:Ctx) (s:aQ) (st:St) (Q:aX) (K:St->Prop):Prop :=
 match s.eY with
 | false=>match s.guard with
  | none=>jR st.tm s.args λ vs=>iq AP ctx s.dst s.cj st Q K vs s.op
  | some g=>bJ ai (aE g.2 (st.tm.get g.1)) λ w=>vI ai w (jR st.tm s.args λ vs=>iq AP ctx s.dst s.cj st Q K vs s.op) (K ⟨dr s.dst .undef st.tm,st.az,st.up,st.H⟩)
 | true=>match s.guard with
  | none=>jR st.tm s.args λ vs=>D8 s.dst st vs s.op/\K st
  | some g=>bJ ai (aE g.2 (st.tm.get g.1)) λ w=>vI ai w (jR st.tm s.args λ vs=>D8 s.dst st vs s.op/\K st) (s.dst.isSome=true/\K st)
def lH (ctx:Ctx):List aQ->St->aX->Prop
 | [],st,Q=>Q .normal st
 | s::rest,st,Q=>mF AP ctx s st Q λ st'=>lH ctx rest st' Q
def nR (W:St->aX->Prop) (Q:aX):aX:=λ e st=>match e with
 | .normal=>W st Q
 | e=>Q e st
def yZ (id:Nat) (Q:aX):aX:=λ e st=>match e with
 | .exit id'=>Q (cond (Nat.beq id id') .normal (.exit id')) st
 | e=>Q e st
def SCP (b:ab) (Q:aX):aX:=λ e st=>match e with
 | .goto l=>xW b l=false/\Q (.goto l) st
 | e=>Q e st
def gg (aj:Option (List Nat)) (st:St):St:=match aj with
 | none=>st
 | some ks=>{ st with tm:=N1 st.tm ks .nil }
def Fe (W:St->aX->Prop) (aj:Option (List Nat)) (st:St) (Q:aX):Prop :=
 ∃ I:Nat->St->Prop,(∃ n,I n st) /\ ∀ n st,I n st->W (gg aj st) λ e st'=>match e with
  | .normal=>∃ m,m<n/\I m st'
  | e=>Q e st'
def Nv (st:St) (az:List aC) (l:Nat) (Q:aX) (e:bE) (H:AHeap):Prop:=match e with
 | .panic c=>Q (.panic c) { st with az:=az,H:=H }
 | .ret _=>∃ s p f k tm d,H.get l=some (.loop s p f k tm d)/\s ≠ .busy/\Q (nB p) { st with az:=az,H:=H.set l (.loop .exhausted p f k tm d) }
def iC (ctx:Ctx) (st:St) (k:Nat) (H0:AHeap) (az:List aC) (d:Nat) (Q:aX):AV->Prop
 | .fn (.func g) first cap=>∃ e H',CALL AP g (first++(.fn (.yield H0.next) [] []::cap)) (H0.alloc (.loop .ready none ctx.fn k st.tm d)) e H'/\Nv st az H0.next Q e H'
 | _=>False
def ET (ctx:Ctx) (k:Nat) (st:St) (Q:aX) (v:AV):Prop:=match ctx.round with
 | none=>iC AP ctx st k (st.H.alloc (.deferred (some []))) (.ic st.H.next::st.az) st.H.next Q v
 | some l=>bJ ai (tg st.H l) λ d=>iC AP ctx st k st.H st.az d Q v
def WP (ctx:Ctx):ab->St->aX->Prop
 | .skip,st,Q=>Q .normal st
 | .label _,st,Q=>Q .normal st
 | .region steps,st,Q=>lH AP ctx steps st Q
 | .seq a b,st,Q=>WP ctx a st (nR (WP ctx b) Q)
 | .cond c a b,st,Q=>si st.tm c λ v=>bJ ai (asBool v) λ q=>vI ai q (WP ctx a st Q) (WP ctx b st Q)
 | .block id b,st,Q=>WP ctx b st (yZ id Q)
 | .loop aj b,st,Q=>Fe (WP ctx b) aj st Q
 | .exit id,st,Q=>Q (.exit id) st
 | .goto l,st,Q=>Q (.goto l) st
 | .ret,st,Q=>Q .ret st
 | .stuck,_,_=>False
 | .scope b,st,Q=>WP ctx b st (SCP b Q)
 | .rangeFunc f k,st,Q=>si st.tm f λ v=>ET AP ctx k st Q v
section
variable (ctx:Ctx) (st:St) (Q:aX)
theorem Gx:WP AP ctx .skip st Q=Q .normal st:=propext zg
theorem Gn (l:Nat):WP AP ctx (.exit l) st Q=Q (.exit l) st:=propext zg
theorem Hq (l:Nat):WP AP ctx (.goto l) st Q=Q (.goto l) st:=propext zg
theorem FO:WP AP ctx .ret st Q=Q .ret st:=propext zg
theorem Ak (c:bP) (a b:ab):WP AP ctx (.cond c a b) st Q=si st.tm c λ v=>bJ ai (asBool v) λ q=>vI ai q (WP AP ctx a st Q) (WP AP ctx b st Q):=propext zg
theorem vO (id:Nat) (b:ab):WP AP ctx (.block id b) st Q=WP AP ctx b st (yZ id Q):=propext zg
theorem Li (s:aQ) (l:List aQ):lH AP ctx (s::l) st Q=mF AP ctx s st Q λ st'=>lH AP ctx l st' Q:=propext zg
theorem Hv (W:St->aX->Prop):nR W Q .normal st=W st Q:=propext zg
theorem Hf (W:St->aX->Prop):nR W Q .ret st=Q .ret st:=propext zg
theorem Hm (W:St->aX->Prop) (l:Nat):nR W Q (.exit l) st=Q (.exit l) st:=propext zg
theorem FV (W:St->aX->Prop) (l:Nat):nR W Q (.goto l) st=Q (.goto l) st:=propext zg
theorem G8 (W:St->aX->Prop) (c:ah):nR W Q (.panic c) st=Q (.panic c) st:=propext zg
theorem Gr (id:Nat):yZ id Q .normal st=Q .normal st:=propext zg
theorem Gb (id:Nat):yZ id Q .ret st=Q .ret st:=propext zg
theorem vJ (id l:Nat):yZ id Q (.exit l) st=Q (cond (Nat.beq id l) .normal (.exit l)) st:=propext zg
theorem Fx (id l:Nat):yZ id Q (.goto l) st=Q (.goto l) st:=propext zg
theorem Gj (id:Nat) (c:ah):yZ id Q (.panic c) st=Q (.panic c) st:=propext zg
end
def EX (ctx:Ctx) (c:ab) (st:St) (r:aF × St):Prop:=∃ n0,∀ n k,n0<=n->n0<=k->(bH c).run (qM AP n k ctx) st=some r
def EXS (ctx:Ctx) (l:List aQ) (st:St) (r:aF × St):Prop:=∃ n0,∀ n k,n0<=n->n0<=k->(eP l).run (qM AP n k ctx) st=some r
theorem oq.run {AP:aO} {f:fC} {vs:List AV} {H:AHeap} {e:bE} {H':AHeap} (h:oq AP f vs H e H') :
 ∃ n0,∀ n k,n0<=n->n0<=k->cD (AP.call n) (rounds AP.prog (AP.call n) n k) f vs H=some (e,H'):=by
 cases f with
 | func g=>obtain ⟨n0,h⟩:=h;exact ⟨n0,λ n k hn _=>by simp [cD,h n hn]⟩
 | yield l=>obtain ⟨n0,h⟩:=h;exact ⟨n0,λ n k hn hk=>by simp [cD,h n k hn hk]⟩
theorem q0p:(∀ v,b9 v v=true)/\(∀ l,dv l l=true):=by
 have e1:∀ n,Nat.beq n n=true:=λ n=>by simp
 have e2:∀ k,pE k k=true:=λ k=>by cases k<;>rfl
 have e3:∀ i,nJ i i=true:=λ i=>by rw [rH];simp
 have e4:∀ s,sx s s=true:=λ s=>by rw [Di];simp
 refine ⟨λ v=>?_,λ l=>?_⟩
 ·refine AV.rec (motive_1:=λ v=>b9 v v=true) (motive_2:=λ l=>dv l l=true) ?_ ?_ ?_ ?_ ?_ ?_ ?_ ?_ ?_ ?_ ?_ ?_ ?_ ?_ ?_ ?_ ?_ ?_ ?_ v
  all_goals (intros;first|rfl|(simp only [b9,dv,e1,e2,e3,e4,kp,beq_self_eq_true, *];done) | (rename_i f _ _ _ _;cases f<;>simp only [b9,dv,e1,kp, *]))
 ·refine AV.rec_1 (motive_1:=λ v=>b9 v v=true) (motive_2:=λ l=>dv l l=true) ?_ ?_ ?_ ?_ ?_ ?_ ?_ ?_ ?_ ?_ ?_ ?_ ?_ ?_ ?_ ?_ ?_ ?_ ?_ l
  all_goals (intros;first|rfl|(simp only [b9,dv,e1,e2,e3,e4,kp,beq_self_eq_true, *];done) | (rename_i f _ _ _ _;cases f<;>simp only [b9,dv,e1,kp, *]))
theorem xb0 (v:AV):b9 v v=true:=q0p.1 v
theorem D8.run {d:Option Nat} {st:St} {vs:List AV} {op:dS} (h:D8 d st vs op):∃ t,d=some t/\lI (T.jK (T.path t)).run st vs op=true:=by
 cases op with
 | read f =>
  cases d with
  | none=>exact False.elim h
  | some t =>
   refine ⟨t,rfl,?_⟩;obtain ⟨v,h1,h⟩:=bJ.elim (m:=ai) h;obtain ⟨v',h2,h⟩:=bJ.elim (m:=ai) h;subst h;have h2':(T.jK (T.path t)).run st.tm=some v:=by rw [T.fZ];exact h2
   simp [lI,h1,h2',xb0]
 | _=>exact False.elim h
theorem iq.run {AP:aO} {ctx:Ctx} {dst:Option Nat} {ps:Option (List Nat)} {st:St} {Q:aX} {K:St->Prop} {vs:List AV} {op:dS} (h:iq AP ctx dst ps st Q K vs op)
 {kk:Nat->Nat->St->eC} (hK:∀ st,K st -> ∃ e st',Q e st' /\ ∃ n0,∀ n k,n0<=n->n0<=k->kk n k st=some (e,st')) :
 ∃ e st',Q e st' /\ ∃ n0,∀ n k,n0<=n->n0<=k->(lE (il dst).run ps op).run (qM AP n k ctx) st (kk n k) vs=some (e,st'):=by
 have hp:∀ v tm,(il dst).run v tm=dr dst v tm:=P9 dst;have call:∀ {f vs},iB AP ai f vs st.H (λ v H=>K ⟨dr dst v st.tm,st.az,st.up,H⟩) (oL ps st.tm st.az st.up Q) ->
  ∃ e st',Q e st' /\ ∃ n0,∀ n k,n0<=n->n0<=k->((cD (AP.call n) (rounds AP.prog (AP.call n) n k) f vs st.H).bind λ r=>dV (il dst).run ps st (kk n k) r)=some (e,st'):=by
  rintro f vs ⟨e,H',h1,h⟩;obtain ⟨n0,h1⟩:=h1.run;cases e with
  | ret v =>
   obtain ⟨e,st',hq,n1,h2⟩:=hK _ h;refine ⟨e,st',hq,max n0 n1,λ n k hn hk=>?_⟩;rw [h1 n k (by omega) (by omega)]
   simpa [dV,hp] using h2 n k (by omega) (by omega)
  | panic c =>
   cases ps with
   | none=>exact False.elim h
   | some ds =>
    refine ⟨_,_,h,n0,λ n k hn hk=>?_⟩;rw [h1 n k (by omega) (by omega)];simp [dV]
 cases op with
 | pure f =>
  obtain ⟨v,h1,h⟩:=bJ.elim (m:=ai) h;obtain ⟨e,st',hq,n1,h2⟩:=hK _ h;exact ⟨e,st',hq,n1,λ n k hn hk=>by simp [lE,uw,h1,hp,h2 n k hn hk]⟩
 | read f =>
  obtain ⟨v,h1,h⟩:=bJ.elim (m:=ai) h;obtain ⟨e,st',hq,n1,h2⟩:=hK _ h;exact ⟨e,st',hq,n1,λ n k hn hk=>by simp [lE,uM,h1,hp,h2 n k hn hk]⟩
 | alloc f =>
  simp only [iq] at h;obtain ⟨o,mk,h1,h⟩:=fq.elim (m:=ai) h;obtain ⟨e,st',hq,n1,h2⟩:=hK _ h;exact ⟨e,st',hq,n1,λ n k hn hk=>by simp [lE,pB,h1,hp,h2 n k hn hk]⟩
 | bQ f =>
  simp only [iq] at h;obtain ⟨o,mk,h1,h⟩:=fq.elim (m:=ai) h;obtain ⟨e,st',hq,n1,h2⟩:=hK _ h;exact ⟨e,st',hq,n1,λ n k hn hk=>by simp [lE,Fj,h1,hp,h2 n k hn hk]⟩
 | eM f=>exact call h
 | ec =>
  simp only [iq,CL] at h;split at h
  ·exact call h
  ·exact call h
  ·exact False.elim h
 | invoke name =>
  simp only [iq,EI] at h;split at h
  ·obtain ⟨g,hg,h⟩:=bJ.elim (m:=ai) h;obtain ⟨e,st',hq,n1,h2⟩:=call h;exact ⟨e,st',hq,n1,λ n k hn hk=>by simpa [lE,nQ,qM,(show AP.prog.mC _ name=some g from hg)] using h2 n k hn hk⟩
  ·exact False.elim h
 | recover =>
  simp only [iq] at h;split at h
  ·obtain ⟨hr,h⟩:=h;split at h
   ·rename_i v older hup;obtain ⟨e,st',hq,n1,h2⟩:=hK _ h;exact ⟨e,st',hq,n1,λ n k hn hk=>by simpa [lE,L4,qM,hr,Jd,hup,hp] using h2 n k hn hk⟩
   ·rename_i hup;obtain ⟨e,st',hq,n1,h2⟩:=hK _ h;refine ⟨e,st',hq,n1,λ n k hn hk=>?_⟩;have:Jd (il dst).run st=⟨dr dst .nili st.tm,st.az,st.up,st.H⟩:=by
     unfold Jd;split
     ·rename_i v older hu;exact (hup _ _ hu).elim
     ·rw [hp]
    simpa [lE,L4,qM,hr,this] using h2 n k hn hk
  ·exact False.elim h
 | defer =>
  obtain ⟨hr,h⟩:=h;split at h
  ·obtain ⟨e,st',hq,n1,h2⟩:=hK _ h;exact ⟨e,st',hq,n1,λ n k hn hk=>by simpa [lE,pw,qM,hr,hp] using h2 n k hn hk⟩
  ·exact False.elim h
 | panic =>
  simp only [iq,dc] at h;split at h
  ·cases ps with
   | none=>exact False.elim h
   | some ds=>exact ⟨_,_,h,0,λ n k hn hk=>by simp [lE,pz,dV]⟩
  ·exact False.elim h
theorem mF.run {AP:aO} {ctx:Ctx} {s:aQ} {st:St} {Q:aX} {K:St->Prop} (h:mF AP ctx s st Q K)
 {kk:Nat->Nat->St->eC} (hK:∀ st,K st -> ∃ e st',Q e st' /\ ∃ n0,∀ n k,n0<=n->n0<=k->kk n k st=some (e,st')) :
 ∃ e st',Q e st' /\ ∃ n0,∀ n k,n0<=n->n0<=k->(eG s).run (qM AP n k ctx) (kk n k) st=some (e,st'):=by
 obtain ⟨eY,dst,guard,args,op,ps⟩:=s;have hp:∀ v tm,(il dst).run v tm=dr dst v tm:=P9 dst;have hc:∀ g,(T.jK (T.path g)).run st.tm=st.tm.get g:=λ g=>by rw [T.fZ];rfl
 cases eY with
 | false =>
  cases guard with
  | none =>
   obtain ⟨vs,h1,h⟩:=jR.elim h;obtain ⟨e,st',hq,n0,h2⟩:=h.run hK;exact ⟨e,st',hq,n0,λ n k hn hk=>by simpa [eG,yT,h1] using h2 n k hn hk⟩
  | some g =>
   obtain ⟨w,hw,h⟩:=bJ.elim (m:=ai) h;cases w with
   | true =>
    obtain ⟨vs,h1,h⟩:=jR.elim h;obtain ⟨e,st',hq,n0,h2⟩:=h.run hK;exact ⟨e,st',hq,n0,λ n k hn hk=>by simpa [eG,hc,hw,yT,h1] using h2 n k hn hk⟩
   | false =>
    obtain ⟨e,st',hq,n0,h2⟩:=hK _ h;exact ⟨e,st',hq,n0,λ n k hn hk=>by simpa [eG,hc,hw,hp] using h2 n k hn hk⟩
 | true =>
  cases guard with
  | none =>
   obtain ⟨vs,h1,hk,h'⟩:=jR.elim h;obtain ⟨t,rfl,hk⟩:=hk.run;obtain ⟨e,st',hq,n0,h2⟩:=hK _ h';exact ⟨e,st',hq,n0,λ n k hn hkk=>by simpa [eG,yT,h1,hk] using h2 n k hn hkk⟩
  | some g =>
   obtain ⟨w,hw,h⟩:=bJ.elim (m:=ai) h;cases w with
   | true =>
    obtain ⟨vs,h1,hk,h'⟩:=jR.elim h;obtain ⟨t,rfl,hk⟩:=hk.run;obtain ⟨e,st',hq,n0,h2⟩:=hK _ h';exact ⟨e,st',hq,n0,λ n k hn hkk=>by simpa [eG,hc,hw,yT,h1,hk] using h2 n k hn hkk⟩
   | false =>
    obtain ⟨hd,h⟩:=h;obtain ⟨e,st',hq,n0,h2⟩:=hK _ h;cases dst with
    | none=>cases hd
    | some d=>exact ⟨e,st',hq,n0,λ n k hn hkk=>by simpa [eG,hc,hw] using h2 n k hn hkk⟩
theorem lH.run {AP:aO} {ctx:Ctx}:∀ {l:List aQ} {st:St} {Q:aX},lH AP ctx l st Q -> ∃ e st',Q e st'/\EXS AP ctx l st (e,st')
 | [],st,Q,h=>⟨_,_,h,0,λ _ _ _ _=>rfl⟩
 | s::rest,st,Q,h=>by
  obtain ⟨e,st',hq,n0,h⟩:=mF.run (kk:=λ n k=>(eP rest).run (qM AP n k ctx)) h λ st' hs=>lH.run hs;exact ⟨e,st',hq,n0,h⟩
theorem wR {AP:aO} {ctx:Ctx} {aj:Option (List Nat)} {b:ab} {Q:aX} {I:Nat->St->Prop}
 (hb:∀ n st,I n st -> ∃ e st',(match e with | .normal=>∃ m,m<n/\I m st'|e=>Q e st')/\EX AP ctx b (gg aj st) (e,st')) :
 ∀ m n,n<=m -> ∀ st,I n st -> ∃ e st',Q e st' /\ ∃ n0 c,∀ n k,n0<=n->n0<=k -> ∀ c',c<=c'->eF aj ((bH b).run (qM AP n k ctx)) c' st=some (e,st'):=by
 intro m
 induction m with
 | zero =>
  intro n hn st hi;obtain ⟨e,st',h,n0,hx⟩:=hb n st hi;cases e with
  | normal=>obtain ⟨j,hj,_⟩:=h;omega
  | exit id=>exact ⟨_,_,h,n0,1,λ n k hn hk c' hc=>by obtain ⟨c,rfl⟩:∃ c,c'=c+1:=⟨c'-1,by omega⟩;have:=hx n k hn hk;cases aj<;>simp [eF,gg] at this ⊢<;>simp [this]⟩
  | goto l=>exact ⟨_,_,h,n0,1,λ n k hn hk c' hc=>by obtain ⟨c,rfl⟩:∃ c,c'=c+1:=⟨c'-1,by omega⟩;have:=hx n k hn hk;cases aj<;>simp [eF,gg] at this ⊢<;>simp [this]⟩
  | ret=>exact ⟨_,_,h,n0,1,λ n k hn hk c' hc=>by obtain ⟨c,rfl⟩:∃ c,c'=c+1:=⟨c'-1,by omega⟩;have:=hx n k hn hk;cases aj<;>simp [eF,gg] at this ⊢<;>simp [this]⟩
  | panic p=>exact ⟨_,_,h,n0,1,λ n k hn hk c' hc=>by obtain ⟨c,rfl⟩:∃ c,c'=c+1:=⟨c'-1,by omega⟩;have:=hx n k hn hk;cases aj<;>simp [eF,gg] at this ⊢<;>simp [this]⟩
 | succ m ih =>
  intro n hn st hi;obtain ⟨e,st',h,n0,hx⟩:=hb n st hi;cases e with
  | normal =>
   obtain ⟨j,hj,hi'⟩:=h;obtain ⟨e,st2,hq,n1,c,h2⟩:=ih j (by omega) st' hi';refine ⟨e,st2,hq,max n0 n1,c+1,λ n k hn hk c' hc=>?_⟩;obtain ⟨c'',rfl⟩:∃ c,c'=c+1:=⟨c'-1,by omega⟩
   have:=hx n k (by omega) (by omega);have h3:=h2 n k (by omega) (by omega) c'' (by omega);cases aj<;>simp [eF,gg] at this ⊢<;>simp [this,h3]
  | exit id=>exact ⟨_,_,h,n0,1,λ n k hn hk c' hc=>by obtain ⟨c,rfl⟩:∃ c,c'=c+1:=⟨c'-1,by omega⟩;have:=hx n k hn hk;cases aj<;>simp [eF,gg] at this ⊢<;>simp [this]⟩
  | goto l=>exact ⟨_,_,h,n0,1,λ n k hn hk c' hc=>by obtain ⟨c,rfl⟩:∃ c,c'=c+1:=⟨c'-1,by omega⟩;have:=hx n k hn hk;cases aj<;>simp [eF,gg] at this ⊢<;>simp [this]⟩
  | ret=>exact ⟨_,_,h,n0,1,λ n k hn hk c' hc=>by obtain ⟨c,rfl⟩:∃ c,c'=c+1:=⟨c'-1,by omega⟩;have:=hx n k hn hk;cases aj<;>simp [eF,gg] at this ⊢<;>simp [this]⟩
  | panic p=>exact ⟨_,_,h,n0,1,λ n k hn hk c' hc=>by obtain ⟨c,rfl⟩:∃ c,c'=c+1:=⟨c'-1,by omega⟩;have:=hx n k hn hk;cases aj<;>simp [eF,gg] at this ⊢<;>simp [this]⟩
theorem iC.run {AP:aO} {ctx:Ctx} {st:St} {k0:Nat} {H0:AHeap} {az:List aC} {d:Nat} {Q:aX} {v:AV} (h:iC AP ctx st k0 H0 az d Q v) :
 ∃ e st',Q e st' /\ ∃ n0,∀ n k,n0<=n->n0<=k->fV (AP.call n) (rounds AP.prog (AP.call n) n k) ctx st k0 H0 az d v=some (e,st'):=by
 unfold iC at h;split at h
 ·obtain ⟨e,H',⟨n0,hc⟩,h⟩:=h;cases e with
  | panic c=>exact ⟨_,_,h,n0,λ n k hn hk=>by simp [fV,cD,hc n hn,Ga]⟩
  | ret v =>
   obtain ⟨s,p,f,k,tm,d,hg,hs,h⟩:=h;refine ⟨_,_,h,n0,λ n k hn hk=>?_⟩;simp only [fV,cD,hc n hn,Ga,qd,hg]
 ·exact False.elim h
theorem WP.run {AP:aO} {ctx:Ctx}:∀ {c:ab} {st:St} {Q:aX},WP AP ctx c st Q -> ∃ e st',Q e st'/\EX AP ctx c st (e,st')
 | .skip,st,Q,h=>⟨_,_,h,0,λ _ _ _ _=>rfl⟩
 | .label _,st,Q,h=>⟨_,_,h,0,λ _ _ _ _=>rfl⟩
 | .exit _,st,Q,h=>⟨_,_,h,0,λ _ _ _ _=>rfl⟩
 | .goto _,st,Q,h=>⟨_,_,h,0,λ _ _ _ _=>rfl⟩
 | .ret,st,Q,h=>⟨_,_,h,0,λ _ _ _ _=>rfl⟩
 | .stuck,st,Q,h=>False.elim h
 | .region steps,st,Q,h=>lH.run h
 | .seq a b,st,Q,h=>by
  obtain ⟨e,c8,h1,n0,hx⟩:=WP.run (c:=a) h;cases e with
  | normal =>
   obtain ⟨e,st2,hq,n1,hy⟩:=WP.run (c:=b) h1;exact ⟨e,st2,hq,max n0 n1,λ n k hn hk=>by simp [bH,hx n k (by omega) (by omega),oB,hy n k (by omega) (by omega)]⟩
  | exit id=>exact ⟨_,_,h1,n0,λ n k hn hk=>by simp [bH,hx n k hn hk,oB]⟩
  | goto id=>exact ⟨_,_,h1,n0,λ n k hn hk=>by simp [bH,hx n k hn hk,oB]⟩
  | ret=>exact ⟨_,_,h1,n0,λ n k hn hk=>by simp [bH,hx n k hn hk,oB]⟩
  | panic p=>exact ⟨_,_,h1,n0,λ n k hn hk=>by simp [bH,hx n k hn hk,oB]⟩
 | .cond c a b,st,Q,h=>by
  obtain ⟨v,hv,h⟩:=si.elim h;obtain ⟨q,hq,h⟩:=bJ.elim (m:=ai) h;have hv':v=.bool q:=by
   unfold asBool at hq;split at hq
   ·injection hq with hq;rw [hq]
   ·cases hq
  subst hv';cases q with
  | true =>
   obtain ⟨e,c8,h1,n0,hx⟩:=WP.run (c:=a) h;exact ⟨e,c8,h1,n0,λ n k hn hk=>by simp [bH,BW,hv,oE,hx n k hn hk]⟩
  | false =>
   obtain ⟨e,c8,h1,n0,hx⟩:=WP.run (c:=b) h;exact ⟨e,c8,h1,n0,λ n k hn hk=>by simp [bH,BW,hv,oE,hx n k hn hk]⟩
 | .block id b,st,Q,h=>by
  obtain ⟨e,c8,h1,n0,hx⟩:=WP.run (c:=b) h;cases e with
  | exit id'=>exact ⟨_,_,h1,n0,λ n k hn hk=>by simp [bH,hx n k hn hk,gF]⟩
  | normal=>exact ⟨_,_,h1,n0,λ n k hn hk=>by simp [bH,hx n k hn hk,gF]⟩
  | goto id=>exact ⟨_,_,h1,n0,λ n k hn hk=>by simp [bH,hx n k hn hk,gF]⟩
  | ret=>exact ⟨_,_,h1,n0,λ n k hn hk=>by simp [bH,hx n k hn hk,gF]⟩
  | panic p=>exact ⟨_,_,h1,n0,λ n k hn hk=>by simp [bH,hx n k hn hk,gF]⟩
 | .scope b,st,Q,h=>by
  obtain ⟨e,c8,h1,n0,hx⟩:=WP.run (c:=b) h;cases e with
  | exit id'=>exact ⟨_,_,h1,n0,λ n k hn hk=>by simp [bH,hx n k hn hk,ig]⟩
  | normal=>exact ⟨_,_,h1,n0,λ n k hn hk=>by simp [bH,hx n k hn hk,ig]⟩
  | goto id=>exact ⟨_,_,h1.2,n0,λ n k hn hk=>by simp [bH,hx n k hn hk,ig,h1.1]⟩
  | ret=>exact ⟨_,_,h1,n0,λ n k hn hk=>by simp [bH,hx n k hn hk,ig]⟩
  | panic p=>exact ⟨_,_,h1,n0,λ n k hn hk=>by simp [bH,hx n k hn hk,ig]⟩
 | .loop aj b,st,Q,⟨I,⟨n,hi⟩,h⟩=>by
  obtain ⟨e,st',hq,n0,c,hx⟩:=wR (AP:=AP) (ctx:=ctx) (aj:=aj) (b:=b) (Q:=Q) (I:=I) (λ n st hi=>by
   obtain ⟨e,st',h1,h2⟩:=WP.run (c:=b) (h n st hi);exact ⟨e,st',h1,h2⟩) n n (qf n) st hi
  exact ⟨e,st',hq,max n0 c,λ n k hn hk=>hx n k (by omega) (by omega) n (by omega)⟩
 | .rangeFunc f k0,st,Q,h=>by
  obtain ⟨v,hv,h⟩:=si.elim h;unfold ET at h;cases hr:ctx.round with
  | none =>
   rw [hr] at h;obtain ⟨e,st',hq,n0,hx⟩:=iC.run h;exact ⟨e,st',hq,n0,λ n k hn hk=>by simpa [bH,BW,hv,lS,qM,hr] using hx n k hn hk⟩
  | some l =>
   rw [hr] at h;obtain ⟨d,hd,h⟩:=bJ.elim (m:=ai) h;obtain ⟨e,st',hq,n0,hx⟩:=iC.run h;exact ⟨e,st',hq,n0,λ n k hn hk=>by simpa [bH,BW,hv,lS,qM,hr,hd] using hx n k hn hk⟩
def rZ (AP:aO) (rs:List di) (tm:T AV) (Q:bE->AHeap->Prop):List aC->Option ah->AHeap->Prop
 | [],none,H=>bJ ai (cO H tm rs) λ l=>Q (.ret (dt l)) H
 | [],some c,H=>Q (.panic c) H
 | .ic b::ds,m,H=>H.get b=some (.deferred (some []))/\rZ AP rs tm Q ds m (H.set b (.deferred none))
 | .fn (.func f) args::ds,m,H=>∃ v up' H',iU AP f args (some (m.getD [])) H (.ret v) (some up') H'/\bJ ai (i5 m up') λ m'=>rZ AP rs tm Q ds m' H'
 | .fn (.yield _) _::_,_,_=>False
theorem rZ.run {AP:aO} {rs:List di} {tm:T AV} {Q:bE->AHeap->Prop}:∀ {ds:List aC} {m:Option ah} {H:AHeap},rZ AP rs tm Q ds m H ->
 ∃ e H',Q e H' /\ ∃ n0,∀ n,n0<=n->bY (AP.call n) rs tm ds m H=some (e,H')
 | [],none,H,h=>by
  obtain ⟨l,hl,h⟩:=bJ.elim (m:=ai) h;exact ⟨_,_,h,0,λ n _=>by simp [bY,hl]⟩
 | [],some c,H,h=>⟨_,_,h,0,λ n _=>by simp [bY]⟩
 | .ic b::ds,m,H,⟨hb,h⟩=>by
  obtain ⟨e,H',hq,n0,hx⟩:=rZ.run h;exact ⟨e,H',hq,n0,λ n hn=>by simp [bY,hb,hx n hn]⟩
 | .fn (.func f) args::ds,m,H,⟨v,up',H',⟨n0,hc⟩,h⟩=>by
  obtain ⟨m',hm,h⟩:=bJ.elim (m:=ai) h;obtain ⟨e,H2,hq,n1,hx⟩:=rZ.run h;exact ⟨e,H2,hq,max n0 n1,λ n hn=>by simp [bY,hc n (by omega),hm,hx n (by omega)]⟩
 | .fn (.yield _) _::_,_,_,h=>False.elim h
def J7 (AP:aO) (rs:List di) (Q:bE->Option ah->AHeap->Prop):aX:=λ e st=>match e with
 | .normal=>rZ AP rs st.tm (λ e H=>Q e st.up H) st.az none st.H
 | .ret=>rZ AP rs st.tm (λ e H=>Q e st.up H) st.az none st.H
 | .panic c=>rZ AP rs st.tm (λ e H=>Q e st.up H) st.az (some c) st.H
 | _=>False
theorem Mk {AP:aO} {f:Nat} {fn:aq} (hf:AP.func f=some fn) {vs:List AV} {up:Option ah} {H:AHeap} {Q:bE->Option ah->AHeap->Prop}
 (h:WP AP ⟨none,f⟩ fn.body ⟨fj 0 vs .nil,[],up,H⟩ (J7 AP fn.results Q)):∃ e up' H',iU AP f vs up H e up' H'/\Q e up' H':=by
 obtain ⟨hmu,hf⟩:=aO.pQ hf;obtain ⟨e,st,h1,n0,hx⟩:=h.run;have key:∀ m,rZ AP fn.results st.tm (λ e H=>Q e st.up H) st.az m st.H->(∀ call,kI call fn (e,st)=(bY call fn.results st.tm st.az m st.H).bind λ q=>some (q.1,st.up,q.2)) ->
  ∃ e up' H',iU AP f vs up H e up' H'/\Q e up' H':=by
  intro m h1 he;obtain ⟨e',H',hq,n1,hy⟩:=h1.run;refine ⟨e',st.up,H',⟨max n0 n1+1,λ n hn=>?_⟩,hq⟩;obtain ⟨n,rfl⟩:∃ j,n=j+1:=⟨n-1,by omega⟩
  have:=hx n n (by omega) (by omega);simp only [qM] at this;rw [aO.rF hmu];simp only [zZ,hf,qd,exec,this,he,hy n (by omega)]
 cases e with
 | normal=>exact key none h1 λ _=>rfl
 | ret=>exact key none h1 λ _=>rfl
 | panic c=>exact key (some c) h1 λ _=>rfl
 | exit _=>exact False.elim h1
 | goto _=>exact False.elim h1
theorem q03 {AP:aO} {f:Nat} {fn:aq} (hf:AP.func f=some fn) {vs:List AV} {H:AHeap} {Q:bE->AHeap->Prop}
 (h:WP AP ⟨none,f⟩ fn.body ⟨fj 0 vs .nil,[],none,H⟩ (J7 AP fn.results λ e up H=>up=none/\Q e H)):∃ e H',CALL AP f vs H e H'/\Q e H':=by
 obtain ⟨e,up',H',h1,rfl,h2⟩:=Mk hf h;exact ⟨e,H',h1,h2⟩
def RE (l:Nat) (Q:bE->AHeap->Prop):aX:=λ e st=>st.az=[]/\match e with
 | .panic c=>Q (.panic c) st.H
 | e=>bJ ai (dm st.H l (cond (yJ e) .ready .done) (kZ e)) λ H=>Q (.ret (.bool (yJ e))) H
def RB (W:St->aX->Prop) (l:Nat) (Q:bE->AHeap->Prop):aX:=λ e st=>match e with
 | .normal=>bJ ai (beginRound st.H l) λ H=>W { st with H:=H } (RE l Q)
 | _=>False
theorem q7z {AP:aO} {l:Nat} {H:AHeap} {s:iK} {p:Option gh} {f k:Nat} {tm:T AV} {d:Nat} {fn:aq} {lp:cP} {vs:List AV} {tm1:T AV} {Q:bE->AHeap->Prop}
 (hl:H.get l=some (.loop s p f k tm d)) (hf:AP.func f=some fn) (hk:nth fn.loops k=some lp) (hb:Gq tm lp.params vs=some tm1)
 (h:WP AP ⟨some l,f⟩ lp.assign ⟨tm1,[],none,H⟩ (RB (WP AP ⟨some l,f⟩ lp.body) l Q)):∃ e H',jN AP l vs H e H'/\Q e H':=by
 obtain ⟨hmu,hf⟩:=aO.pQ hf;obtain ⟨e,st,h1,n0,hx⟩:=h.run;cases e with
 | normal =>
  obtain ⟨H2,hbr,h1⟩:=bJ.elim (m:=ai) h1;obtain ⟨e,st2,⟨hd,h2⟩,n1,hy⟩:=WP.run h1;have key:∀ e' H',Q e' H'->zQ l (e,st2)=some (e',H') -> ∃ e H',jN AP l vs H e H'/\Q e H':=by
   intro e' H' hq he;refine ⟨e',H',⟨max n0 n1+1,λ n j hn hj=>?_⟩,hq⟩;obtain ⟨j,rfl⟩:∃ i,j=i+1:=⟨j-1,by omega⟩
   have hx':=hx n j (by omega) (by omega);have hy':=hy n j (by omega) (by omega);simp only [qM] at hx' hy';simp only [rounds,roundOf,hl,hf,qd,hk,hb,exec,hx',hbr,hy',hd,roundOf.noDefs,ql,he]
  cases e with
  | panic c=>exact key _ _ h2 rfl
  | normal=>obtain ⟨H3,h3,h2⟩:=bJ.elim (m:=ai) h2;exact key _ _ h2 (by simp [zQ,h3])
  | exit id=>obtain ⟨H3,h3,h2⟩:=bJ.elim (m:=ai) h2;exact key _ _ h2 (by simp [zQ,h3])
  | goto id=>obtain ⟨H3,h3,h2⟩:=bJ.elim (m:=ai) h2;exact key _ _ h2 (by simp [zQ,h3])
  | ret=>obtain ⟨H3,h3,h2⟩:=bJ.elim (m:=ai) h2;exact key _ _ h2 (by simp [zQ,h3])
 | exit _=>exact False.elim h1
 | goto _=>exact False.elim h1
 | ret=>exact False.elim h1
 | panic _=>exact False.elim h1
theorem CALL.wN {AP:aO} {f:Nat} {vs:List AV} {H:AHeap} {e:bE} {H':AHeap} (h:CALL AP f vs H e H'):∃ n,AP.call n f vs none H=some (e,none,H'):=by
 obtain ⟨n,h⟩:=h;exact ⟨n,h n (qf n)⟩
end
end Go.Am
namespace Go.Am
abbrev Env:=List (Nat × AV)
noncomputable def cH (E:Env) (tm:T AV):T AV:=List.rec (motive:=λ _=>T AV) tm (λ p _ ih=>ih.set p.1 p.2) E
noncomputable def iD (E:Env) (t:Nat) (tm:T AV):Option AV:=List.rec (motive:=λ _=>Option AV) (tm.get t) (λ p _ ih=>cond (Nat.beq p.1 t) (some p.2) ih) E
theorem q14 (p:Nat × AV) (E:Env) (tm:T AV):cH (p::E) tm=(cH E tm).set p.1 p.2:=rfl
theorem rE:∀ (E:Env) (t:Nat) (tm:T AV),(cH E tm).get t=iD E t tm
 | [],t,tm=>rfl
 | (k,v)::E,t,tm=>by
  rw [q14,T.aI];show _=cond (Nat.beq k t) (some v) (iD E t tm);rw [rE E];cases hb:Nat.beq k t with
  | true=>rw [qk (HX hb)];rfl
  | false=>rw [qc (Fw hb)];rfl
theorem GA (t:Nat) (tm:T AV):iD [] t tm=tm.get t:=rfl
def fR (dst:Option Nat) (v:AV) (E:Env):Env:=match dst with
 | some d=>(d,v)::E
 | none=>E
theorem yD (dst:Option Nat) (v:AV) (E:Env) (tm:T AV):cH (fR dst v E) tm=dr dst v (cH E tm):=by cases dst<;>rfl
def BI {α:Type} (m:Bool) (o:Option α) (K:Bool -> α->Prop):Prop:=match o with
 | some a=>K ai a
 | none=>False
def kN {α β:Type} (m:Bool) (o:Option (α × β)) (K:Bool -> α -> β->Prop):Prop:=match o with
 | some a=>K ai a.1 a.2
 | none=>False
def IG (m:Bool) (q:Bool) (A B:Bool->Prop):Prop:=match q with
 | true=>A ai
 | false=>B ai
def LK {α:Type} (m:Bool) (o:Option α) (K:Bool -> α->Prop):Prop:=match o with
 | some a=>K m a
 | none=>False
theorem EM {α:Type} (a:α) (K:Bool -> α->Prop):LK true (some a) K=K true a:=propext zg
@[congr] theorem Is {α:Type} {m m':Bool} {o o':Option α} {K:Bool -> α->Prop} (hm:m=m') (h:o=o'):LK m o K=LK m' o' K:=by subst hm;subst h;rfl
theorem Fq {α:Type} (a:α) (K:Bool -> α->Prop):BI true (some a) K=K ai a:=propext zg
theorem G0 {α β:Type} (a:α) (b:β) (K:Bool -> α -> β->Prop):kN true (some (a,b)) K=K ai a b:=propext zg
theorem GD (A B:Bool->Prop):IG true true A B=A ai:=propext zg
theorem Gk (A B:Bool->Prop):IG true false A B=B ai:=propext zg
@[congr] theorem Ir {α:Type} {m m':Bool} {o o':Option α} {K:Bool -> α->Prop} (hm:m=m') (h:o=o'):BI m o K=BI m' o' K:=by subst hm;subst h;rfl
@[congr] theorem G9 {α β:Type} {m m':Bool} {o o':Option (α × β)} {K:Bool -> α -> β->Prop} (hm:m=m') (h:o=o'):kN m o K=kN m' o' K:=by subst hm;subst h;rfl
@[congr] theorem HH {m m' q q':Bool} {A B:Bool->Prop} (hm:m=m') (h:q=q'):IG m q A B=IG m' q' A B:=by subst hm;subst h;rfl
theorem BI.intro {α:Type} {m:Bool} {o:Option α} {K:Bool -> α->Prop} {a:α} (h:o=some a) (hk:K ai a):BI m o K:=by subst h;exact hk
theorem kN.intro {α β:Type} {m:Bool} {o:Option (α × β)} {K:Bool -> α -> β->Prop} {a:α} {b:β} (h:o=some (a,b)) (hk:K ai a b):kN m o K:=by subst h;exact hk
theorem IG.dec {m:Bool} {p:Prop} [Decidable p] {A B:Bool->Prop} (h1:p->A ai) (h2:¬ p->B ai):IG m (decide p) A B:=by
 by_cases h:p
 ·rw [jd h];exact h1 h
 ·rw [jf h];exact h2 h
theorem IG.cases {m:Bool} {q:Bool} {A B:Bool->Prop} (h1:q=true->A ai) (h2:q=false->B ai):IG m q A B:=by
 cases q with
 | true=>exact h1 rfl
 | false=>exact h2 rfl
def GO (m:Bool) (Q:aX) (e:aF) (st:St):Prop:=Q e st
theorem Hl (Q:aX) (e:aF) (st:St):GO true Q e st=Q e st:=propext zg
noncomputable section
variable (AP:aO)
def CA (m:Bool) (f:fC) (vs:List AV) (H:AHeap) (K:Bool->AV->AHeap->Prop) (E:ah->AHeap->Prop):Prop:=iB AP m f vs H (K ai) E
@[congr] theorem J4 {AP:aO} {m m':Bool} {f f':fC} {vs vs':List AV} {H:AHeap} {K:Bool->AV->AHeap->Prop} {E:ah->AHeap->Prop} (hm:m=m') (hf:f=f') (h:vs=vs'):CA AP m f vs H K E=CA AP m' f' vs' H K E:=by subst hm;subst h;subst hf;rfl
theorem CA.ret {AP:aO} {m:Bool} {f:Nat} {vs:List AV} {H:AHeap} {K:Bool->AV->AHeap->Prop} {E:ah->AHeap->Prop} {v:AV} {H':AHeap} (h:CALL AP f vs H (.ret v) H') (hk:K ai v H'):CA AP m (.func f) vs H K E :=
 ⟨_,_,h,hk⟩
theorem CA.D2 {AP:aO} {m:Bool} {l:Nat} {vs:List AV} {H:AHeap} {K:Bool->AV->AHeap->Prop} {E:ah->AHeap->Prop} {v:AV} {H':AHeap} (h:jN AP l vs H (.ret v) H') (hk:K ai v H'):CA AP m (.yield l) vs H K E :=
 ⟨_,_,h,hk⟩
theorem CA.panic {AP:aO} {m:Bool} {f:Nat} {vs:List AV} {H:AHeap} {K:Bool->AV->AHeap->Prop} {E:ah->AHeap->Prop} {c:ah} {H':AHeap} (h:CALL AP f vs H (.panic c) H') (hk:E c H'):CA AP m (.func f) vs H K E :=
 ⟨_,_,h,hk⟩
def VI (m:Bool) (vs:List AV) (K:Bool->fC->List AV->Prop):Prop:=CL m vs (K ai)
@[congr] theorem Kh {m m':Bool} {vs vs':List AV} {K:Bool->fC->List AV->Prop} (hm:m=m') (h:vs=vs'):VI m vs K=VI m' vs' K:=by subst hm;subst h;rfl
theorem F4 (g:Nat) (first cap args:List AV) (K:Bool->fC->List AV->Prop):VI true (.fn (.func g) first cap::args) K=K ai (.func g) (first++(args++cap)):=propext zg
theorem Gz (l:Nat) (first args:List AV) (K:Bool->fC->List AV->Prop):VI true (.fn (.yield l) first []::args) K=K ai (.yield l) (first++args):=propext zg
def IV (m:Bool) (name:String) (vs:List AV) (K:Bool->fC->List AV->Prop):Prop:=EI AP m name vs (K ai)
@[congr] theorem HT {AP:aO} {m m':Bool} {name:String} {vs vs':List AV} {K:Bool->fC->List AV->Prop} (hm:m=m') (h:vs=vs'):IV AP m name vs K=IV AP m' name vs' K:=by subst hm;subst h;rfl
def RC (m:Bool) (ctx:Ctx) (up:Option ah) (K:Bool->AV->Option ah->Prop):Prop:=gV m ctx up (K ai)
@[congr] theorem JP {m m':Bool} {ctx:Ctx} {up up':Option ah} {K:Bool->AV->Option ah->Prop} (hm:m=m') (h:up=up'):RC m ctx up K=RC m' ctx up' K:=by subst hm;subst h;rfl
theorem GI (f:Nat) (K:Bool->AV->Option ah->Prop):RC true ⟨none,f⟩ none K=K ai .nili none:=q97 true f _
theorem F2 (f:Nat) (K:Bool->AV->Option ah->Prop):RC true ⟨none,f⟩ (some []) K=K ai .nili (some []):=xcq true f _
theorem Fu (f:Nat) (v:AV) (older:ah) (K:Bool->AV->Option ah->Prop):RC true ⟨none,f⟩ (some ((v,false)::older)) K=K ai v (some ((v,true)::older)):=q96 true f v older _
def DF (m:Bool) (ctx:Ctx) (vs:List AV) (az:List aC) (K:Bool->List aC->Prop):Prop:=pI m ctx vs az (K ai)
@[congr] theorem Jn {m m':Bool} {ctx:Ctx} {vs vs':List AV} {az:List aC} {K:Bool->List aC->Prop} (hm:m=m') (h:vs=vs'):DF m ctx vs az K=DF m' ctx vs' az K:=by subst hm;subst h;rfl
theorem mY (g f:Nat) (first cap args:List AV) (az:List aC) (K:Bool->List aC->Prop):DF true ⟨none,g⟩ (.fn (.func f) first cap::args) az K=K ai (.fn (.func f) (first++(args++cap))::az):=yX true g f first cap args az _
def GW (m:Bool) (ctx:Ctx) (c:ab) (st:St) (Q:aX):Prop:=WP AP ctx c st Q
theorem Hs (AP:aO) (ctx:Ctx) (c:ab) (st:St) (Q:aX):GW AP true ctx c st Q=WP AP ctx c st Q:=propext zg
def GS (m:Bool) (ctx:Ctx) (l:List aQ) (st:St) (Q:aX):Prop:=lH AP ctx l st Q
def rB (E:Env) (tm:T AV) (l:List bP):Bool->(Bool->List AV->Prop)->Prop:=List.rec (motive:=λ _=>Bool->(Bool->List AV->Prop)->Prop) (λ g K=>K g [])
 (λ x _ ih g K=>bP.casesOn x (λ t=>LK g (iD E t tm) λ g v=>ih g λ g vs=>K g (v::vs)) (λ v=>ih g λ g vs=>K g (v::vs)) (λ b=>ih g λ g vs=>K g (.ptr b 0::vs)) (λ f=>ih g λ g vs=>K g (.fn (.func f) [] []::vs))) l
theorem iw {α:Type} {m m':Bool} {o:Option α} {K:Bool -> α->Prop} {K':α->Prop} (h:∀ g a,K g a=K' a):BI m o K=bJ m' o K':=by
 cases o with
 | none=>rfl
 | some a=>exact h _ a
theorem J0 {α:Type} {m m':Bool} {o:Option α} {K:Bool -> α->Prop} {K':α->Prop} (h:∀ g a,K g a=K' a):LK m o K=bJ m' o K':=by
 cases o with
 | none=>rfl
 | some a=>exact h _ a
theorem sC {α β:Type} {m m':Bool} {o:Option (α × β)} {K:Bool -> α -> β->Prop} {K':α -> β->Prop} (h:∀ g a b,K g a b=K' a b):kN m o K=fq m' o K':=by
 cases o with
 | none=>rfl
 | some a=>exact h _ a.1 a.2
theorem Cw (E:Env) (tm:T AV):∀ (xs:List bP) (g:Bool) (K:Bool->List AV->Prop) (K':List AV->Prop),(∀ g vs,K g vs=K' vs)->rB E tm xs g K=jR (cH E tm) xs K'
 | [],g,K,K',h=>h g []
 | .tmp t::xs,g,K,K',h=>by
  show (LK g (iD E t tm) λ g v=>rB E tm xs g λ g vs=>K g (v::vs))=_;rw [jR,rE];exact J0 λ g v=>Cw E tm xs g _ _ λ g vs=>h g _
 | .const v::xs,g,K,K',h=>Cw E tm xs g _ _ λ g vs=>h g _
 | .dx v::xs,g,K,K',h=>Cw E tm xs g _ _ λ g vs=>h g _
 | .func v::xs,g,K,K',h=>Cw E tm xs g _ _ λ g vs=>h g _
abbrev KE:=Bool->Env->List aC->Option ah->AHeap->Prop
def rX (ctx:Ctx) (dst:Option Nat) (ps:Option (List Nat)) (E:Env) (tm:T AV) (az:List aC) (up:Option ah) (H:AHeap) (Q:aX) (K:KE) (g:Bool) (vs:List AV):dS->Prop
 | .pure f=>BI g (f vs) λ g v=>K g (fR dst v E) az up H
 | .read f=>BI g (f vs H) λ g v=>K g (fR dst v E) az up H
 | .alloc f=>kN g (f vs) λ g o mk=>K g (fR dst (mk H.next) E) az up (H.alloc o)
 | .bQ f=>kN g (f vs H) λ g v H=>K g (fR dst v E) az up H
 | .eM f=>CA AP g (.func f) vs H (λ g v H=>K g (fR dst v E) az up H) (oL ps (cH E tm) az up Q)
 | .ec=>VI g vs λ g f vs=>CA AP g f vs H (λ g v H=>K g (fR dst v E) az up H) (oL ps (cH E tm) az up Q)
 | .invoke name=>IV AP g name vs λ g f vs=>CA AP g f vs H (λ g v H=>K g (fR dst v E) az up H) (oL ps (cH E tm) az up Q)
 | .recover=>match vs with
  | []=>RC g ctx up λ g v up=>K g (fR dst v E) az up H
  | _=>False
 | .defer=>DF g ctx vs az λ g az=>K g (fR dst .undef E) az up H
 | .panic=>dc vs H (oL ps (cH E tm) az up Q)
theorem xB {AP:aO} {ctx:Ctx} {dst:Option Nat} {ps:Option (List Nat)} {E:Env} {tm:T AV} {az:List aC} {up:Option ah} {H:AHeap} {Q:aX} {K:KE} {K':St->Prop}
 (hK:∀ g E az up H,K g E az up H=K' ⟨cH E tm,az,up,H⟩) (g:Bool) (vs:List AV) (op:dS):rX AP ctx dst ps E tm az up H Q K g vs op=iq AP ctx dst ps ⟨cH E tm,az,up,H⟩ Q K' vs op:=by
 cases op with
 | pure f=>simp only [rX,iq,hK,yD];exact iw λ _ _=>rfl
 | read f=>simp only [rX,iq,hK,yD];exact iw λ _ _=>rfl
 | alloc f=>simp only [rX,iq,hK,yD];exact sC λ _ _ _=>rfl
 | bQ f=>simp only [rX,iq,hK,yD];exact sC λ _ _ _=>rfl
 | eM f=>simp only [rX,iq,CA,hK,yD];rfl
 | ec=>simp only [rX,iq,VI,CA,hK,yD];rfl
 | invoke n=>simp only [rX,iq,IV,CA,hK,yD];rfl
 | recover=>cases vs<;>simp only [rX,iq,RC,hK,yD]<;>rfl
 | defer=>simp only [rX,iq,DF,hK,yD];rfl
 | panic=>rfl
def zY (dst:Option Nat) (E:Env) (tm:T AV) (H:AHeap) (g:Bool) (vs:List AV):dS->Prop
 | .read f=>match dst with
  | some d=>BI g (f vs H) λ g v=>BI g (iD E d tm) λ g v'=>v=v'
  | none=>False
 | _=>False
theorem xcg (dst:Option Nat) (E:Env) (tm:T AV) (az:List aC) (up:Option ah) (H:AHeap) (g:Bool) (vs:List AV) (op:dS):zY dst E tm H g vs op=D8 dst ⟨cH E tm,az,up,H⟩ vs op:=by
 cases op with
 | read f =>
  cases dst with
  | none=>rfl
  | some d =>
   simp only [zY,D8,rE];exact iw λ g a=>iw λ g b=>rfl
 | _=>rfl
def qK (ctx:Ctx) (s:aQ) (E:Env) (tm:T AV) (az:List aC) (up:Option ah) (H:AHeap) (Q:aX) (K:KE) (g:Bool):Prop :=
 match s.eY with
 | false=>match s.guard with
  | none=>rB E tm s.args g λ g vs=>rX AP ctx s.dst s.cj E tm az up H Q K g vs s.op
  | some q=>BI g (aE q.2 (iD E q.1 tm)) λ g w=>IG g w (λ g=>rB E tm s.args g λ g vs=>rX AP ctx s.dst s.cj E tm az up H Q K g vs s.op) (λ g=>K g (fR s.dst .undef E) az up H)
 | true=>match s.guard with
  | none=>rB E tm s.args g λ g vs=>zY s.dst E tm H g vs s.op/\K g E az up H
  | some q=>BI g (aE q.2 (iD E q.1 tm)) λ g w=>IG g w (λ g=>rB E tm s.args g λ g vs=>zY s.dst E tm H g vs s.op/\K g E az up H) (λ g=>s.dst.isSome=true/\K g E az up H)
theorem xM {m m' q:Bool} {A B:Bool->Prop} {A' B':Prop} (h1:∀ g,A g=A') (h2:∀ g,B g=B'):IG m q A B=vI m' q A' B':=by
 cases q with
 | true=>exact h1 _
 | false=>exact h2 _
theorem uL {AP:aO} {ctx:Ctx} {s:aQ} {E:Env} {tm:T AV} {az:List aC} {up:Option ah} {H:AHeap} {Q:aX} {K:KE} {K':St->Prop}
 (hK:∀ g E az up H,K g E az up H=K' ⟨cH E tm,az,up,H⟩) (g:Bool):qK AP ctx s E tm az up H Q K g=mF AP ctx s ⟨cH E tm,az,up,H⟩ Q K':=by
 obtain ⟨eY,dst,guard,args,op,ps⟩:=s;cases eY with
 | false =>
  cases guard with
  | none=>exact Cw E tm args g _ _ λ g vs=>xB hK g vs op
  | some q =>
   simp only [qK,mF,rE];exact iw λ g w=>xM (λ g=>Cw E tm args g _ _ λ g vs=>xB hK g vs op) (λ g=>by rw [hK,yD])
 | true =>
  cases guard with
  | none=>exact Cw E tm args g _ _ λ g vs=>by rw [xcg _ _ _ az up,hK]
  | some q =>
   simp only [qK,mF,rE];exact iw λ g w=>xM (λ g=>Cw E tm args g _ _ λ g vs=>by rw [xcg _ _ _ az up,hK]) (λ g=>by rw [hK])
def JL (ctx:Ctx) (tm:T AV) (Q:aX) (l:List aQ):KE:=List.rec (motive:=λ _=>KE) (λ g E az up H=>GO g Q .normal ⟨cH E tm,az,up,H⟩) (λ s _ ih g E az up H=>qK AP ctx s E tm az up H Q ih g) l
theorem xcw (ctx:Ctx) (tm:T AV) (Q:aX):∀ (l:List aQ) (g:Bool) (E:Env) (az:List aC) (up:Option ah) (H:AHeap),JL AP ctx tm Q l g E az up H=lH AP ctx l ⟨cH E tm,az,up,H⟩ Q
 | [],g,E,az,up,H=>rfl
 | s::rest,g,E,az,up,H=>by rw [Li];exact uL (λ g E az up H=>xcw ctx tm Q rest g E az up H) g
theorem sa {AP:aO} {ctx:Ctx} {tm:T AV} {az:List aC} {up:Option ah} {H:AHeap} {Q:aX} {l:List aQ} {R:Prop} (h:JL AP ctx tm Q l ai [] az up H=R):GS AP true ctx l ⟨tm,az,up,H⟩ Q=R :=
 (xcw AP ctx tm Q l ai [] az up H).symm.trans h
theorem Mt (ctx:Ctx) (st:St) (Q:aX) (l:List aQ):WP AP ctx (.region l) st Q=GS AP ai ctx l st Q:=propext zg
theorem gB (ctx:Ctx) (st:St) (Q:aX) (l:List aQ) (b:ab):WP AP ctx (.seq (.region l) b) st Q=GS AP ai ctx l st (nR (WP AP ctx b) Q):=propext zg
theorem wQ (ctx:Ctx) (st:St) (Q:aX) (t:Nat) (a b:ab):WP AP ctx (.cond (.tmp t) a b) st Q=BI ai (st.tm.get t) λ g v=>BI g (asBool v) λ g q=>IG g q (λ g=>GW AP g ctx a st Q) (λ g=>GW AP g ctx b st Q):=by
 rw [Ak];simp only [si];refine Eq.symm ?_;refine iw λ g v=>?_;refine iw λ g q=>?_;exact xM (λ _=>rfl) λ _=>rfl
end
end Go.Am
namespace Go.Am
theorem JA (n:Int):ae .i64 n=(n+9223372036854775808) % 18446744073709551616-9223372036854775808:=by
 simp [ae,IntKind.wrap,IntKind.bits,IntKind.signed];split<;>omega
theorem BV (n:Int):ae .u64 n=n % 18446744073709551616:=by simp [ae,IntKind.wrap,IntKind.bits,IntKind.signed]
theorem sO (n:Int):ae .u8 n=n % 256:=by simp [ae,IntKind.wrap,IntKind.bits,IntKind.signed]
theorem q6i (n:Int):ae .i32 n=(n+2147483648) % 4294967296-2147483648:=by
 simp [ae,IntKind.wrap,IntKind.bits,IntKind.signed];split<;>omega
theorem Iv (n:Int):ae .u32 n=n % 4294967296:=by simp [ae,IntKind.wrap,IntKind.bits,IntKind.signed]
theorem zk {n:Int} (h:-9223372036854775808<=n) (h':n<9223372036854775808):ae .i64 n=n:=by rw [JA];omega
theorem ww {n:Int} (h:0<=n) (h':n<18446744073709551616):ae .u64 n=n:=by rw [BV];omega
section
variable (k:IntKind) (a b:Int)
theorem CZ (v:AV):Op.move [v]=some v:=rfl
theorem D6 (q:Bool) (a b:AV):Op.pick [.bool q,a,b]=some (cond q a b):=rfl
theorem lQ:Op.bin .add [.int k a,.int k b]=some (.int k (ae k (a+b))):=by cases k<;>rfl
theorem lO:Op.bin .sub [.int k a,.int k b]=some (.int k (ae k (a-b))):=by cases k<;>rfl
theorem lL:Op.bin .mul [.int k a,.int k b]=some (.int k (ae k (a*b))):=by cases k<;>rfl
theorem Ci (hb:b ≠ 0):Op.bin .quo [.int k a,.int k b]=some (.int k (ae k (a.tdiv b))):=by
 have:nJ b 0=false:=by rw [rH];simpa using hb
 cases k<;>simp [Op.bin,iH,df,pE,iF,ef,this]
theorem qO (hb:b ≠ 0):Op.bin .rem [.int k a,.int k b]=some (.int k (a.tmod b)):=by
 have:nJ b 0=false:=by rw [rH];simpa using hb
 cases k<;>simp [Op.bin,iH,df,pE,iF,ef,this]
theorem lP:Op.bin .eql [.int k a,.int k b]=some (.bool (decide (a=b))):=by
 have:nJ a b=decide (a=b):=by rw [rH];rfl
 cases k<;>simp [Op.bin,iH,df,pE,iF,ef,this]
theorem lV:Op.bin .neq [.int k a,.int k b]=some (.bool (decide (a ≠ b))):=by
 have:nJ a b=decide (a=b):=by rw [rH];rfl
 cases k<;>simp [Op.bin,iH,df,pE,iF,ef,this]
theorem kV:Op.bin .lss [.int k a,.int k b]=some (.bool (decide (a<b))):=by
 cases k<;>simp [Op.bin,iH,df,pE,iF,ef,p8]
theorem kS:Op.bin .leq [.int k a,.int k b]=some (.bool (decide (a<=b))):=by
 cases k<;>simp [Op.bin,iH,df,pE,iF,ef,pN]
theorem lF:Op.bin .gtr [.int k a,.int k b]=some (.bool (decide (b<a))):=by
 cases k<;>simp [Op.bin,iH,df,pE,iF,ef,p8]
theorem lK:Op.bin .geq [.int k a,.int k b]=some (.bool (decide (b<=a))):=by
 cases k<;>simp [Op.bin,iH,df,pE,iF,ef,pN]
theorem EG (k':IntKind):Op.wrap k [.int k' a]=some (.int k (ae k a)):=rfl
theorem kX (q:Bool):Op.un .not [.bool q]=some (.bool (!q)):=rfl
theorem Kj:Op.un .neg [.int k a]=some (.int k (ae k (0-a))):=rfl
theorem xdn (a b:List UInt8):sx a b=decide (a=b):=by
 by_cases h:a=b
 ·subst h;simp [Di]
 ·simp [Di,h]
theorem Fa (a b:List UInt8):Op.bin .eql [.str a,.str b]=some (.bool (decide (a=b))):=by
 simp only [Op.bin,iH,jD,xdn]
theorem EL (a b:List UInt8):Op.bin .neq [.str a,.str b]=some (.bool (decide (a ≠ b))):=by
 simp [Op.bin,iH,jD,xdn]
theorem pX (a b:List UInt8) (h:a.length+b.length<=140737488355328):Op.bin .add [.str a,.str b]=some (.str (a++b)):=by
 have:Nat.ble (a.length+b.length) 140737488355328=true:=by simpa using h
 simp [Op.bin,iH,jD,this]
theorem CB (s:List UInt8):Op.dj [.str s]=some (.int .i64 s.length):=by simp [Op.dj,ek,nU]
theorem xef (i:Nat) (l:List AV):Op.extract i [.tuple l]=l[i]?:=by simp [Op.extract,gM]
theorem EV (f n:Nat) (l:List AV):Op.bm f n l=some (.fn (.func f) (l.take n) (l.drop n)):=rfl
theorem ED (t:Nat) (v:AV):Op.cM t [v]=some (.iface t v):=rfl
theorem DD (off b o:Nat):Op.fieldAddr off [.ptr b o]=some (.ptr b (o+off)):=rfl
theorem DU (off:Nat) (l:List AV):Op.field off none [.agg l]=l[off]?:=by simp [Op.field,partAt,gM]
theorem Dl (q:Bool):aE true (some (.bool q))=some q:=by cases q<;>rfl
theorem Fi (q:Bool):aE false (some (.bool q))=some (!q):=by cases q<;>rfl
theorem Dm (b:Bool):aE b (some .undef)=some false:=rfl
theorem I5 (x:AV) (l:List AV):nth (x::l) 0=some x:=rfl
end
structure Fr (W:Nat->Prop) (H H':AHeap):Prop where
 next:H.next<=H'.next
 aj:∀ b,b<H.next -> ¬ W b->H'.get b=H.get b
def Em:Nat->Prop:=λ _=>False
def On (b:Nat):Nat->Prop:=λ x=>x=b
theorem Fr.refl {W:Nat->Prop} (H:AHeap):Fr W H H:=⟨qf _,λ _ _ _=>rfl⟩
theorem Fr.trans {W W':Nat->Prop} {H H1 H2:AHeap} (a:Fr W H H1) (b:Fr W' H1 H2) (h:∀ x,W' x->W x\/H.next<=x):Fr W H H2 :=
 ⟨xz a.next b.next,λ x hx hw=>by
  rw [b.aj x (qe hx a.next) (λ hw'=>(h x hw').elim hw (λ q=>by omega)),a.aj x hx hw]⟩
theorem Fr.em {W:Nat->Prop} {H H1 H2:AHeap} (a:Fr W H H1) (b:Fr Em H1 H2):Fr W H H2:=a.trans b λ _ h=>h.elim
theorem Fr.mono {W W':Nat->Prop} {H H':AHeap} (a:Fr W H H') (h:∀ x,x<H.next->W x->W' x):Fr W' H H':=⟨a.next,λ x hx hw=>a.aj x hx λ q=>hw (h x hx q)⟩
theorem xk (H:AHeap) (o:bg):(H.alloc o).next=H.next+1:=rfl
theorem FB (H:AHeap) (b:Nat) (o:bg):(H.set b o).next=H.next:=rfl
theorem Ap (H:AHeap) (b:Nat):(H.kill b).next=H.next:=rfl
theorem Fr.alloc {W:Nat->Prop} {H H1:AHeap} (a:Fr W H H1) (o:bg):Fr W H (H1.alloc o) :=
 ⟨Nat.le_succ_of_le a.next,λ x hx hw=>by rw [AHeap.bR,qc (by have:=a.next;omega),a.aj x hx hw]⟩
theorem Fr.set {W:Nat->Prop} {H H1:AHeap} (a:Fr W H H1) {b:Nat} (h:W b\/H.next<=b) (o:bg):Fr W H (H1.set b o) :=
 ⟨a.next,λ x hx hw=>by rw [AHeap.aI,qc (by rintro rfl;exact h.elim hw (λ q=>by omega)),a.aj x hx hw]⟩
theorem Fr.kill {W:Nat->Prop} {H H1:AHeap} (a:Fr W H H1) {b:Nat} (h:W b\/H.next<=b):Fr W H (H1.kill b) :=
 ⟨a.next,λ x hx hw=>by rw [AHeap.lR,qc (by rintro rfl;exact h.elim hw (λ q=>by omega)),a.aj x hx hw]⟩
theorem qy {H:AHeap} {b:Nat} {c:List AV} {e:Nat} {fz:Nat × Nat} {ow:Bool} (h:H.get b=some (.row c e fz ow)):H.bz b=some c:=by simp [AHeap.bz,h]
theorem qts {H:AHeap} {b m s:Nat} {c:List AV} {e:Nat} {fz:Nat × Nat} (h:H.get b=some (.grown m s c e fz)):H.bz b=some c:=by simp [AHeap.bz,h]
theorem xai {H H':AHeap} {b:Nat} (h:H'.get b=H.get b):H'.bz b=H.bz b:=by simp [AHeap.bz,h]
theorem Fr.cells {W:Nat->Prop} {H H':AHeap} (a:Fr W H H') {b:Nat} (hb:b<H.next) (hw:¬ W b):H'.bz b=H.bz b:=xai (a.aj b hb hw)
theorem j8 {H:AHeap} {b:Nat} {c:List AV} (h:H.bz b=some c) (o:Nat):Op.aa [.ptr b o] H=c[o]?:=by simp [Op.aa,AHeap.aa,h,gM]
theorem mg {H:AHeap} {b:Nat} {c:List AV} (h:H.bz b=some c) {o n:Nat} (hn:o+n<=c.length):Op.au n [.ptr b o] H=some (.agg ((c.drop o).take n)):=by
 simp only [Op.au,AHeap.au,h,qd,mB];rw [qk (by omega)];rfl
def Sl (H:AHeap) (size:Nat) (v:AV) (n:Nat) (cells:List AV):Prop :=
 cells.length=n*size/\match v with
 | .nils=>n=0
 | .slice b o m c=>m=n/\n<=c/\(n=0\/b<H.next /\ ∃ all,H.bz b=some all/\dL all o (n*size)=some cells)
 | .gslice b i m s alt k=>k=n/\s=size/\i+n<=m/\(n=0\/b<H.next /\ ∃ all,H.bz b=some all/\dL all (i*size) (n*size)=some cells)
 | .eslice b=>n=0/\b<H.next
 | _=>False
def dK:AV->Nat
 | .slice b _ _ _=>b
 | .gslice b _ _ _ _ _=>b
 | .eslice b=>b
 | _=>0
def eU (size:Nat):AV->Nat->Nat
 | .slice _ o _ _,j=>o+j*size
 | .gslice _ i _ s _ _,j=>i*s+j*s
 | _,_=>0
theorem Sl.dE {H:AHeap} {size:Nat} {v:AV} {n:Nat} {cells:List AV} (h:Sl H size v n cells):dE v=some n:=by
 obtain ⟨_,h⟩:=h;split at h
 ·subst h;rfl
 ·obtain ⟨rfl,_⟩:=h;rfl
 ·obtain ⟨rfl,_⟩:=h;rfl
 ·obtain ⟨rfl,_⟩:=h;rfl
 ·exact h.elim
theorem Sl.len {H:AHeap} {size:Nat} {v:AV} {n:Nat} {cells:List AV} (h:Sl H size v n cells):Op.aS [v]=some (.int .i64 n):=by
 obtain ⟨_,h⟩:=h;split at h
 ·subst h;rfl
 ·obtain ⟨rfl,_⟩:=h;rfl
 ·obtain ⟨rfl,_⟩:=h;rfl
 ·obtain ⟨rfl,_⟩:=h;rfl
 ·exact h.elim
theorem xZ {z:Int} {i n:Nat} (hz:z=i) (h:i<n):within z n=some i:=by
 subst hz;show cond (Nat.blt i n) (some i) none=some i;have:Nat.blt i n=true:=by simpa [mW] using h
 rw [this];rfl
theorem oQ {i j:Nat} (h:i ≠ j):Nat.beq i j=false:=by
 cases q:Nat.beq i j with
 | false=>rfl
 | true=>exact (h (HX q)).elim
theorem xP {i n:Nat} (h:i<n):Nat.blt i n=true:=by simpa [mW] using h
theorem mo {i n:Nat} (h:i<=n):Nat.ble i n=true:=by simpa using h
theorem Sl.idx {H:AHeap} {size:Nat} {v:AV} {n:Nat} {cells:List AV} (h:Sl H size v n cells) {i:Nat} (hi:i<n) {z:Int} (hz:z=i) (k:IntKind) :
 Op.aJ size [v,.int k z]=some (.ptr (dK v) (eU size v i)):=by
 obtain ⟨hl,h⟩:=h;split at h
 ·omega
 ·rename_i b o m c;obtain ⟨rfl,hc,h⟩:=h;have h1:=xP hi;simp [Op.aJ,Am.dE,xZ hz hi,elemAt,h1,dK,eU]
 ·rename_i b j m s alt k;obtain ⟨rfl,rfl,hm,h⟩:=h;have h1:=xP hi;have h2:=xP (show j+i<m by omega);simp [Op.aJ,Am.dE,xZ hz hi,elemAt,h1,h2,dK,eU]
 ·omega
 ·exact h.elim
theorem Hi {α:Type} {l r:List α} {o n:Nat} (h:dL l o n=some r):n<=l.length-o/\r=(l.drop o).take n:=by
 rw [mB] at h;split at h
 ·rename_i hn;injection h with h;exact ⟨hn,h.symm⟩
 ·cases h
theorem Sl.at {H:AHeap} {size:Nat} {v:AV} {n:Nat} {cells:List AV} (hs0:0<size) (h:Sl H size v n cells) {i:Nat} (hi:i<n) :
 dK v<H.next /\ ∃ all,H.bz (dK v)=some all/\eU size v i+size<=all.length /\ ∀ j,j<size->all[eU size v i+j]? = cells[i*size+j]?:=by
 obtain ⟨hl,h⟩:=h;have hps:0<n*size:=Nat.mul_pos (by omega) hs0;have hsz:i*size+size<=n*size:=by rw [<-qI];exact jm _ hi
 split at h
 ·omega
 ·rename_i b o m c;obtain ⟨rfl,hc,h⟩:=h;rcases h with h|⟨hb,all,h1,h2⟩
  ·omega
  obtain ⟨h3,rfl⟩:=Hi h2;refine ⟨hb,all,h1,?_,λ j hj=>?_⟩
  ·simp only [eU];simp at hl;omega
  ·simp only [eU];rw [vx,qk (by omega),vw];congr 1;omega
 ·rename_i b q m s alt k;obtain ⟨rfl,rfl,hm,h⟩:=h;rcases h with h|⟨hb,all,h1,h2⟩
  ·omega
  obtain ⟨h3,rfl⟩:=Hi h2;refine ⟨hb,all,h1,?_,λ j hj=>?_⟩
  ·simp only [eU];simp at hl;omega
  ·simp only [eU];rw [vx,qk (by omega),vw];congr 1;omega
 ·omega
 ·exact h.elim
theorem Sl.fr {H H':AHeap} {W:Nat->Prop} {size:Nat} {v:AV} {n:Nat} {cells:List AV} (h:Sl H size v n cells) (f:Fr W H H') (hw:n=0 \/ ¬ W (dK v)):Sl H' size v n cells:=by
 obtain ⟨hl,h⟩:=h;refine ⟨hl,?_⟩;split at h
 ·exact h
 ·obtain ⟨h1,h2,h3⟩:=h;refine ⟨h1,h2,?_⟩;rcases h3 with h3|⟨hb,all,h3,h4⟩
  ·exact .inl h3
  ·rcases hw with hw|hw
   ·exact .inl hw
   ·exact .inr ⟨qe hb f.next,all,by rw [f.cells hb hw];exact h3,h4⟩
 ·obtain ⟨h1,h2,h0,h3⟩:=h;refine ⟨h1,h2,h0,?_⟩;rcases h3 with h3|⟨hb,all,h3,h4⟩
  ·exact .inl h3
  ·rcases hw with hw|hw
   ·exact .inl hw
   ·exact .inr ⟨qe hb f.next,all,by rw [f.cells hb hw];exact h3,h4⟩
 ·exact ⟨h.1,qe h.2 f.next⟩
 ·exact h.elim
theorem Sl.em {H H':AHeap} {size:Nat} {v:AV} {n:Nat} {cells:List AV} (h:Sl H size v n cells) (f:Fr Em H H'):Sl H' size v n cells:=h.fr f (.inr id)
theorem q87 {H:AHeap} {b o n:Nat} {all:List AV} (h:H.bz b=some all) (hn:n<=all.length-o):H.au b o n=some ((all.drop o).take n):=by
 simp only [AHeap.au,h,qd,mB,qk hn]
theorem Sl.first {H:AHeap} {size:Nat} {v:AV} {n:Nat} {cells:List AV} (h:Sl H size v n cells):firstCells H size n v=some cells:=by
 obtain ⟨hl,h⟩:=h;split at h
 ·subst h;simp at hl;subst hl;rfl
 ·rename_i b o m c;obtain ⟨rfl,hc,h⟩:=h;rcases h with rfl|⟨hb,all,h1,h2⟩
  ·simp at hl;subst hl;rfl
  ·by_cases hn:m=0
   ·subst hn;simp at hl;subst hl;rfl
   ·have:Nat.beq m 0=false:=oQ hn;simp only [firstCells,this,xa,AHeap.au,h1,qd,h2]
 ·rename_i b i m s alt k;obtain ⟨rfl,rfl,hm,h⟩:=h;rcases h with rfl|⟨hb,all,h1,h2⟩
  ·simp at hl;subst hl;rfl
  ·by_cases hn:k=0
   ·subst hn;simp at hl;subst hl;rfl
   ·have:Nat.beq k 0=false:=oQ hn;have h3:=xP (show i<m by omega);simp [firstCells,this,h3,AHeap.au,h1,h2]
 ·obtain ⟨rfl,_⟩:=h;simp at hl;subst hl;rfl
 ·exact h.elim
def cU {α:Type} (enc:α->List AV) (size:Nat) (H:AHeap) (v:AV) (xs:List α):Prop:=Sl H size v xs.length (xs.flatMap enc)
section
variable {α:Type} {enc:α->List AV} {size:Nat} {H H':AHeap} {v:AV} {xs:List α}
theorem cU.len (h:cU enc size H v xs):Op.aS [v]=some (.int .i64 xs.length):=Sl.len h
theorem cU.fr {W:Nat->Prop} (h:cU enc size H v xs) (f:Fr W H H') (hw:¬ W (dK v)):cU enc size H' v xs:=Sl.fr h f (.inr hw)
theorem cU.em (h:cU enc size H v xs) (f:Fr Em H H'):cU enc size H' v xs:=Sl.em h f
theorem Jg (hs:∀ x,(enc x).length=size):∀ (xs:List α) {i:Nat} {x:α},xs[i]? = some x -> ∀ {j:Nat},j<size->(xs.flatMap enc)[i*size+j]? = (enc x)[j]?
 | [],i,x,h,j,hj=>by simp at h
 | y::ys,0,x,h,j,hj=>by
  simp at h;subst h;rw [jl,xi (by rw [hs];omega)];simp
 | y::ys,i+1,x,h,j,hj=>by
  simp only [zd] at h;rw [jl,xn (by rw [hs,qI];omega),hs,<-Jg hs ys h hj];congr 1;rw [qI];omega
theorem BH {i:Nat} {x:α} (h:xs[i]? = some x):i<xs.length:=(qv.1 h).1
theorem cU.idx (h:cU enc size H v xs) {i:Nat} {x:α} (hx:xs[i]? = some x) {z:Int} (hz:z=i) (k:IntKind):Op.aJ size [v,.int k z]=some (.ptr (dK v) (eU size v i)) :=
 Sl.idx h (BH hx) hz k
theorem cU.aa (hs:∀ x,(enc x).length=size) (h:cU enc size H v xs) {i:Nat} {x:α} (hx:xs[i]? = some x) {j:Nat} (hj:j<size):Op.aa [.ptr (dK v) (eU size v i+j)] H=(enc x)[j]?:=by
 obtain ⟨_,all,h1,h2,h3⟩:=Sl.at (by omega) h (BH hx);rw [j8 h1,h3 j hj,Jg hs xs hx hj]
theorem cU.gU (hs:∀ x,(enc x).length=size) (h:cU enc size H v xs) {i:Nat} {x:α} (hx:xs[i]? = some x) (hj:0<size):Op.aa [.ptr (dK v) (eU size v i)] H=(enc x)[0]?:=h.aa hs hx hj
theorem cU.au (hs:∀ x,(enc x).length=size) (hs0:0<size) (h:cU enc size H v xs) {i:Nat} {x:α} (hx:xs[i]? = some x):Op.au size [.ptr (dK v) (eU size v i)] H=some (.agg (enc x)):=by
 obtain ⟨_,all,h1,h2,h3⟩:=Sl.at hs0 h (BH hx);rw [mg h1 h2];congr 2;refine Df λ j=>?_
 by_cases hj:j<size
 ·rw [vx,qk hj,vw,h3 j hj,Jg hs xs hx hj]
 ·rw [je (by simp;omega),je (by rw [hs];omega)]
end
def Own (H:AHeap) (e size:Nat) (v:AV) (n:Nat) (cells:List AV):Prop :=
 cells.length=n*size/\(n=0/\(v=.nils \/ ∃ b,v=.slice b 0 0 0/\b<H.next) \/ ∃ b,v=.gslice b 0 n size 0 n/\b<H.next/\H.get b=some (.grown n size cells e (0,0)))
def bL (v:AV):Nat->Prop:=λ x=>v ≠ .nils/\x=dK v
theorem Own.nil (H:AHeap) (e size:Nat):Own H e size .nils 0 []:=⟨by simp,.inl ⟨rfl,.inl rfl⟩⟩
theorem Own.sl {H:AHeap} {e size:Nat} {v:AV} {n:Nat} {cells:List AV} (h:Own H e size v n cells):Sl H size v n cells:=by
 obtain ⟨hl,⟨rfl,rfl|⟨b,rfl,hb⟩⟩|⟨b,rfl,h1,h2⟩⟩:=h
 ·exact ⟨hl,rfl⟩
 ·exact ⟨hl,rfl,qf _,.inl rfl⟩
 ·refine ⟨hl,rfl,rfl,by omega,.inr ⟨h1,cells,qts h2,?_⟩⟩;rw [mB,qk (by simp [hl])];simp [<-hl]
theorem Own.fr {H H':AHeap} {W:Nat->Prop} {e size:Nat} {v:AV} {n:Nat} {cells:List AV} (h:Own H e size v n cells) (f:Fr W H H') (hw:∀ x,bL v x -> ¬ W x):Own H' e size v n cells:=by
 obtain ⟨hl,⟨h0,h|⟨b,rfl,hb⟩⟩|⟨b,rfl,h1,h2⟩⟩:=h
 ·exact ⟨hl,.inl ⟨h0,.inl h⟩⟩
 ·exact ⟨hl,.inl ⟨h0,.inr ⟨b,rfl,qe hb f.next⟩⟩⟩
 ·exact ⟨hl,.inr ⟨b,rfl,qe h1 f.next,by rw [f.aj b h1 (hw b ⟨by simp,rfl⟩)];exact h2⟩⟩
theorem Own.em {H H':AHeap} {e size:Nat} {v:AV} {n:Nat} {cells:List AV} (h:Own H e size v n cells) (f:Fr Em H H'):Own H' e size v n cells:=h.fr f λ _ _ h=>h
theorem Own.lt {H:AHeap} {e size:Nat} {v:AV} {n:Nat} {cells:List AV} (h:Own H e size v n cells):∀ x,bL v x->x<H.next:=by
 rintro x ⟨h1,rfl⟩;obtain ⟨hl,⟨h0,h|⟨b,rfl,hb⟩⟩|⟨b,rfl,h1,h2⟩⟩:=h
 ·exact (h1 h).elim
 ·exact hb
 ·exact h1
theorem Sl.one {H:AHeap} {size:Nat} {v:AV} {n:Nat} {cells:List AV} (h:Sl H size v n cells):aD v=true:=by
 obtain ⟨_,h⟩:=h;cases v<;>first|rfl|exact h.elim
theorem Ox {n bytes:Nat} (h1:n*bytes<=140737488355328) (h2:n<=140737488355328):fits n bytes=true:=by
 simp [fits,h1,h2]
theorem q0y {H:AHeap} {e size bytes:Nat} {v:AV} {n:Nat} {cells:List AV} (h:Own H e size v n cells) {x:AV} {k:Nat} {new:List AV} (hx:Sl H size x k new) (hnew:bh new=true) (hs:0<size)
 (hf:(n+k)*bytes<=140737488355328) (hf':n+k<=140737488355328) {K:Bool->AV->AHeap->Prop} {m:Bool}
 (hk:∀ v' H',Own H' e size v' (n+k) (cells++new)->Fr (bL v) H H'->(∀ b,bL v' b->bL v b\/H.next<=b)->K ai v' H'):kN m (Op.append e size bytes [v,x] H) K:=by
 have hfit:=Ox hf hf';have hlen:new.length=k*size:=hx.1;have hs':=xP hs;have e1:∀ n,Nat.beq n n=true:=λ n=>by simp
 simp only [Op.append,hx.dE,hx.first,qd,hnew,ql];obtain ⟨hl,⟨rfl,rfl|⟨b,rfl,hb⟩⟩|⟨b,rfl,h1,h2⟩⟩:=h
 ·simp only [oJ,FH] at hl;subst hl
  by_cases hk0:k=0
  ·subst hk0;simp at hlen;subst hlen;exact hk .nils H (Own.nil H e size) (Fr.refl H) λ b hb=>.inl hb
  ·have h0:Nat.beq k 0=false:=oQ hk0;simp only [dk,h0,xa,x6] at hfit ⊢;simp only [hfit,hs',kp,ql,cX,kN];refine hk _ _ ⟨by simpa using hlen,.inr ⟨H.next,by simp,by rw [xk];omega,?_⟩⟩ ((Fr.refl H).alloc _) λ b hb=>.inr (by rw [hb.2];exact qf _);rw [AHeap.bR,qk rfl];simp
 ·simp only [oJ,FH] at hl;subst hl
  by_cases hk0:k=0
  ·subst hk0;simp at hlen;subst hlen;simp only [dk,jv,mo (qf 0),ql,e1,kN];exact hk _ H ⟨by simp,.inl ⟨rfl,.inr ⟨b,rfl,hb⟩⟩⟩ (Fr.refl H) λ b hb=>.inl hb
  ·have h0:Nat.beq k 0=false:=oQ hk0;have h3:Nat.ble k 0=false:=by cases hq:Nat.ble k 0 with|false=>rfl|true=>rw [wq] at hq;omega
   have h4:firstCells H size 0 (.slice b 0 0 0)=some []:=rfl;simp only [dk,x6,h3,xa] at hfit ⊢;simp only [hfit,mo (ja k),hs',kp,ql,h4,qd,mb,zn,cX,kN];refine hk _ _ ⟨by simpa using hlen,.inr ⟨H.next,by simp,by rw [xk];omega,?_⟩⟩ ((Fr.refl H).alloc _) λ b hb=>.inr (by rw [hb.2];exact qf _);rw [AHeap.bR,qk rfl];simp
 ·by_cases hk0:k=0
  ·subst hk0;simp at hlen;subst hlen;simp only [dk,Nat.beq,ql,x6,mo (qf n),kN];refine hk _ _ ⟨by simpa using hl,.inr ⟨b,rfl,h1,by simpa using h2⟩⟩ (Fr.refl H) λ b hb=>.inl hb
  ·have h0:Nat.beq k 0=false:=oQ hk0;have h3:Nat.ble (0+n+k) n=false:=by cases hq:Nat.ble (0+n+k) n with|false=>rfl|true=>rw [wq] at hq;omega
   simp only [dk,h0,xa,e1,x6,mo (qf n),hs',kp,ql] at h3 ⊢;simp only [h3,xa,hfit,ql,h2,e1,kp,Nat.beq,mo (ja (n*size)),cX,kN];refine hk _ _ ⟨by simp [hl,hlen,nW],.inr ⟨H.next,by simp [Ap],by rw [xk,Ap];omega,?_⟩⟩ (((Fr.refl H).kill (.inl ⟨by simp,rfl⟩)).alloc _) λ b hb=>.inr (by rw [hb.2];exact qf _);rw [AHeap.bR,Ap,qk rfl,mb]
theorem xE (e n:Nat) (zero:List AV) (v:AV) (hz:zero.length=n) (hv:v.cells.length=n):Op.buildSlice e 1 zero [(0,n)] [v]=some (.row v.cells e (0,0) true,Op.sliceTo 1 1):=by
 have e1:∀ n,Nat.beq n n=true:=λ n=>by simp
 simp only [Op.buildSlice,lh,mb,kh,cY,nU,hv,e1,ql,sd,x6,hz,qk (qf n),zt,zn,qd];rw [kc (by omega)];simp
theorem DA {H:AHeap} {size e:Nat} {cells:List AV} (hc:cells.length=size):Sl (H.alloc (.row cells e (0,0) true)) size (Op.sliceTo 1 1 H.next) 1 cells:=by
 refine ⟨by simp [hc],rfl,qf 1,.inr ⟨by rw [xk];omega,cells,qy (by rw [AHeap.bR,qk rfl]),?_⟩⟩;rw [mB,qk (by simp [hc])];simp [<-hc]
theorem Fe.intro {W:St->aX->Prop} {aj:Option (List Nat)} {st:St} {Q:aX} (I:Nat->St->Prop) (n:Nat) (h0:I n st)
 (h:∀ n st,I n st->W (gg aj st) λ e st'=>match e with
  | .normal=>∃ m,m<n/\I m st'
  | e=>Q e st'):Fe W aj st Q:=⟨I,⟨n,h0⟩,h⟩
end Go.Am
namespace Go.Am
theorem GV (k t:Nat) (v:AV) (E:Env) (tm:T AV):iD ((k,v)::E) t tm=if k=t then some v else iD E t tm:=by
 rw [<-rE,q14,T.aI,rE]
theorem BB (a:AV):fj 0 [a] .nil=cH [(0,a)] .nil:=rfl
theorem Js (a b:AV):fj 0 [a,b] .nil=cH [(1,b),(0,a)] .nil:=rfl
theorem fe (id l:Nat) (st:St) (Q:aX):yZ id Q (.exit l) st=if id=l then Q .normal st else Q (.exit l) st:=by
 rw [vJ]
 by_cases h:id=l
 ·subst h;simp
 ·rw [qc h,oQ h];rfl
theorem Gl (AP:aO) (rs:List di) (Q:bE->Option ah->AHeap->Prop) (tm:T AV) (up:Option ah) (H:AHeap) :
 J7 AP rs Q .ret ⟨tm,[],up,H⟩=BI ai (cO H tm rs) λ _ l=>Q (.ret (dt l)) up H:=by
 show bJ ai _ _=_;refine Eq.symm ?_;exact iw λ g v=>rfl
theorem FK (AP:aO) (rs:List di) (Q:bE->Option ah->AHeap->Prop) (tm:T AV) (up:Option ah) (H:AHeap) :
 J7 AP rs Q .normal ⟨tm,[],up,H⟩=BI ai (cO H tm rs) λ _ l=>Q (.ret (dt l)) up H:=by
 show bJ ai _ _=_;refine Eq.symm ?_;exact iw λ g v=>rfl
theorem F7 (AP:aO) (rs:List di) (Q:bE->Option ah->AHeap->Prop) (tm:T AV) (up:Option ah) (H:AHeap) (c:ah) :
 J7 AP rs Q (.panic c) ⟨tm,[],up,H⟩=Q (.panic c) up H:=propext zg
theorem GR (H:AHeap) (tm:T AV):cO H tm []=some []:=rfl
theorem D4 (H:AHeap) (tm:T AV) (t:Nat) (rs:List di):cO H tm (.tmp t::rs)=(tm.get t).bind λ v=>(cO H tm rs).bind λ vs=>some (v::vs):=rfl
theorem CY (H:AHeap) (tm:T AV) (t:Nat) (rs:List di):cO H tm (.jL t::rs)=(((tm.get t).bind λ v=>Op.aa [v] H)).bind λ v=>(cO H tm rs).bind λ vs=>some (v::vs):=by
 simp only [cO,FF];congr 1;cases tm.get t with
 | none=>rfl
 | some v=>cases v<;>rfl
theorem Dk (H:AHeap) (tm:T AV) (n t:Nat) (rs:List di):cO H tm (.dA n t::rs)=(((tm.get t).bind λ v=>Op.au n [v] H)).bind λ v=>(cO H tm rs).bind λ vs=>some (v::vs):=by
 simp only [cO,FF];congr 1;cases tm.get t with
 | none=>rfl
 | some v=>cases v<;>rfl
theorem pJ (v:AV):dt [v]=v:=rfl
theorem oU:dt []=.tuple []:=rfl
theorem pe (a b:AV) (l:List AV):dt (a::b::l)=.tuple (a::b::l):=rfl
theorem GZ (st:St):gg none st=st:=rfl
theorem kR (b:Nat):Op.ptrTo b=.ptr b 0:=rfl
theorem Fo (e:Nat) (z:List AV):Op.alloc e z []=some (.row z e (0,0) true,Op.ptrTo):=rfl
theorem mN (e:Nat) (v:AV):Op.box e [v]=some (.row v.cells e (0,0) true,Op.ptrTo):=rfl
theorem mX (tm:T AV) (az:List aC) (up:Option ah) (H:AHeap):(St.mk tm az up H).tm=tm:=rfl
theorem Fp (tm:T AV) (az:List aC) (up:Option ah) (H:AHeap):(St.mk tm az up H).az=az:=rfl
theorem mI (tm:T AV) (az:List aC) (up:Option ah) (H:AHeap):(St.mk tm az up H).up=up:=rfl
theorem qQ (tm:T AV) (az:List aC) (up:Option ah) (H:AHeap):(St.mk tm az up H).H=H:=rfl
structure sJ where
 kind:Int
 time:Int
 core:Int
 block:Int
 AZ:Int
 lane:Int
 addr:Int
 value:Int
 code:Int
deriving DecidableEq
def sJ.enc (x:sJ):List AV:=[.int .i64 x.kind,.int .i64 x.time,.int .i64 x.core,.int .i64 x.block,.int .i64 x.AZ,.int .i64 x.lane,.int .i64 x.addr,.int .u64 x.value,.int .i64 x.code]
theorem sJ.len (x:sJ):x.enc.length=9:=rfl
end Go.Am
namespace Go.Am
theorem T.nc {α:Type} (v v':Option α):∀ (p:List Bool) (t:T α),T.kH v p (T.kH v' p t)=T.kH v p t
 | [],t=>rfl
 | b::p,t=>by cases b<;>simp [T.kH,T.l,T.r,T.val,T.nc v v' p]
theorem q4d (H:AHeap) (o o':bg):(H.alloc o).set H.next o'=H.alloc o':=by
 simp only [AHeap.alloc,AHeap.set,T.set,T.put,T.nc]
theorem qp (H:AHeap) (o:bg):(H.alloc o).get H.next=some o:=by rw [AHeap.bR,qk rfl]
theorem rN {H:AHeap} {b:Nat} (h:b<H.next) (o:bg):(H.alloc o).get b=H.get b:=by rw [AHeap.bR,qc (by omega)]
theorem xd (H:AHeap) (b:Nat) (o:bg):(H.set b o).get b=some o:=by rw [AHeap.aI,qk rfl]
theorem sw {H:AHeap} {b b':Nat} (h:b ≠ b') (o:bg):(H.set b o).get b'=H.get b':=by rw [AHeap.aI,qc h]
theorem y9 {H:AHeap} {b:Nat} {c:List AV} {e:Nat} (h:H.get b=some (.row c e (0,0) true)) {o n:Nat} {v:AV} (hv:v.cells.length=n) (hn:o+n<=c.length) (h1:bh v.cells=true) :
 Op.store n [.ptr b o,v] H=some (.undef,H.set b (.row (c.take o++v.cells++c.drop (o+n)) e (0,0) true)):=by
 have e1:∀ n,Nat.beq n n=true:=λ n=>by simp
 simp only [Op.store,nU,hv,e1,ql,AHeap.store,h1,h];have:cC (0,0) o n=true:=by simp [cC]
 simp only [this,ql,sd,hv,qk hn,qd]
theorem q8a {H:AHeap} {b m s:Nat} {c:List AV} {e:Nat} (h:H.get b=some (.grown m s c e (0,0))) {o n:Nat} {v:AV} (hv:v.cells.length=n) (hn:o+n<=c.length) (h1:bh v.cells=true) :
 Op.store n [.ptr b o,v] H=some (.undef,H.set b (.grown m s (c.take o++v.cells++c.drop (o+n)) e (0,0))):=by
 have e1:∀ n,Nat.beq n n=true:=λ n=>by simp
 simp only [Op.store,nU,hv,e1,ql,AHeap.store,h1,h];have:cC (0,0) o n=true:=by simp [cC]
 simp only [this,ql,sd,hv,qk hn,qd]
theorem JK (H:AHeap) (z:List AV) (e n:Nat) (v:AV) (hz:z.length=n) (hv:v.cells.length=n) (h1:bh v.cells=true) :
 Op.store n [.ptr H.next 0,v] (H.alloc (.row z e (0,0) true))=some (.undef,H.alloc (.row v.cells e (0,0) true)):=by
 rw [y9 (qp H _) hv (by omega) h1,q4d];simp only [zt,zn,x6,kc (Nat.le_of_eq hz),kh]
theorem nD (H:AHeap) (c:List AV) (e:Nat) (fz:Nat × Nat) (ow:Bool) (o:Nat):Op.aa [.ptr H.next o] (H.alloc (.row c e fz ow))=c[o]?:=j8 (qy (qp H _)) o
theorem xd0 (H:AHeap) (c:List AV) (e:Nat) (fz:Nat × Nat) (ow:Bool) (n:Nat) (hn:c.length=n):Op.au n [.ptr H.next 0] (H.alloc (.row c e fz ow))=some (.agg c):=by
 rw [mg (qy (qp H _)) (by omega)];simp [<-hn]
def dH {α:Type} (enc:α->List AV) (e size:Nat) (H:AHeap) (v:AV) (xs:List α):Prop:=Own H e size v xs.length (xs.flatMap enc)
structure iN {α:Type} (enc:α->List AV) (e size:Nat) (H0 H:AHeap) (v:AV) (xs:List α):Prop where
 own:dH enc e size H v xs
 fr:Fr Em H0 H
 fresh:∀ b,bL v b->H0.next<=b
section
variable {α:Type} {enc:α->List AV} {e size:Nat} {H0 H H':AHeap} {v:AV} {xs:List α}
theorem cU.one (h:cU enc size H v xs):aD v=true:=Sl.one h
theorem iN.nil (H:AHeap):iN enc e size H H .nils ([]:List α):=⟨Own.nil H e size,Fr.refl H,λ b h=>(h.1 rfl).elim⟩
theorem iN.sl (h:iN enc e size H0 H v xs):cU enc size H v xs:=Own.sl h.own
theorem dH.sl (h:dH enc e size H v xs):cU enc size H v xs:=Own.sl h
theorem iN.em (h:iN enc e size H0 H v xs) (f:Fr Em H H'):iN enc e size H0 H' v xs:=⟨Own.em h.own f,h.fr.em f,h.fresh⟩
theorem iN.len (h:iN enc e size H0 H v xs):Op.aS [v]=some (.int .i64 xs.length):=h.sl.len
theorem iN.step (h:iN enc e size H0 H v xs) {v':AV} {ys:List α} (h1:dH enc e size H' v' ys) (h2:Fr (bL v) H H') (h3:∀ b,bL v' b->bL v b\/H.next<=b):iN enc e size H0 H' v' ys :=
 ⟨h1,h.fr.trans h2 λ x hx=>.inr (h.fresh x hx),λ b hb=>(h3 b hb).elim (h.fresh b) λ q=>xz h.fr.next q⟩
theorem iN.P8 (h:iN enc e size H0 H v xs) {bytes:Nat} {x:AV} {ys:List α} (hx:cU enc size H x ys) (h1:∀ a,bh (enc a)=true) (h0:0<size)
 (hf:(xs.length+ys.length)*bytes<=140737488355328) (hf':xs.length+ys.length<=140737488355328) {K:Bool->AV->AHeap->Prop} {m:Bool}
 (hk:∀ v' H',iN enc e size H0 H' v' (xs++ys)->Fr (bL v) H H'->(∀ b,bL v' b->bL v b\/H.next<=b)->K ai v' H'):kN m (Op.append e size bytes [v,x] H) K:=by
 refine q0y h.own hx ?_ h0 hf hf' λ v' H' h1 h2 h3=>hk v' H' (h.step ?_ h2 h3) h2 h3
 ·rw [mU,List.all_flatMap];simp only [yP];intro a _;have:=h1 a;rw [mU] at this;simpa using this
 ·unfold dH;rw [qg,Eo];exact h1
theorem NU {f:α->List AV} (hs:∀ x,(f x).length=size):∀ (xs:List α) {i:Nat} {x:α},xs[i]? = some x -> ∀ (y:α),(xs.set i y).flatMap f=(xs.flatMap f).take (i*size)++f y++(xs.flatMap f).drop (i*size+size)
 | [],i,x,h,y=>by simp at h
 | z::zs,0,x,h,y=>by
  simp at h;subst h;simp only [List.set_cons_zero,jl,oJ,zt,zn,x6];rw [LC (by rw [hs];omega),kc (by rw [hs];omega),zn]
 | z::zs,i+1,x,h,y=>by
  simp only [zd] at h;have e1:(f z++zs.flatMap f).take ((i+1)*size)=f z++(zs.flatMap f).take (i*size):=by
   rw [show (i+1)*size=(f z).length+i*size from by rw [hs,qI];omega,List.take_length_add_append]
  have e2:(f z++zs.flatMap f).drop ((i+1)*size+size)=(zs.flatMap f).drop (i*size+size):=by
   rw [show (i+1)*size+size=(f z).length+(i*size+size) from by rw [hs,qI];omega,List.drop_length_add_append]
  rw [List.set_cons_succ,jl,jl,NU hs zs h y,e1,e2];simp only [qt]
theorem Ih (hs:∀ x,(enc x).length=size) (l:List α):(l.flatMap enc).length=l.length*size:=by
 induction l with
 | nil=>simp
 | cons a l ih=>rw [jl,qg,hs,ih,qn,qI];omega
theorem xex {L E:List AV} {k0 j:Nat} {u:AV} (hE:E.length=size) (hj:j<size) (hk:k0+size<=L.length) (h:∀ r,r<size->L[k0+r]? = E[r]?) :
 L.take k0++E.set j u++L.drop (k0+size)=L.set (k0+j) u:=by
 refine Df λ k=>?_;have h1:(L.take k0).length=k0:=by rw [ky];omega
 rw [qt,List.getElem?_set];rcases kg k k0 with q|q
 ·rw [xi (by omega),vx,qk q,qc (by omega)]
 ·rw [xn (by omega),h1];obtain ⟨r,rfl⟩:∃ r,k=k0+r:=⟨k-k0,by omega⟩
  rw [show k0+r-k0=r from by omega];rcases kg r size with q'|q'
  ·rw [xi (by rw [xm];omega),List.getElem?_set]
   by_cases hjr:j=r
   ·subst hjr;rw [qk rfl,qk rfl,qk (by omega),qk (by omega)]
   ·rw [qc hjr,qc (by omega),h r q']
  ·rw [xn (by rw [xm];omega),xm,vw,qc (by omega)];congr 1;omega
theorem dH.pj (hs:∀ x,(enc x).length=size) (h:dH enc e size H v xs) {i:Nat} {x y:α} (hx:xs[i]? = some x) {j:Nat} (hj:j<size) {u:AV} (hu:aD u=true) (hy:enc y=(enc x).set j u) :
 ∃ H',Op.store 1 [.ptr (dK v) (eU size v i+j),u] H=some (.undef,H')/\dH enc e size H' v (xs.set i y)/\Fr (bL v) H H':=by
 obtain ⟨hl,h|⟨b,rfl,h1,h2⟩⟩:=h
 ·rw [FH.1 h.1] at hx;simp at hx
 ·have hi:=BH hx;have hb:(i+1)*size<=xs.length*size:=jm _ hi;rw [qI] at hb;have hc:u.cells=[u]:=by cases u<;>first|rfl|cases hu
  have hst:=q8a h2 (o:=i*size+j) (n:=1) (v:=u) (by rw [hc];rfl) (by omega) (by rw [hc,mU];simpa using hu);have ho:eU size (AV.gslice b 0 xs.length size 0 xs.length) i=i*size:=by simp [eU]
  rw [ho];refine ⟨_,hst,⟨?_,.inr ⟨b,?_,h1,?_⟩⟩,(Fr.refl H).set (.inl ⟨by simp,rfl⟩) _⟩
  ·rw [xm,Ih hs,xm]
  ·rw [xm]
  ·rw [xm,xd,NU hs xs hx,hy,hc,xex (L:=xs.flatMap enc) (E:=enc x) (hs x) hj (by omega) (λ r hr=>Jg hs xs hx hr),ym,qk (by omega)];simp
end
end Go.Am
namespace Go.Am
theorem sg {k mx d:Nat} {z:Int} (hz:z=k) (h:k<=mx) (kk:IntKind):bound (some (.int kk z)) d mx=some k:=by
 subst hz;show cond (Nat.ble k mx) (some k) none=some k;rw [mo h];rfl
theorem Sl.from {H:AHeap} {size:Nat} {v:AV} {n:Nat} {cells:List AV} (h:Sl H size v n cells) {k:Nat} (hk:k<=n) {z:Int} (hz:z=k) (kk:IntKind) :
 ∃ v',Op.bc size [some 0,none,none] [v,.int kk z]=some v'/\Sl H size v' (n-k) (cells.drop (k*size))/\(v'=.nils\/dK v'=dK v):=by
 obtain ⟨hl,h⟩:=h;have hlen:(cells.drop (k*size)).length=(n-k)*size:=by rw [tY,hl,Nat.sub_mul]
 have hkn:k*size<=n*size:=jm _ hk;have hsub:(n-k)*size=n*size-k*size:=Nat.sub_mul n k size;split at h
 ·subst h;have:k=0:=by omega
  subst this;refine ⟨.nils,?_,⟨hlen,rfl⟩,.inl rfl⟩;have hbn:bound none 0 0=some 0:=rfl;simp [Op.bc,arg,gM,du,hbn,sg hz (qf 0)]
 ·rename_i b o m c;obtain ⟨rfl,hc,h⟩:=h;have hb1:∀ d m,bound none d m=some d:=λ _ _=>rfl;refine ⟨.slice b (cond (Nat.beq c k) o (o+k*size)) (m-k) (c-k),by simp [Op.bc,arg,gM,du,hb1,sg hz hk],⟨hlen,rfl,by omega,?_⟩,.inr rfl⟩;rcases h with h|⟨hb,all,h1,h2⟩
  ·left;omega
  ·by_cases he:c=k
   ·left;omega
   ·right;obtain ⟨h3,rfl⟩:=Hi h2;refine ⟨hb,all,h1,?_⟩;rw [oQ he,xa,mB,qk (by omega),List.drop_take,Co];simp [hsub]
 ·rename_i b i m s alt q;obtain ⟨rfl,rfl,hm,h⟩:=h;have e1:∀ n,Nat.beq n n=true:=λ n=>by simp
  have hb1:∀ d m,bound none d m=some d:=λ _ _=>rfl;have hq:=mo (show q<=m-i by omega);have him:=mo (show i<=m by omega);refine ⟨.gslice b (i+k) m s (cond (Nat.beq k 0) alt (i*s)) (q-k),by simp only [Op.bc,arg,gM,kq,qd,du,hb1,sg hz hk,e1,him,hq,kp,ql],⟨hlen,rfl,rfl,by omega,?_⟩,.inr rfl⟩;rcases h with h|⟨hb,all,h1,h2⟩
  ·left;omega
  ·right;obtain ⟨h3,rfl⟩:=Hi h2;refine ⟨hb,all,h1,?_⟩;rw [mB,qk (by rw [nW];omega),List.drop_take,Co,nW];simp [hsub]
 ·rename_i b;obtain ⟨rfl,hb⟩:=h;have:k=0:=by omega
  subst this;have hbn:bound none 0 0=some 0:=rfl;refine ⟨.eslice b,?_,⟨hlen,rfl,hb⟩,.inr rfl⟩;simp [Op.bc,arg,gM,du,hbn,sg hz (qf 0)]
 ·exact h.elim
theorem Sl.upto {H:AHeap} {size:Nat} {v:AV} {n:Nat} {cells:List AV} (h:Sl H size v n cells) {k:Nat} (hk:k<=n) {z:Int} (hz:z=k) (kk:IntKind) :
 ∃ v',Op.bc size [none,some 0,none] [v,.int kk z]=some v'/\Sl H size v' k (cells.take (k*size))/\(v'=.nils\/dK v'=dK v):=by
 obtain ⟨hl,h⟩:=h;have hkn:k*size<=n*size:=jm _ hk;have hlen:(cells.take (k*size)).length=k*size:=by rw [ky,hl];omega
 split at h
 ·subst h;have:k=0:=by omega
  subst this;refine ⟨.nils,?_,⟨hlen,rfl⟩,.inl rfl⟩;have hbn:bound none 0 0=some 0:=rfl;simp [Op.bc,arg,gM,du,hbn,sg hz (qf 0)]
 ·rename_i b o m c;obtain ⟨rfl,hc,h⟩:=h;have hb0:∀ h,bound none 0 h=some 0:=λ h=>rfl;have hb1:∀ d m,bound none d m=some d:=λ _ _=>rfl;refine ⟨.slice b (cond (Nat.beq c 0) o (o+0*size)) (k-0) (c-0),by simp only [Op.bc,arg,gM,kq,qd,du,sg hz (show k<=c by omega),hb0,hb1],⟨hlen,by omega,by omega,?_⟩,.inr rfl⟩;rcases h with h|⟨hb,all,h1,h2⟩
  ·left;omega
  ·right;obtain ⟨h3,rfl⟩:=Hi h2;refine ⟨hb,all,h1,?_⟩;have:cond (Nat.beq c 0) o (o+0*size)=o:=by cases Nat.beq c 0<;>simp
   rw [this,mB,qk (by omega),List.take_take,BO hkn]
 ·rename_i b i m s alt q;obtain ⟨rfl,rfl,hm,h⟩:=h;have e1:∀ n,Nat.beq n n=true:=λ n=>by simp
  have hb1:∀ d m,bound none d m=some d:=λ _ _=>rfl;have hq:=mo (show k<=m-i by omega);have him:=mo (show i<=m by omega);refine ⟨.gslice b (i+0) m s (cond (Nat.beq 0 0) alt (i*s)) (k-0),by simp only [Op.bc,arg,gM,kq,qd,du,hb1,sg hz (show k<=m-i by omega),e1,him,hq,kp,ql],⟨hlen,by omega,rfl,by omega,?_⟩,.inr rfl⟩;rcases h with h|⟨hb,all,h1,h2⟩
  ·left;omega
  ·right;obtain ⟨h3,rfl⟩:=Hi h2;refine ⟨hb,all,h1,?_⟩;rw [jv,mB,qk (by omega),List.take_take,BO hkn]
 ·rename_i b;obtain ⟨rfl,hb⟩:=h;have:k=0:=by omega
  subst this;have hbn:bound none 0 0=some 0:=rfl;refine ⟨.eslice b,?_,⟨hlen,rfl,hb⟩,.inr rfl⟩;simp [Op.bc,arg,gM,du,hbn,sg hz (qf 0)]
 ·exact h.elim
section
variable {α:Type} {enc:α->List AV} {size:Nat} {H H':AHeap} {v:AV} {xs:List α}
theorem qwp (hs:∀ x,(enc x).length=size):∀ (xs:List α) (k:Nat),(xs.flatMap enc).drop (k*size)=(xs.drop k).flatMap enc
 | [],k=>by simp
 | x::xs,0=>by simp
 | x::xs,k+1=>by
  rw [jl,show (k+1)*size=(enc x).length+k*size from by rw [hs,qI];omega,List.drop_length_add_append,qwp hs xs k];rfl
theorem qwq (hs:∀ x,(enc x).length=size):∀ (xs:List α) (k:Nat),(xs.flatMap enc).take (k*size)=(xs.take k).flatMap enc
 | [],k=>by simp
 | x::xs,0=>by simp
 | x::xs,k+1=>by
  rw [jl,show (k+1)*size=(enc x).length+k*size from by rw [hs,qI];omega,List.take_length_add_append,qwq hs xs k];rfl
theorem cU.from (hs:∀ x,(enc x).length=size) (h:cU enc size H v xs) {k:Nat} (hk:k<=xs.length) {z:Int} (hz:z=k) (kk:IntKind) :
 ∃ v',Op.bc size [some 0,none,none] [v,.int kk z]=some v'/\cU enc size H v' (xs.drop k)/\(v'=.nils\/dK v'=dK v):=by
 obtain ⟨v',h1,h2,h3⟩:=Sl.from h hk hz kk
 refine ⟨v',h1,?_,h3⟩;unfold cU;rw [tY,<-qwp hs];exact h2
theorem cU.upto (hs:∀ x,(enc x).length=size) (h:cU enc size H v xs) {k:Nat} (hk:k<=xs.length) {z:Int} (hz:z=k) (kk:IntKind) :
 ∃ v',Op.bc size [none,some 0,none] [v,.int kk z]=some v'/\cU enc size H v' (xs.take k)/\(v'=.nils\/dK v'=dK v):=by
 obtain ⟨v',h1,h2,h3⟩:=Sl.upto h hk hz kk;refine ⟨v',h1,?_,h3⟩;unfold cU;rw [ky,BO hk,<-qwq hs];exact h2
def iJ (enc:α->List AV) (e size:Nat) (H:AHeap) (v:AV) (xs:List α):Prop:=∃ b,v=.slice b 0 xs.length xs.length/\b<H.next/\H.get b=some (.row (xs.flatMap enc) e (0,0) true)
theorem iJ.sl {e:Nat} (hs:∀ x,(enc x).length=size) (h:iJ enc e size H v xs):cU enc size H v xs:=by
 obtain ⟨b,rfl,h1,h2⟩:=h;refine ⟨Ih hs xs,rfl,qf _,.inr ⟨h1,_,qy h2,?_⟩⟩;rw [mB,qk (by rw [Ih hs];omega),xq,xo (by rw [Ih hs];omega)]
theorem iJ.fr {e:Nat} {W:Nat->Prop} (h:iJ enc e size H v xs) (f:Fr W H H') (hw:¬ W (dK v)):iJ enc e size H' v xs:=by
 obtain ⟨b,rfl,h1,h2⟩:=h;exact ⟨b,rfl,qe h1 f.next,by rw [f.aj b h1 hw];exact h2⟩
theorem iJ.lt {e:Nat} (h:iJ enc e size H v xs):dK v<H.next:=by
 obtain ⟨b,rfl,h1,h2⟩:=h;exact h1
theorem iJ.pj {e:Nat} (hs:∀ x,(enc x).length=size) (h:iJ enc e size H v xs) {i:Nat} {x y:α} (hx:xs[i]? = some x) {j:Nat} (hj:j<size) {u:AV} (hu:aD u=true) (hy:enc y=(enc x).set j u) :
 ∃ H',Op.store 1 [.ptr (dK v) (eU size v i+j),u] H=some (.undef,H')/\iJ enc e size H' v (xs.set i y)/\Fr (On (dK v)) H H':=by
 obtain ⟨b,rfl,h1,h2⟩:=h;have hi:=BH hx;have hl:=Ih hs xs;have hb:(i+1)*size<=xs.length*size:=jm _ hi;rw [qI] at hb;have hc:u.cells=[u]:=by cases u<;>first|rfl|cases hu
 have hst:=y9 h2 (o:=i*size+j) (n:=1) (v:=u) (by rw [hc];rfl) (by omega) (by rw [hc,mU];simpa using hu);have ho:eU size (AV.slice b 0 xs.length xs.length) i=i*size:=by simp [eU]
 rw [ho];refine ⟨_,hst,⟨b,?_,h1,?_⟩,(Fr.refl H).set (W:=On b) (.inl rfl) _⟩
 ·rw [xm]
 ·rw [xd,NU hs xs hx,hy,hc,xex (L:=xs.flatMap enc) (E:=enc x) (hs x) hj (by omega) (λ r hr=>Jg hs xs hx hr),ym,qk (by omega)];simp
end
theorem zP (n:Nat) (z:List AV):lh n z=(List.replicate n ()).flatMap λ _=>z:=by
 induction n with
 | zero=>rfl
 | succ n ih=>rw [lh,mb,ih,wz,jl]
theorem O0 (e bytes:Nat) (z:List AV) (n:Nat) (k k':IntKind) (h:n*bytes<=140737488355328) (h':n<=140737488355328) :
 Op.mkSlice e bytes z [.int k n,.int k' n]=some (.row (lh n z) e (0,0) true,Op.sliceTo n n):=by
 have h1:kB 0 (n:Int)=true:=by rw [pN];simp
 have h2:kB (n:Int) n=true:=by rw [pN];simp
 have h3:kB ((n:Int)*(bytes:Int)) 140737488355328=true:=by rw [pN];simp;omega
 have h4:kB (n:Int) 140737488355328=true:=by rw [pN];simp;omega
 simp [Op.mkSlice,h1,h2,h3,h4]
end Go.Am
namespace Go.Am
theorem q8j {tm:T AV} {x:bP} {K K':AV->Prop} (h:si tm x K) (hk:∀ v,K v->K' v):si tm x K':=by
 obtain ⟨v,h1,h2⟩:=h.elim;cases x with
 | tmp t=>simp only [mj] at h1;simp only [si,bJ,h1];exact hk v h2
 | const c=>injection h1 with h1;subst h1;exact hk _ h2
 | dx c=>injection h1 with h1;subst h1;exact hk _ h2
 | func c=>injection h1 with h1;subst h1;exact hk _ h2
theorem Cg {tm:T AV}:∀ {l:List bP} {K K':List AV->Prop},jR tm l K->(∀ v,K v->K' v)->jR tm l K'
 | [],K,K',h,hk=>hk _ h
 | .tmp t::xs,K,K',h,hk=>by
  simp only [jR] at h ⊢;unfold bJ at h ⊢;split at h
  ·exact Cg h λ vs=>hk _
  ·exact h.elim
 | .const v::xs,K,K',h,hk=>Cg (l:=xs) h λ vs=>hk _
 | .dx v::xs,K,K',h,hk=>Cg (l:=xs) h λ vs=>hk _
 | .func v::xs,K,K',h,hk=>Cg (l:=xs) h λ vs=>hk _
theorem xV {α:Type} {m:Bool} {o:Option α} {K K':α->Prop} (h:bJ m o K) (hk:∀ a,K a->K' a):bJ m o K':=by
 cases o with
 | none=>exact h
 | some a=>exact hk a h
theorem q0r {α β:Type} {m:Bool} {o:Option (α × β)} {K K':α -> β->Prop} (h:fq m o K) (hk:∀ a b,K a b->K' a b):fq m o K':=by
 cases o with
 | none=>exact h
 | some a=>exact hk a.1 a.2 h
section
variable {AP:aO}
theorem LL {m:Bool} {f:fC} {vs:List AV} {H:AHeap} {K K':AV->AHeap->Prop} {E E':ah->AHeap->Prop} (h:iB AP m f vs H K E) (hk:∀ v H,K v H->K' v H) (he:∀ c H,E c H->E' c H):iB AP m f vs H K' E':=by
 obtain ⟨e,H',h1,h2⟩:=h;refine ⟨e,H',h1,?_⟩;cases e with
 | ret v=>exact hk _ _ h2
 | panic c=>exact he _ _ h2
theorem Iu {ps:Option (List Nat)} {tm:T AV} {az:List aC} {up:Option ah} {Q Q':aX} (hq:∀ e st,Q e st->Q' e st) (c:ah) (H:AHeap) (h:oL ps tm az up Q c H):oL ps tm az up Q' c H:=by
 cases ps with
 | none=>exact h
 | some ds=>exact hq _ _ h
theorem q8m {ctx:Ctx} {dst:Option Nat} {ps:Option (List Nat)} {st:St} {Q Q':aX} {K K':St->Prop} {vs:List AV} {op:dS} (h:iq AP ctx dst ps st Q K vs op) (hq:∀ e st,Q e st->Q' e st) (hk:∀ st,K st->K' st):iq AP ctx dst ps st Q' K' vs op:=by
 cases op with
 | pure f=>exact xV (m:=ai) h λ _=>hk _
 | read f=>exact xV (m:=ai) h λ _=>hk _
 | alloc f=>simp only [iq] at h ⊢;exact q0r h λ _ _=>hk _
 | bQ f=>simp only [iq] at h ⊢;exact q0r h λ _ _=>hk _
 | eM f=>exact LL (m:=ai) h (λ _ _=>hk _) (Iu hq)
 | ec =>
  simp only [iq,CL] at h ⊢;split at h
  ·exact LL h (λ _ _=>hk _) (Iu hq)
  ·exact LL h (λ _ _=>hk _) (Iu hq)
  ·exact h.elim
 | invoke n =>
  simp only [iq,EI] at h ⊢;split at h
  ·exact xV h λ _ q=>LL q (λ _ _=>hk _) (Iu hq)
  ·exact h.elim
 | recover =>
  simp only [iq,gV] at h ⊢;split at h
  ·refine ⟨h.1,?_⟩;have h2:=h.2;split at h2<;>exact hk _ h2
  ·exact h.elim
 | defer =>
  simp only [iq,pI] at h ⊢;refine ⟨h.1,?_⟩;have h2:=h.2;split at h2
  ·exact hk _ h2
  ·exact h2.elim
 | panic =>
  simp only [iq,dc] at h ⊢;split at h
  ·exact Iu hq _ _ h
  ·exact h.elim
theorem xcu {ctx:Ctx} {s:aQ} {st:St} {Q Q':aX} {K K':St->Prop} (h:mF AP ctx s st Q K) (hq:∀ e st,Q e st->Q' e st) (hk:∀ st,K st->K' st):mF AP ctx s st Q' K':=by
 obtain ⟨eY,dst,guard,args,op,ps⟩:=s;cases eY with
 | false =>
  cases guard with
  | none=>exact Cg h λ _ q=>q8m q hq hk
  | some g =>
   refine xV (m:=ai) h λ w q=>?_;cases w with
   | true=>exact Cg (K:=_) q λ _ q=>q8m q hq hk
   | false=>exact hk _ q
 | true =>
  cases guard with
  | none=>exact Cg h λ _ q=>⟨q.1,hk _ q.2⟩
  | some g =>
   refine xV (m:=ai) h λ w q=>?_;cases w with
   | true=>exact Cg (K:=_) q λ _ q=>⟨q.1,hk _ q.2⟩
   | false=>exact ⟨q.1,hk _ q.2⟩
theorem q8p {ctx:Ctx}:∀ {l:List aQ} {st:St} {Q Q':aX},lH AP ctx l st Q->(∀ e st,Q e st->Q' e st)->lH AP ctx l st Q'
 | [],st,Q,Q',h,hq=>hq _ _ h
 | s::rest,st,Q,Q',h,hq=>xcu h hq λ st' h'=>q8p h' hq
theorem Gf {ctx:Ctx} {st:St} {k:Nat} {H0:AHeap} {az:List aC} {d:Nat} {Q Q':aX} {v:AV} (h:iC AP ctx st k H0 az d Q v) (hq:∀ e st,Q e st->Q' e st):iC AP ctx st k H0 az d Q' v:=by
 unfold iC at h ⊢;split at h
 ·obtain ⟨e,H',h1,h2⟩:=h;refine ⟨e,H',h1,?_⟩;cases e with
  | panic c=>exact hq _ _ h2
  | ret v=>obtain ⟨s,p,f,k,tm,d,q1,q2,q3⟩:=h2;exact ⟨s,p,f,k,tm,d,q1,q2,hq _ _ q3⟩
 ·exact h.elim
theorem oN {ctx:Ctx}:∀ {c:ab} {st:St} {Q Q':aX},WP AP ctx c st Q->(∀ e st,Q e st->Q' e st)->WP AP ctx c st Q'
 | .skip,st,Q,Q',h,hq=>hq _ _ h
 | .label _,st,Q,Q',h,hq=>hq _ _ h
 | .exit _,st,Q,Q',h,hq=>hq _ _ h
 | .goto _,st,Q,Q',h,hq=>hq _ _ h
 | .ret,st,Q,Q',h,hq=>hq _ _ h
 | .stuck,st,Q,Q',h,hq=>h.elim
 | .region l,st,Q,Q',h,hq=>q8p h hq
 | .seq a b,st,Q,Q',h,hq=>oN (c:=a) h λ e st' h'=>by
  cases e with
  | normal=>exact oN (c:=b) h' hq
  | exit _=>exact hq _ _ h'
  | goto _=>exact hq _ _ h'
  | ret=>exact hq _ _ h'
  | panic _=>exact hq _ _ h'
 | .cond c a b,st,Q,Q',h,hq=>q8j h λ v q=>xV (m:=ai) q λ w q=>by
  cases w with
  | true=>exact oN (c:=a) q hq
  | false=>exact oN (c:=b) q hq
 | .block id b,st,Q,Q',h,hq=>oN (c:=b) h λ e st' h'=>by cases e<;>exact hq _ _ h'
 | .scope b,st,Q,Q',h,hq=>oN (c:=b) h λ e st' h'=>by
  cases e with
  | goto l=>exact ⟨h'.1,hq _ _ h'.2⟩
  | normal=>exact hq _ _ h'
  | exit _=>exact hq _ _ h'
  | ret=>exact hq _ _ h'
  | panic _=>exact hq _ _ h'
 | .loop aj b,st,Q,Q',⟨I,h0,h⟩,hq=>⟨I,h0,λ n st hi=>oN (c:=b) (h n st hi) λ e st' h'=>by cases e<;>first|exact h'|exact hq _ _ h'⟩
 | .rangeFunc f k,st,Q,Q',h,hq=>q8j h λ v q=>by
  unfold ET at q ⊢;split at q
  ·exact Gf q hq
  ·exact xV (m:=ai) q λ d q=>Gf q hq
def iI:aF->Prop
 | .exit _=>True
 | .goto _=>True
 | .ret=>True
 | _=>False
end
end Go.Am
namespace Go.Am
noncomputable section
abbrev aK:=aF->Env->List aC->AHeap->Prop
def lk (E:Env) (t:Nat):Option AV:=List.rec (motive:=λ _=>Option AV) none (λ p _ ih=>cond (Nat.beq p.1 t) (some p.2) ih) E
theorem tT (t:Nat):lk [] t=none:=rfl
theorem oR (k t:Nat) (v:AV) (E:Env):lk ((k,v)::E) t=if k=t then some v else lk E t:=by
 show cond (Nat.beq k t) (some v) (lk E t)=_;cases hb:Nat.beq k t with
 | true=>rw [qk (HX hb)];rfl
 | false=>rw [qc (Fw hb)];rfl
def cA (t:Nat) (l:List Nat):Bool:=List.rec (motive:=λ _=>Bool) false (λ x _ ih=>cond (Nat.beq x t) true ih) l
def ey (ks:List Nat) (E:Env) (tm:T AV):Prop:=∀ t v,lk E t=some v->tm.get t=some v/\cA t ks=true
def nZ:Env->Env->Prop
 | [],_=>True
 | (k,v)::r,E=>lk E k=some v/\nZ r E
theorem Ae (E:Env):nZ [] E=True:=rfl
theorem vM (k:Nat) (v:AV) (r E:Env):nZ ((k,v)::r) E=(lk E k=some v/\nZ r E):=rfl
theorem nZ.look:∀ {A E:Env},nZ A E -> ∀ {t:Nat} {v:AV},lk A t=some v->lk E t=some v
 | [],E,_,t,v,h=>by cases h
 | (k,w)::r,E,h,t,v,hl=>by
  rw [oR] at hl;split at hl
  ·rename_i e;subst e;injection hl with hl;subst hl;exact h.1
  ·exact nZ.look h.2 hl
theorem nZ.sub {ks:List Nat} {A E:Env} (h:nZ A E) {tm:T AV} (he:ey ks E tm):ey ks A tm:=λ t v hl=>he t v (h.look hl)
def SS (A E:Env):Prop:=∀ t v,lk A t=some v->lk E t=some v
theorem nZ.ss {A E:Env} (h:nZ A E):SS A E:=λ t v hl=>h.look hl
theorem SS.sub {ks:List Nat} {A E:Env} (h:SS A E) {tm:T AV} (he:ey ks E tm):ey ks A tm:=λ t v hl=>he t v (h t v hl)
theorem SS.refl (E:Env):SS E E:=λ _ _ h=>h
def B3 {α:Type} (m:Bool) (o:Option α) (K:Bool -> α->Prop):Prop:=match o with
 | some a=>K m a
 | none=>False
def bA {α β:Type} (m:Bool) (o:Option (α × β)) (K:Bool -> α -> β->Prop):Prop:=match o with
 | some a=>K m a.1 a.2
 | none=>False
def cB (m:Bool) (v:AV) (A B:Bool->Prop):Prop:=match v with
 | .bool q=>match q with
  | true=>A m
  | false=>B m
 | _=>False
def c9 (m:Bool) (q:Bool) (A B:Bool->Prop):Prop:=match q with
 | true=>A m
 | false=>B m
def kA (m:Bool) (o o':Option AV) (K:Bool->Prop):Prop:=(∃ v,o=some v/\o'=some v)/\K m
def A3 (m:Bool) (e:Nat) (z:List AV) (H:AHeap) (K:Bool->AV->AHeap->Prop):Prop:=K m (.ptr H.next 0) (H.alloc (.row z e (0,0) true))
def JN {α:Type} (F:α->Prop) (K:α):Prop:=F K
def aB (m:Bool) (Q:aK) (e:aF) (E:Env) (D:List aC) (H:AHeap):Prop:=Q e E D H
theorem yV {α:Type} (a:α) (K:Bool -> α->Prop):B3 true (some a) K=K true a:=propext zg
theorem tG {α β:Type} (a:α) (b:β) (K:Bool -> α -> β->Prop):bA true (some (a,b)) K=K true a b:=propext zg
theorem vE (A B:Bool->Prop):cB true (.bool true) A B=A true:=propext zg
theorem xck (A B:Bool->Prop):cB true (.bool false) A B=B true:=propext zg
theorem ux (A B:Bool->Prop):c9 true true A B=A true:=propext zg
theorem xcl (A B:Bool->Prop):c9 true false A B=B true:=propext zg
theorem KG (v:AV) (K:Bool->Prop):kA true (some v) (some v) K=K true:=propext ⟨λ h=>h.2,λ h=>⟨⟨v,rfl,rfl⟩,h⟩⟩
theorem I2 (e:Nat) (z:List AV) (H:AHeap) (K:Bool->AV->AHeap->Prop):A3 true e z H K=K true (.ptr H.next 0) (H.alloc (.row z e (0,0) true)):=propext zg
theorem qh {α:Type} (F:α->Prop) (K:α):JN F K=F K:=propext zg
theorem tw (Q:aK) (e:aF) (E:Env) (D:List aC) (H:AHeap):aB true Q e E D H=Q e E D H:=propext zg
@[congr] theorem I6 {α:Type} {m m':Bool} {o o':Option α} {K:Bool -> α->Prop} (hm:m=m') (h:o=o'):B3 m o K=B3 m' o' K:=by subst hm;subst h;rfl
@[congr] theorem GH {α β:Type} {m m':Bool} {o o':Option (α × β)} {K:Bool -> α -> β->Prop} (hm:m=m') (h:o=o'):bA m o K=bA m' o' K:=by subst hm;subst h;rfl
@[congr] theorem GP {m m':Bool} {v v':AV} {A B:Bool->Prop} (hm:m=m') (h:v=v'):cB m v A B=cB m' v' A B:=by subst hm;subst h;rfl
@[congr] theorem GQ {m m':Bool} {v v':Bool} {A B:Bool->Prop} (hm:m=m') (h:v=v'):c9 m v A B=c9 m' v' A B:=by subst hm;subst h;rfl
@[congr] theorem GC {m m':Bool} {o o' p p':Option AV} {K:Bool->Prop} (hm:m=m') (h:o=o') (h':p=p'):kA m o p K=kA m' o' p' K:=by subst hm;subst h;subst h';rfl
@[congr] theorem Jr {m m':Bool} {e:Nat} {z z':List AV} {H H':AHeap} {K:Bool->AV->AHeap->Prop} (hm:m=m') (h:z=z') (h':H=H'):A3 m e z H K=A3 m' e z' H' K:=by subst hm;subst h;subst h';rfl
theorem B3.elim {α:Type} {m:Bool} {o:Option α} {K:Bool -> α->Prop} (h:B3 m o K):∃ a,o=some a/\K m a:=by
 cases o with
 | none=>exact False.elim h
 | some a=>exact ⟨a,rfl,h⟩
theorem bA.elim {α β:Type} {m:Bool} {o:Option (α × β)} {K:Bool -> α -> β->Prop} (h:bA m o K):∃ a b,o=some (a,b)/\K m a b:=by
 cases o with
 | none=>exact False.elim h
 | some a=>exact ⟨a.1,a.2,rfl,h⟩
theorem LK.elim {α:Type} {m:Bool} {o:Option α} {K:Bool -> α->Prop} (h:LK m o K):∃ a,o=some a/\K m a:=by
 cases o with
 | none=>exact False.elim h
 | some a=>exact ⟨a,rfl,h⟩
theorem B3.intro {α:Type} {m:Bool} {o:Option α} {K:Bool -> α->Prop} {a:α} (h:o=some a) (hk:K m a):B3 m o K:=by subst h;exact hk
theorem bA.intro {α β:Type} {m:Bool} {o:Option (α × β)} {K:Bool -> α -> β->Prop} {a:α} {b:β} (h:o=some (a,b)) (hk:K m a b):bA m o K:=by subst h;exact hk
theorem cB.dec {m:Bool} {p:Prop} [Decidable p] {A B:Bool->Prop} (h1:p->A m) (h2:¬ p->B m):cB m (.bool (decide p)) A B:=by
 by_cases h:p
 ·rw [jd h];exact h1 h
 ·rw [jf h];exact h2 h
theorem cB.cases {m:Bool} {q:Bool} {A B:Bool->Prop} (h1:q=true->A m) (h2:q=false->B m):cB m (.bool q) A B:=by
 cases q with
 | true=>exact h1 rfl
 | false=>exact h2 rfl
theorem c9.dec {m:Bool} {p:Prop} [Decidable p] {A B:Bool->Prop} (h1:p->A m) (h2:¬ p->B m):c9 m (decide p) A B:=by
 by_cases h:p
 ·rw [jd h];exact h1 h
 ·rw [jf h];exact h2 h
theorem c9.cases {m:Bool} {q:Bool} {A B:Bool->Prop} (h1:q=true->A m) (h2:q=false->B m):c9 m q A B:=by
 cases q with
 | true=>exact h1 rfl
 | false=>exact h2 rfl
theorem cB.elim {m:Bool} {v:AV} {A B:Bool->Prop} (h:cB m v A B):∃ q,v=.bool q/\(match q with|true=>A m|false=>B m):=by
 unfold cB at h;split at h
 ·exact ⟨_,rfl,h⟩
 ·exact h.elim
section
variable (M:aO)
structure Kp where
 aj:List Nat
 cZ:Bool
 named:List Nat
def dB (K:List Nat) (E L:Env):Env:=List.rec (motive:=λ _=>Env) E (λ p _ ih=>cond (cA p.1 K) (p::ih) ih) L
def jS (ds:List Nat) (E:Env):Env:=List.rec (motive:=λ _=>Env) [] (λ p _ ih=>cond (cA p.1 ds) ih (p::ih)) E
def iR (L:Env):List Nat:=List.rec (motive:=λ _=>List Nat) [] (λ p _ ih=>p.1::ih) L
abbrev KR:=Bool->Env->Env->AHeap->Prop
def TV (E L R:Env) (t:Nat) (g:Bool) (K:Bool->Env->AV->Prop):Prop :=
 Option.rec (motive:=λ _=>Prop) (Option.rec (motive:=λ _=>Prop) (LK g (lk E t) λ g v=>K g ((t,v)::R) v) (λ v=>K g R v) (lk R t)) (λ v=>K g R v) (lk L t)
def p7 (E L:Env) (l:List bP):Bool->Env->(Bool->Env->List AV->Prop)->Prop:=List.rec (motive:=λ _=>Bool->Env->(Bool->Env->List AV->Prop)->Prop) (λ g R K=>K g R [])
 (λ x _ ih g R K=>bP.casesOn x (λ t=>TV E L R t g λ g R v=>ih g R λ g R vs=>K g R (v::vs)) (λ v=>ih g R λ g R vs=>K g R (v::vs)) (λ b=>ih g R λ g R vs=>K g R (.ptr b 0::vs)) (λ f=>ih g R λ g R vs=>K g R (.fn (.func f) [] []::vs))) l
def C3 (m:Bool) (f:fC) (vs:List AV) (H:AHeap) (K:Bool->AV->AHeap->Prop):Prop:=∃ v H',oq M f vs H (.ret v) H'/\K m v H'
def P3 (m:Bool) (X:ah->AHeap->Prop) (f:fC) (vs:List AV) (H:AHeap) (K:Bool->AV->AHeap->Prop):Prop:=∃ e H',oq M f vs H e H'/\match e with
 | .ret v=>K m v H'
 | .panic c=>X c H'
@[congr] theorem HQ {M:aO} {m m':Bool} {f f':fC} {vs vs':List AV} {H H':AHeap} {K:Bool->AV->AHeap->Prop} (hm:m=m') (hf:f=f') (h:vs=vs') (h':H=H'):C3 M m f vs H K=C3 M m' f' vs' H' K:=by subst hm;subst h;subst hf;subst h';rfl
@[congr] theorem HN {M:aO} {m m':Bool} {X:ah->AHeap->Prop} {f f':fC} {vs vs':List AV} {H H':AHeap} {K:Bool->AV->AHeap->Prop} (hm:m=m') (hf:f=f') (h:vs=vs') (h':H=H'):P3 M m X f vs H K=P3 M m' X f' vs' H' K:=by subst hm;subst h;subst hf;subst h';rfl
def V3 (m:Bool) (vs:List AV) (K:Bool->fC->List AV->Prop):Prop:=match vs with
 | .fn (.func g) first cap::args=>K m (.func g) (first++(args++cap))
 | .fn (.yield l) first []::args=>K m (.yield l) (first++args)
 | _=>False
@[congr] theorem Ie {m m':Bool} {vs vs':List AV} {K:Bool->fC->List AV->Prop} (hm:m=m') (h:vs=vs'):V3 m vs K=V3 m' vs' K:=by subst hm;subst h;rfl
theorem As (g:Nat) (first cap args:List AV) (K:Bool->fC->List AV->Prop):V3 true (.fn (.func g) first cap::args) K=K true (.func g) (first++(args++cap)):=propext zg
theorem q8o (l:Nat) (first args:List AV) (K:Bool->fC->List AV->Prop):V3 true (.fn (.yield l) first []::args) K=K true (.yield l) (first++args):=propext zg
def N3 (m:Bool) (name:String) (vs:List AV) (K:Bool->fC->List AV->Prop):Prop:=match vs with
 | .iface t v::args=>B3 m (M.mC t name) λ m g=>K m (.func g) (v::args)
 | _=>False
@[congr] theorem ID {M:aO} {m m':Bool} {name:String} {vs vs':List AV} {K:Bool->fC->List AV->Prop} (hm:m=m') (h:vs=vs'):N3 M m name vs K=N3 M m' name vs' K:=by subst hm;subst h;rfl
theorem sG (name:String) (t:Nat) (v:AV) (args:List AV) (K:Bool->fC->List AV->Prop):N3 M true name (.iface t v::args) K=B3 true (M.mC t name) λ m g=>K m (.func g) (v::args):=propext zg
def PX (ps:Option (List Nat)) (ks:List Nat) (Q:aK) (E:Env) (D:List aC) (c:ah) (H:AHeap):Prop:=match ps with
 | some ds=>Q (.panic c) (jS ds (jS ks E)) D H
 | none=>False
def sF (cZ:Bool) (ps:Option (List Nat)) (L:Env) (Q:aK) (E:Env) (D:List aC) (g:Bool) (f:fC) (vs:List AV) (H:AHeap) (K:Bool->AV->AHeap->Prop):Prop :=
 cond cZ (P3 M g (PX ps (iR L) Q E D) f vs H K) (C3 M g f vs H K)
def oP (cZ:Bool) (dst:Option Nat) (ps:Option (List Nat)) (Q:aK) (E:Env) (D:List aC) (L R:Env) (H:AHeap) (K:KR) (g:Bool) (vs:List AV):dS->Prop
 | .pure f=>B3 g (f vs) λ g v=>K g (fR dst v L) R H
 | .read f=>B3 g (f vs H) λ g v=>K g (fR dst v L) R H
 | .alloc f=>bA g (f vs) λ g o mk=>K g (fR dst (mk H.next) L) R (H.alloc o)
 | .bQ f=>bA g (f vs H) λ g v H=>K g (fR dst v L) R H
 | .eM f=>sF M cZ ps L Q E D g (.func f) vs H (λ g v H=>K g (fR dst v L) R H)
 | .ec=>V3 g vs λ g f vs=>sF M cZ ps L Q E D g f vs H (λ g v H=>K g (fR dst v L) R H)
 | .invoke name=>N3 M g name vs λ g f vs=>sF M cZ ps L Q E D g f vs H (λ g v H=>K g (fR dst v L) R H)
 | .panic=>cond cZ (dc vs H (PX ps (iR L) Q E D)) False
 | _=>False
def N9 (L E:Env) (d:Nat):Option AV:=Option.rec (motive:=λ _=>Option AV) (lk E d) (λ v=>some v) (lk L d)
def KP (dst:Option Nat) (E L R:Env) (H:AHeap) (K:KR) (g:Bool) (vs:List AV):dS->Prop
 | .read f=>match dst with
  | some d=>kA g (f vs H) (N9 L E d) λ g=>K g L R H
  | none=>False
 | _=>False
def yH (cZ:Bool) (s:aQ) (Q:aK) (E:Env) (D:List aC) (K:KR):KR:=λ g L R H =>
 p7 E L s.args g R λ g R vs=>match s.eY with
  | false=>oP M cZ s.dst s.cj Q E D L R H K g vs s.op
  | true=>KP s.dst E L R H K g vs s.op
def jU (cZ:Bool) (Q:aK) (E:Env) (D:List aC) (K:KR) (l:List aQ):KR:=List.rec (motive:=λ _=>KR) K (λ s _ ih=>yH M cZ s Q E D ih) l
abbrev Be:=Option (Nat × Bool) × List aQ
def mO:Option (Nat × Bool)->Option (Nat × Bool)->Bool
 | none,none=>true
 | some (t,b),some (u,c)=>cond (Nat.beq t u) (cond b c (!c)) false
 | _,_=>false
def Ff (l:List aQ):List Be:=List.rec (motive:=λ _=>List Be) [] (λ s _ ih=>List.casesOn (motive:=λ _=>List Be) ih [(s.guard,[s])] λ g r=>cond (mO g.1 s.guard) ((g.1,s::g.2)::r) ((s.guard,[s])::g::r)) l
def En (o:Option Nat) (t:Nat):Bool:=Option.rec (motive:=λ _=>Bool) false (λ d=>Nat.beq d t) o
def oW (t:Nat) (l:List aQ):Bool:=List.rec (motive:=λ _=>Bool) true (λ s _ ih=>cond (En s.dst t) false (cond s.eY (cond s.dst.isSome ih false) ih)) l
def CT (n:Nat):Type:=Nat.rec (motive:=λ _=>Type) (AHeap->Prop) (λ _ T=>AV->T) n
def lz (n:Nat):(List AV->AHeap->Prop)->CT n:=Nat.rec (motive:=λ n=>(List AV->AHeap->Prop)->CT n) (λ f=>f []) (λ _ ih f v=>ih λ l=>f (v::l)) n
def kG (n:Nat):CT n->List AV->AHeap->Prop:=Nat.rec (motive:=λ n=>CT n->List AV->AHeap->Prop) (λ k _=>k) (λ _ ih k l=>List.casesOn (motive:=λ _=>AHeap->Prop) l (λ _=>False) λ v l=>ih (k v) l) n
def bO (l:List aQ):List Nat->List Nat:=List.rec (motive:=λ _=>List Nat->List Nat) (λ acc=>acc) (λ s _ ih acc=>ih (cond s.eY acc (Option.rec (motive:=λ _=>List Nat) acc (λ d=>d::acc) s.dst))) l
def gW (ks:List Nat) (L:Env):List AV->Env:=List.rec (motive:=λ _=>List AV->Env) (λ _=>L) (λ k _ ih l=>List.casesOn (motive:=λ _=>Env) l L λ v l=>(k,v)::ih l) ks
def mP (n:Nat):Env->List AV:=Nat.rec (motive:=λ _=>Env->List AV) (λ _=>[]) (λ _ ih L=>List.casesOn (motive:=λ _=>List AV) L [] λ p L=>p.2::ih L) n
def nI (n:Nat):List AV:=Nat.rec (motive:=λ _=>List AV) [] (λ _ ih=>.undef::ih) n
def KN (cZ:Bool) (Q:aK) (E:Env) (D:List aC) (x:Be) (K:KR):KR:=λ g L R H=>match x.1 with
 | none=>jU M cZ Q E D K x.2 g L R H
 | some q=>cond (oW q.1 x.2) (TV E L R q.1 g λ g R v=>JN (α:=Bool->CT (bW (bO x.2 [])))
  (λ k=>B3 g (aE q.2 (some v)) λ g w=>c9 g w (λ g=>jU M cZ Q E D (λ g L _ H=>kG (bW (bO x.2 [])) (k g) (mP (bW (bO x.2 [])) L) H) x.2 g L R H) (λ g=>kG (bW (bO x.2 [])) (k g) (nI (bW (bO x.2 []))) H))
  (λ g=>lz (bW (bO x.2 [])) λ vs H=>K g (gW (bO x.2 []) L vs) R H)) False
def qX (cZ:Bool) (Q:aK) (E:Env) (D:List aC) (K:KR) (l:List Be):KR:=List.rec (motive:=λ _=>KR) K (λ x _ ih=>KN M cZ Q E D x ih) l
def mG (cZ:Bool) (Q:aK) (E:Env) (D:List aC) (l:List aQ) (g:Bool) (H:AHeap) (K:KR):Prop:=qX M cZ Q E D K (Ff l) g [] [] H
abbrev WX:=Bool->aK->Env->List aC->AHeap->Prop
def aw (X:WX) (Q:aK):aK:=λ e E D H=>match e with
 | .normal=>X true Q E D H
 | e=>Q e E D H
def aR (id:Nat) (Q:aK):aK:=λ e E D H=>match e with
 | .exit id'=>Q (cond (Nat.beq id id') .normal (.exit id')) E D H
 | e=>Q e E D H
def pA (b:ab) (Q:aK):aK:=λ e E D H=>match e with
 | .goto l=>xW b l=false/\Q (.goto l) E D H
 | e=>Q e E D H
abbrev Dd:=Nat->Env->List aC->AHeap->Prop
def LP3 (I:Dd) (n:Nat) (Q:aK):aK:=λ e E D H=>match e with
 | .normal=>∃ m E',I m E' D H/\SS E' E/\m<n
 | e=>Q e E D H
def bS (X:WX) (Q:aK) (E:Env) (D:List aC) (H:AHeap):Prop :=
 ∃ I:Dd,(∃ n E0,I n E0 D H/\SS E0 E) /\ ∀ n E D H,I n E D H->X true (LP3 I n Q) E D H
def mn (ks:List Nat) (ctx:Ctx) (k:Nat) (E:Env) (D:List aC) (H:AHeap) (Q:aK) (v:AV):Prop :=
 ∀ tm up,ey ks E tm->ET M ctx k ⟨tm,D,up,H⟩ (λ e st=>st.up=up/\st.tm=tm/\Q e E st.az st.H) v
def OV (E:Env) (x:bP) (g:Bool) (K:Bool->AV->Prop):Prop:=match x with
 | .tmp t=>LK g (lk E t) K
 | .const v=>K g v
 | .dx b=>K g (.ptr b 0)
 | .func f=>K g (.fn (.func f) [] [])
def CV (E L R:Env) (x:bP) (g:Bool) (K:Bool->AV->Prop):Prop:=match x with
 | .tmp t=>TV E L R t g λ g _ v=>K g v
 | .const v=>K g v
 | .dx b=>K g (.ptr b 0)
 | .func f=>K g (.fn (.func f) [] [])
def W3 (ctx:Ctx) (K:Kp):ab->Bool->aK->Env->List aC->AHeap->Prop
 | .skip,g,Q,E,D,H=>aB g Q .normal E D H
 | .label _,g,Q,E,D,H=>aB g Q .normal E D H
 | .exit id,g,Q,E,D,H=>aB g Q (.exit id) E D H
 | .goto l,g,Q,E,D,H=>aB g Q (.goto l) E D H
 | .ret,g,Q,E,D,H=>aB g Q .ret E D H
 | .stuck,_,_,_,_,_=>False
 | .region l,g,Q,E,D,H=>mG M K.cZ Q E D l g H λ g L _ H=>aB g Q .normal (dB K.aj E L) D H
 | .seq a b,g,Q,E,D,H=>match a,b with
  | .region l,.cond c x y=>mG M K.cZ Q E D l g H λ g L R H=>CV E L R c g λ g v=>cB g v (λ g=>W3 ctx K x g Q (dB K.aj E L) D H) (λ g=>W3 ctx K y g Q (dB K.aj E L) D H)
  | .region l,.seq (.cond c x y) r=>mG M K.cZ Q E D l g H λ g L R H=>CV E L R c g λ g v=>cB g v (λ g=>W3 ctx K x g (aw (W3 ctx K r) Q) (dB K.aj E L) D H) (λ g=>W3 ctx K y g (aw (W3 ctx K r) Q) (dB K.aj E L) D H)
  | .region l,b=>mG M K.cZ Q E D l g H λ g L _ H=>W3 ctx K b g Q (dB K.aj E L) D H
  | a,b=>W3 ctx K a g (aw (W3 ctx K b) Q) E D H
 | .cond c x y,g,Q,E,D,H=>OV E c g λ g v=>cB g v (λ g=>W3 ctx K x g Q E D H) (λ g=>W3 ctx K y g Q E D H)
 | .block id b,g,Q,E,D,H=>W3 ctx K b g (aR id Q) E D H
 | .scope b,g,Q,E,D,H=>W3 ctx K b g (pA b Q) E D H
 | .loop (some _) _,_,_,_,_,_=>False
 | .loop none b,g,Q,E,D,H=>bS (W3 ctx K b) Q E D H
 | .rangeFunc f k,g,Q,E,D,H=>OV E f g λ g v=>mn M K.aj ctx k E D H Q v
end
structure gR (E L R:Env) (tm:T AV):Prop where
 l:∀ t v,lk L t=some v->tm.get t=some v
 r:∀ t v,lk L t=none->lk R t=some v->tm.get t=some v
 e:∀ t v,lk L t=none->lk E t=some v->tm.get t=some v
theorem gR.first {ks:List Nat} {E:Env} {tm:T AV} (h:ey ks E tm):gR E [] [] tm:=⟨λ _ _ h=>(by cases h),λ _ _ _ h=>(by cases h),λ t v _ hv=>(h t v hv).1⟩
theorem gR.put {E L R:Env} {tm:T AV} (h:gR E L R tm) (dst:Option Nat) (v:AV):gR E (fR dst v L) R (dr dst v tm):=by
 cases dst with
 | none=>exact h
 | some d =>
  show gR E ((d,v)::L) R (tm.set d v);refine ⟨λ t w hw=>?_,λ t w hn hw=>?_,λ t w hn hw=>?_⟩
  ·rw [oR] at hw;rw [T.aI];split at hw
   ·rename_i e;rw [qk e];exact hw
   ·rename_i e;rw [qc e];exact h.l t w hw
  ·rw [oR] at hn;rw [T.aI];split at hn
   ·cases hn
   ·rename_i e;rw [qc e];exact h.r t w hn hw
  ·rw [oR] at hn;rw [T.aI];split at hn
   ·cases hn
   ·rename_i e;rw [qc e];exact h.e t w hn hw
theorem TV.elim {E L R:Env} {t:Nat} {g:Bool} {K:Bool->Env->AV->Prop} {tm:T AV} (hr:gR E L R tm) (h:TV E L R t g K):∃ v R',tm.get t=some v/\gR E L R' tm/\K g R' v:=by
 unfold TV at h;cases hl:lk L t with
 | some v=>rw [hl] at h;exact ⟨v,R,hr.l t v hl,hr,h⟩
 | none =>
  rw [hl] at h;cases hq:lk R t with
  | some v=>rw [hq] at h;exact ⟨v,R,hr.r t v hl hq,hr,h⟩
  | none =>
   rw [hq] at h;obtain ⟨v,hv,h⟩:=LK.elim h;refine ⟨v,_,hr.e t v hl hv,⟨hr.l,λ u w hn hw=>?_,hr.e⟩,h⟩;rw [oR] at hw;split at hw
   ·rename_i e;subst e;injection hw with hw;subst hw;exact hr.e t v hl hv
   ·exact hr.r u w hn hw
theorem FE {tm:T AV}:∀ {l:List bP} {vs:List AV} {K:List AV->Prop},iv tm l=some vs->K vs->jR tm l K
 | [],vs,K,h,hk=>by injection h with h;subst h;exact hk
 | x::xs,vs,K,h,hk=>by
  simp only [iv,qa] at h;obtain ⟨v,h1,ws,h2,h3⟩:=h;injection h3 with h3;subst h3
  cases x with
  | tmp t=>exact bJ.intro (m:=ai) h1 (FE h2 hk)
  | const c=>injection h1 with h1;subst h1;exact FE (K:=λ vs=>K (c::vs)) h2 hk
  | dx c=>injection h1 with h1;subst h1;exact FE (K:=λ vs=>K (_::vs)) h2 hk
  | func c=>injection h1 with h1;subst h1;exact FE (K:=λ vs=>K (_::vs)) h2 hk
theorem p7.elim {E L:Env} {tm:T AV} {g:Bool}:∀ {l:List bP} {R:Env} {K:Bool->Env->List AV->Prop},gR E L R tm->p7 E L l g R K -> ∃ vs R',iv tm l=some vs/\gR E L R' tm/\K g R' vs
 | [],R,K,hr,h=>⟨[],R,rfl,hr,h⟩
 | .tmp t::xs,R,K,hr,h=>by
  obtain ⟨v,R1,h1,hr1,h⟩:=TV.elim hr (show TV E L R t g (λ g R v=>p7 E L xs g R λ g R vs=>K g R (v::vs)) from h);obtain ⟨vs,R2,h2,hr2,h⟩:=p7.elim hr1 h;exact ⟨v::vs,R2,by simp [iv,mj,h1,h2],hr2,h⟩
 | .const v::xs,R,K,hr,h=>by
  obtain ⟨vs,R2,h2,hr2,h⟩:=p7.elim (l:=xs) hr h;exact ⟨v::vs,R2,by simp [iv,mj,h2],hr2,h⟩
 | .dx v::xs,R,K,hr,h=>by
  obtain ⟨vs,R2,h2,hr2,h⟩:=p7.elim (l:=xs) hr h;exact ⟨_,R2,by simp [iv,mj,h2],hr2,h⟩
 | .func v::xs,R,K,hr,h=>by
  obtain ⟨vs,R2,h2,hr2,h⟩:=p7.elim (l:=xs) hr h;exact ⟨_,R2,by simp [iv,mj,h2],hr2,h⟩
theorem K4 (ds:List Nat):∀ (E:Env) (t:Nat),lk (jS ds E) t=if cA t ds then none else lk E t
 | [],t=>by simp [jS,tT]
 | (k,v)::r,t=>by
  show lk (cond (cA k ds) (jS ds r) ((k,v)::jS ds r)) t=_;cases hm:cA k ds with
  | true =>
   rw [ql,K4 ds r,oR]
   by_cases e:k=t
   ·subst e;rw [hm];rfl
   ·rw [qc e]
  | false =>
   rw [xa,oR,K4 ds r,oR]
   by_cases e:k=t
   ·subst e;rw [hm];simp
   ·rw [qc e,qc e]
theorem q5h:∀ (L:Env) (t:Nat),cA t (iR L)=false->lk L t=none
 | [],t,_=>rfl
 | (k,v)::r,t,h=>by
  have h:cond (Nat.beq k t) true (cA t (iR r))=false:=h;rw [oR];cases hb:Nat.beq k t with
  | true=>rw [hb] at h;cases h
  | false=>rw [hb,xa] at h;rw [qc (Fw hb)];exact q5h r t h
theorem q9b {t:Nat}:∀ {l:List Nat},t ∈ l->cA t l=true
 | x::r,h=>by
  show cond (Nat.beq x t) true (cA t r)=true;cases hb:Nat.beq x t with
  | true=>rfl
  | false =>
   rw [xa];rcases x8.1 h with e|h
   ·exact (Fw hb e.symm).elim
   ·exact q9b h
theorem qyw:∀ (ds:List Nat) (tm:T AV) (t:Nat),t ∉ ds->(forget ds tm).get t=tm.get t
 | [],tm,t,_=>rfl
 | d::ds,tm,t,h=>by
  show (forget ds (tm.put d none)).get t=_;rw [qyw ds _ t (λ q=>h (BZ _ q)),T.gy,qc (λ e=>h (by rw [e];exact EZ ..))]
def QQ (ks:List Nat) (Q:aK) (up:Option ah):aX:=λ e st=>st.up=up /\ ∃ E',ey ks E' st.tm/\Q e E' st.az st.H
section
variable {M:aO} {ctx:Ctx} {cZ:Bool} {Q:aK} {E:Env} {D:List aC} {up:Option ah}
theorem PX.B7 {Z:aX} (hp:∀ c tm H E',(∀ t v,lk E' t=some v->tm.get t=some v/\lk E t=some v)->Q (.panic c) E' D H->Z (.panic c) ⟨tm,D,up,H⟩) {ps:Option (List Nat)} {L R:Env} {tm:T AV} (hr:gR E L R tm) {c:ah} {H:AHeap} (h:PX ps (iR L) Q E D c H):oL ps tm D up Z c H:=by
 cases ps with
 | none=>exact h
 | some ds =>
  refine hp _ _ _ _ (λ t v hv=>?_) h;rw [K4,K4] at hv;split at hv
  ·cases hv
  ·rename_i h1;split at hv
   ·cases hv
   ·rename_i h2;rw [qyw ds tm t (λ q=>h1 (q9b q))];exact ⟨hr.e t v (q5h L t (by simpa using h2)) hv,hv⟩
theorem sF.pV {Z:aX} (hp:∀ c tm H E',(∀ t v,lk E' t=some v->tm.get t=some v/\lk E t=some v)->Q (.panic c) E' D H->Z (.panic c) ⟨tm,D,up,H⟩) {ps:Option (List Nat)} {L R:Env} {tm:T AV} (hr:gR E L R tm) {g:Bool} {f:fC} {vs:List AV} {H:AHeap} {K:Bool->AV->AHeap->Prop} {K':AV->AHeap->Prop}
 (h:sF M cZ ps L Q E D g f vs H K) (hk:∀ v H,K g v H->K' v H):iB M ai f vs H K' (oL ps tm D up Z):=by
 cases cZ with
 | false =>
  obtain ⟨v,H',h1,h2⟩:=(show C3 M g f vs H K from h)
  exact ⟨_,H',h1,hk _ _ h2⟩
 | true =>
  obtain ⟨e,H',h1,h2⟩:=(show P3 M g (PX ps (iR L) Q E D) f vs H K from h)
  refine ⟨_,H',h1,?_⟩;cases e with
  | ret v=>exact hk _ _ h2
  | panic c=>exact PX.B7 hp hr h2
theorem yH.body {Z:aX} (hp:∀ c tm H E',(∀ t v,lk E' t=some v->tm.get t=some v/\lk E t=some v)->Q (.panic c) E' D H->Z (.panic c) ⟨tm,D,up,H⟩) {s:aQ} {K:KR} {g:Bool} {L R R0:Env} {tm:T AV} {H:AHeap} (hr:gR E L R tm) (hr0:gR E L R0 tm) (h:yH M cZ s Q E D K g L R H) {KK:St->Prop}
 (hK:∀ L' R' tm' H',(s.eY=true/\L'=L/\tm'=tm \/ ∃ v,s.eY=false/\L'=fR s.dst v L/\tm'=dr s.dst v tm)->gR E L' R' tm'->gR E L' R0 tm'->K g L' R' H'->KK ⟨tm',D,up,H'⟩) :
 match s.eY with
 | false=>jR tm s.args λ vs=>iq M ctx s.dst s.cj ⟨tm,D,up,H⟩ Z KK vs s.op
 | true=>jR tm s.args λ vs=>D8 s.dst ⟨tm,D,up,H⟩ vs s.op/\KK ⟨tm,D,up,H⟩:=by
 obtain ⟨eY,dst,guard,args,op,ps⟩:=s;obtain ⟨vs,R1,h1,hr1,h⟩:=p7.elim hr h;cases eY with
 | true =>
  refine FE h1 ?_;have h:KP dst E L R1 H K g vs op:=h;cases op with
  | read f =>
   cases dst with
   | none=>exact h.elim
   | some d =>
    have h:kA g (f vs H) (N9 L E d) (λ g=>K g L R1 H):=h;obtain ⟨⟨v,e1,e2⟩,h⟩:=h;refine ⟨?_,hK L R1 tm H (.inl ⟨rfl,rfl,rfl⟩) hr1 hr0 h⟩;refine bJ.intro (m:=ai) e1 (bJ.intro (m:=ai) (a:=v) ?_ rfl);unfold N9 at e2;cases hl:lk L d with
    | some w=>rw [hl] at e2;injection e2 with e2;subst e2;exact hr.l d w hl
    | none=>rw [hl] at e2;exact hr.e d v hl e2
  | _=>exact h.elim
 | false =>
  have put:∀ v H',K g (fR dst v L) R1 H'->KK ⟨dr dst v tm,D,up,H'⟩:=λ v H' hk=>hK _ R1 _ H' (.inr ⟨v,rfl,rfl,rfl⟩) (hr1.put dst v) (hr0.put dst v) hk;refine FE h1 ?_;have h:oP M cZ dst ps Q E D L R1 H K g vs op:=h;cases op with
  | pure f=>simp only [oP] at h;obtain ⟨v,e,h⟩:=B3.elim h;exact bJ.intro (m:=ai) e (put _ _ h)
  | read f=>simp only [oP] at h;obtain ⟨v,e,h⟩:=B3.elim h;exact bJ.intro (m:=ai) e (put _ _ h)
  | alloc f=>simp only [oP] at h;simp only [iq];obtain ⟨o,mk,e,h⟩:=bA.elim h;exact fq.intro (m:=ai) e (put _ _ h)
  | bQ f=>simp only [oP] at h;simp only [iq];obtain ⟨v,H',e,h⟩:=bA.elim h;exact fq.intro (m:=ai) e (put _ _ h)
  | eM f=>exact sF.pV hp hr1 h λ v H' hk=>put v H' hk
  | ec =>
   simp only [oP,V3] at h;simp only [iq,CL];split at h
   ·exact sF.pV hp hr1 h λ v H' hk=>put v H' hk
   ·exact sF.pV hp hr1 h λ v H' hk=>put v H' hk
   ·exact h.elim
  | invoke n =>
   simp only [oP,N3] at h;simp only [iq,EI];split at h
   ·obtain ⟨f,e,h⟩:=B3.elim h;exact bJ.intro (m:=ai) e (sF.pV hp hr1 h λ v H' hk=>put v H' hk)
   ·exact h.elim
  | recover=>exact False.elim h
  | defer=>exact False.elim h
  | panic =>
   cases cZ with
   | false=>exact False.elim h
   | true =>
    have h:dc vs H (PX ps (iR L) Q E D):=h;show dc vs H (oL ps tm D up Z);unfold dc at h ⊢;split at h
    ·exact PX.B7 hp hr1 h
    ·exact h.elim
def F5 (g:Option (Nat × Bool)) (l:List aQ):Prop:=∀ s ∈ l,s.guard=g
theorem jU.free {Z:aX} (hp:∀ c tm H E',(∀ t v,lk E' t=some v->tm.get t=some v/\lk E t=some v)->Q (.panic c) E' D H->Z (.panic c) ⟨tm,D,up,H⟩) {K:KR} {g:Bool} {R0:Env} {rest:List aQ} (hK:∀ L R tm H,gR E L R tm->gR E L R0 tm->K g L R H->lH M ctx rest ⟨tm,D,up,H⟩ Z) :
 ∀ {l:List aQ} {L R:Env} {tm:T AV} {H:AHeap},F5 none l->gR E L R tm->gR E L R0 tm->jU M cZ Q E D K l g L R H->lH M ctx (l++rest) ⟨tm,D,up,H⟩ Z
 | [],L,R,tm,H,_,hr,hr0,h=>hK _ _ _ _ hr hr0 h
 | s::l,L,R,tm,H,hg,hr,hr0,h=>by
  rw [ur,Li];have hs:s.guard=none:=hg s (EZ ..);have:=yH.body hp (ctx:=ctx) (up:=up) (KK:=λ st'=>lH M ctx (l++rest) st' Z) hr hr0 (show yH M cZ s Q E D (jU M cZ Q E D K l) g L R H from h)
   λ L' R' tm' H' _ q1 q2 q3=>jU.free hp hK (λ x hx=>hg x (BZ _ hx)) q1 q2 q3
  obtain ⟨eY,dst,guard,args,op,ps⟩:=s;subst hs;cases eY<;>exact this
theorem NH:∀ (n:Nat) (f:List AV->AHeap->Prop) (l:List AV) (H:AHeap),l.length=n->kG n (lz n f) l H=f l H
 | 0,f,[],H,_=>rfl
 | n+1,f,v::l,H,h=>NH n (λ l=>f (v::l)) l H (by simpa using h)
 | 0,f,_::_,H,h=>by cases h
 | n+1,f,[],H,h=>by cases h
theorem tz {α:Type} (l:List α):bW l=l.length:=by
 induction l with
 | nil=>rfl
 | cons x l ih=>show bW l+1=_;rw [ih];rfl
theorem q9r:∀ (ks:List Nat) (L:Env) (vs:List AV),vs.length=ks.length->mP ks.length (gW ks L vs)=vs
 | [],L,[],_=>rfl
 | k::ks,L,v::vs,h=>by
  show v::mP ks.length (gW ks L vs)=_;rw [q9r ks L vs (by simpa using h)]
 | [],L,_::_,h=>by cases h
 | _::_,L,[],h=>by cases h
theorem xfh:∀ n,(nI n).length=n
 | 0=>rfl
 | n+1=>by show (nI n).length+1=_;rw [xfh n]
theorem jU.under {Z:aX} (hp:∀ c tm H E',(∀ t v,lk E' t=some v->tm.get t=some v/\lk E t=some v)->Q (.panic c) E' D H->Z (.panic c) ⟨tm,D,up,H⟩) {K:KR} {g:Bool} {R0:Env} {rest:List aQ} {t:Nat} {b:Bool} {v:AV} (hw:aE b (some v)=some true) {kf:List Nat} {L0:Env} (hK:∀ vs R tm H,vs.length=kf.length->gR E (gW kf L0 vs) R tm->gR E (gW kf L0 vs) R0 tm->K g (gW kf L0 vs) R H->lH M ctx rest ⟨tm,D,up,H⟩ Z) :
 ∀ {l:List aQ} {acc:List Nat} {us:List AV} {L R:Env} {tm:T AV} {H:AHeap},bO l acc=kf->us.length=acc.length->L=gW acc L0 us->F5 (some (t,b)) l->oW t l=true->tm.get t=some v->gR E L R tm->gR E L R0 tm->jU M cZ Q E D K l g L R H->lH M ctx (l++rest) ⟨tm,D,up,H⟩ Z
 | [],acc,us,L,R,tm,H,e1,e2,e3,_,_,_,hr,hr0,h=>by
  have e1:acc=kf:=e1;subst e1;subst e3;exact hK _ _ _ _ e2 hr hr0 h
 | s::l,acc,us,L,R,tm,H,e1,e2,e3,hg,ho,ht,hr,hr0,h=>by
  rw [ur,Li];have hs:s.guard=some (t,b):=hg s (EZ ..);have ho:cond (En s.dst t) false (cond s.eY (cond s.dst.isSome (oW t l) false) (oW t l))=true:=ho;have hd:En s.dst t=false:=by cases q:En s.dst t with
   | true=>rw [q] at ho;cases ho
   | false=>rfl
  rw [hd,xa] at ho;have ho':oW t l=true:=by
   cases hc:s.eY with
   | false=>rw [hc] at ho;exact ho
   | true=>rw [hc] at ho;cases hd:s.dst.isSome with
    | true=>rw [hd] at ho;exact ho
    | false=>rw [hd] at ho;cases ho
  have:=yH.body hp (ctx:=ctx) (up:=up) (KK:=λ st'=>lH M ctx (l++rest) st' Z) hr hr0 (show yH M cZ s Q E D (jU M cZ Q E D K l) g L R H from h)
   λ L' R' tm' H' hq q1 q2 q3=>by
    have e1:bO l (cond s.eY acc (Option.rec (motive:=λ _=>List Nat) acc (λ d=>d::acc) s.dst))=kf:=e1;obtain ⟨us',e2',e3'⟩:∃ us',us'.length=(cond s.eY acc (Option.rec (motive:=λ _=>List Nat) acc (λ d=>d::acc) s.dst)).length/\L'=gW (cond s.eY acc (Option.rec (motive:=λ _=>List Nat) acc (λ d=>d::acc) s.dst)) L0 us':=by
     rcases hq with ⟨hc,rfl,_⟩|⟨w,hc,rfl,_⟩
     ·rw [hc];exact ⟨us,e2,e3⟩
     ·rw [hc];cases s.dst with
      | none=>exact ⟨us,e2,e3⟩
      | some d=>exact ⟨w::us,by simpa using e2,by rw [e3];rfl⟩
    exact jU.under hp hw hK e1 e2' e3' (λ x hx=>hg x (BZ _ hx)) ho' (by
     rcases hq with ⟨_,_,rfl⟩|⟨w,_,_,rfl⟩
     ·exact ht
     ·cases hdd:s.dst with
      | none=>exact ht
      | some d =>
       rw [hdd] at hd;show (tm.set d w).get t=_;rw [T.aI,qc (Fw hd)];exact ht) q1 q2 q3
  obtain ⟨eY,dst,guard,args,op,ps⟩:=s;subst hs;have e:aE b (tm.get t)=some true:=by rw [ht];exact hw
  cases eY with
  | false=>exact bJ.intro (m:=ai) e this
  | true=>exact bJ.intro (m:=ai) e this
theorem jU.over {Z:aX} {R0:Env} {rest:List aQ} {t:Nat} {b:Bool} {v:AV} (hw:aE b (some v)=some false) {kf:List Nat} {L0:Env} {H:AHeap} (hK:∀ tm,gR E (gW kf L0 (nI kf.length)) R0 tm->lH M ctx rest ⟨tm,D,up,H⟩ Z) :
 ∀ {l:List aQ} {acc:List Nat} {tm:T AV},bO l acc=kf->F5 (some (t,b)) l->oW t l=true->tm.get t=some v->gR E (gW acc L0 (nI acc.length)) R0 tm->lH M ctx (l++rest) ⟨tm,D,up,H⟩ Z
 | [],acc,tm,e1,_,_,_,hr0=>by
  have e1:acc=kf:=e1;subst e1;exact hK _ hr0
 | s::l,acc,tm,e1,hg,ho,ht,hr0=>by
  rw [ur,Li];have hs:s.guard=some (t,b):=hg s (EZ ..);have ho:cond (En s.dst t) false (cond s.eY (cond s.dst.isSome (oW t l) false) (oW t l))=true:=ho;have hd:En s.dst t=false:=by cases q:En s.dst t with
   | true=>rw [q] at ho;cases ho
   | false=>rfl
  rw [hd,xa] at ho;have e:aE b (tm.get t)=some false:=by rw [ht];exact hw
  have hg':F5 (some (t,b)) l:=λ x hx=>hg x (BZ _ hx);have e1:bO l (cond s.eY acc (Option.rec (motive:=λ _=>List Nat) acc (λ d=>d::acc) s.dst))=kf:=e1;cases hc:s.eY with
  | true =>
   rw [hc] at ho e1;cases hds:s.dst.isSome with
   | false=>rw [hds] at ho;cases ho
   | true =>
    rw [hds] at ho;have:=jU.over hw hK e1 hg' ho ht hr0;obtain ⟨eY,dst,guard,args,op,ps⟩:=s;subst hs;subst hc;exact bJ.intro (m:=ai) e ⟨hds,this⟩
  | false =>
   rw [hc] at ho e1;have:=jU.over hw hK (tm:=dr s.dst .undef tm) e1 hg' ho (by
    cases hdd:s.dst with
     | none=>exact ht
     | some d =>
      rw [hdd] at hd;show (tm.set d _).get t=_;rw [T.aI,qc (Fw hd)];exact ht) (by
    have:=hr0.put s.dst .undef;cases hdd:s.dst with
     | none=>rw [hdd] at this;exact this
     | some d=>rw [hdd] at this;exact this)
   obtain ⟨eY,dst,guard,args,op,ps⟩:=s;subst hs;subst hc;exact bJ.intro (m:=ai) e this
theorem xQ {a b:Option (Nat × Bool)} (h:mO a b=true):a=b:=by
 cases a with
 | none=>cases b with
  | none=>rfl
  | some _=>cases h
 | some p=>cases b with
  | none=>cases h
  | some q =>
   obtain ⟨t,x⟩:=p;obtain ⟨u,y⟩:=q;have h:cond (Nat.beq t u) (cond x y (!y)) false=true:=h;cases hb:Nat.beq t u with
   | false=>rw [hb] at h;cases h
   | true =>
    rw [hb] at h;rw [HX hb];cases x<;>cases y<;>first|rfl|cases h
theorem uT:∀ (l:List aQ),(Ff l).flatMap (·.2)=l /\ ∀ x ∈ Ff l,F5 x.1 x.2
 | []=>⟨rfl,λ x hx=>by cases hx⟩
 | s::l=>by
  obtain ⟨h1,h2⟩:=uT l;have e:Ff (s::l)=List.casesOn (motive:=λ _=>List Be) (Ff l) [(s.guard,[s])] λ g r=>cond (mO g.1 s.guard) ((g.1,s::g.2)::r) ((s.guard,[s])::g::r):=rfl;rw [e];cases hg:Ff l with
  | nil =>
   rw [hg] at h1;exact ⟨by simpa using h1,λ x hx=>by simp at hx;subst hx;intro y hy;simp at hy;subst hy;rfl⟩
  | cons g r =>
   rw [hg] at h1 h2;show (cond (mO g.1 s.guard) ((g.1,s::g.2)::r) ((s.guard,[s])::g::r)).flatMap _=_ /\ ∀ x ∈ cond (mO g.1 s.guard) ((g.1,s::g.2)::r) ((s.guard,[s])::g::r),_;cases hs:mO g.1 s.guard with
   | true =>
    refine ⟨by simpa using h1,λ x hx=>?_⟩;rcases x8.1 hx with rfl|hx
    ·intro y hy;rcases x8.1 hy with rfl|hy
     ·exact (xQ hs).symm
     ·exact h2 g (EZ ..) y hy
    ·exact h2 x (BZ _ hx)
   | false =>
    refine ⟨by simpa using h1,λ x hx=>?_⟩;rcases x8.1 hx with rfl|hx
    ·intro y hy;simp at hy;subst hy;rfl
    ·exact h2 x hx
theorem qX.HI {Z:aX} (hp:∀ c tm H E',(∀ t v,lk E' t=some v->tm.get t=some v/\lk E t=some v)->Q (.panic c) E' D H->Z (.panic c) ⟨tm,D,up,H⟩) {K:KR} {g:Bool} (hK:∀ L R tm H,gR E L R tm->K g L R H->Z .normal ⟨tm,D,up,H⟩):∀ {gs:List Be} {L R:Env} {tm:T AV} {H:AHeap},(∀ x ∈ gs,F5 x.1 x.2)->gR E L R tm->qX M cZ Q E D K gs g L R H ->
 lH M ctx (gs.flatMap (·.2)) ⟨tm,D,up,H⟩ Z
 | [],L,R,tm,H,_,hr,h=>hK _ _ _ _ hr h
 | x::gs,L,R,tm,H,hg,hr,h=>by
  rw [jl];have ih:∀ L R tm H,gR E L R tm->qX M cZ Q E D K gs g L R H->lH M ctx (gs.flatMap (·.2)) ⟨tm,D,up,H⟩ Z:=λ L R tm H hr h=>qX.HI hp hK (λ x hx=>hg x (BZ _ hx)) hr h;have hx:=hg x (EZ ..);obtain ⟨q,l⟩:=x;cases q with
  | none=>exact jU.free hp (R0:=R) (λ L R tm H q1 _ q2=>ih L R tm H q1 q2) hx hr hr (show jU M cZ Q E D (qX M cZ Q E D K gs) l g L R H from h)
  | some q =>
   obtain ⟨t,b⟩:=q;cases ho:oW t l with
   | false =>
    have h:cond (oW t l) _ False:=h;rw [ho] at h;exact h.elim
   | true =>
    have h:cond (oW t l) _ False:=h;rw [ho,ql] at h;obtain ⟨v,R1,ht,hr1,h⟩:=TV.elim hr h;have kl:bW (bO l [])=(bO l []).length:=tz _;have h:B3 g (aE b (some v)) λ g w=>c9 g w (λ g=>jU M cZ Q E D (λ g L' _ H=>kG (bW (bO l [])) (lz (bW (bO l [])) λ vs H=>qX M cZ Q E D K gs g (gW (bO l []) L vs) R1 H) (mP (bW (bO l [])) L') H) l g L R1 H)
     (λ g=>kG (bW (bO l [])) (lz (bW (bO l [])) λ vs H=>qX M cZ Q E D K gs g (gW (bO l []) L vs) R1 H) (nI (bW (bO l []))) H):=h
    obtain ⟨w,hw,h⟩:=B3.elim h;cases w with
    | true =>
     refine jU.under hp (R0:=R1) hw (kf:=bO l []) (L0:=L) (λ vs R tm H q q1 q0 q2=>?_) (acc:=[]) (us:=[]) rfl rfl rfl hx ho ht hr1 hr1 h;rw [kl,q9r _ _ _ q,NH _ _ _ _ q] at q2;exact ih _ R1 tm H q0 q2
    | false =>
     have h:kG (bW (bO l [])) (lz (bW (bO l [])) λ vs H=>qX M cZ Q E D K gs g (gW (bO l []) L vs) R1 H) (nI (bW (bO l []))) H:=h;rw [kl,NH _ _ _ _ (xfh _)] at h;exact jU.over hw (kf:=bO l []) (L0:=L) (λ tm hq=>ih _ R1 tm H hq h) (acc:=[]) rfl hx ho ht hr1
theorem mG.HI {Z:aX} (hp:∀ c tm H E',(∀ t v,lk E' t=some v->tm.get t=some v/\lk E t=some v)->Q (.panic c) E' D H->Z (.panic c) ⟨tm,D,up,H⟩) {l:List aQ} {g:Bool} {H:AHeap} {K:KR} {tm:T AV} {ks:List Nat} (he:ey ks E tm) (h:mG M cZ Q E D l g H K) (hK:∀ L R tm H,gR E L R tm->K g L R H->Z .normal ⟨tm,D,up,H⟩):lH M ctx l ⟨tm,D,up,H⟩ Z:=by
 obtain ⟨h1,h2⟩:=uT l;have:=qX.HI hp (ctx:=ctx) hK h2 (gR.first he) h
 rwa [h1] at this
end
end
end Go.Am
namespace Go.Am
noncomputable section
variable {M:aO} {ctx:Ctx} {K:Kp}
theorem NZ (ks:List Nat) (E:Env):∀ (L:Env) (t:Nat) (v:AV),cA t ks=true->lk (dB ks E L) t=some v->lk L t=some v\/lk L t=none/\lk E t=some v
 | [],t,v,_,h=>.inr ⟨rfl,h⟩
 | (k,w)::r,t,v,ht,h=>by
  have h:lk (cond (cA k ks) ((k,w)::dB ks E r) (dB ks E r)) t=some v:=h;rw [oR];cases hm:cA k ks with
  | true =>
   rw [hm,ql,oR] at h;split at h
   ·rename_i e;rw [qk e];exact .inl h
   ·rename_i e;rw [qc e];exact NZ ks E r t v ht h
  | false =>
   rw [hm,xa] at h
   by_cases e:k=t
   ·subst e;rw [hm] at ht;cases ht
   ·rw [qc e];exact NZ ks E r t v ht h
theorem Ni (ks:List Nat) (E:Env) (hE:∀ t v,lk E t=some v->cA t ks=true):∀ (L:Env) (t:Nat) (v:AV),lk (dB ks E L) t=some v->cA t ks=true
 | [],t,v,h=>hE t v h
 | (k,w)::r,t,v,h=>by
  have h:lk (cond (cA k ks) ((k,w)::dB ks E r) (dB ks E r)) t=some v:=h;cases hm:cA k ks with
  | true =>
   rw [hm,ql,oR] at h;split at h
   ·rename_i e;subst e;exact hm
   ·exact Ni ks E hE r t v h
  | false=>rw [hm,xa] at h;exact Ni ks E hE r t v h
theorem gR.aj {E L R:Env} {tm:T AV} (h:gR E L R tm) {ks:List Nat} (hE:∀ t v,lk E t=some v->cA t ks=true):ey ks (dB ks E L) tm:=λ t v hv=>by
 have hm:=Ni ks E hE L t v hv;refine ⟨?_,hm⟩;rcases NZ ks E L t v hm hv with q|⟨q1,q2⟩
 ·exact h.l t v q
 ·exact h.e t v q1 q2
theorem ey.keys {ks:List Nat} {E:Env} {tm:T AV} (h:ey ks E tm):∀ t v,lk E t=some v->cA t ks=true:=λ t v hv=>(h t v hv).2
theorem ey.cZ {ks:List Nat} {E E':Env} {tm tm':T AV} (h:ey ks E tm) (h':∀ t v,lk E' t=some v->tm'.get t=some v/\lk E t=some v):ey ks E' tm':=λ t v hv=>⟨(h' t v hv).1,(h t v (h' t v hv).2).2⟩
theorem TV.cv {E L R:Env} {x:bP} {g:Bool} {P:Bool->AV->Prop} {tm:T AV} (hr:gR E L R tm) (h:CV E L R x g P):∃ v,mj tm x=some v/\P g v:=by
 cases x with
 | tmp t=>obtain ⟨v,_,h1,_,h2⟩:=TV.elim hr (show TV E L R t g (λ g _ v=>P g v) from h);exact ⟨v,h1,h2⟩
 | const v=>exact ⟨v,rfl,h⟩
 | dx v=>exact ⟨_,rfl,h⟩
 | func v=>exact ⟨_,rfl,h⟩
theorem OV.elim {ks:List Nat} {E:Env} {x:bP} {g:Bool} {P:Bool->AV->Prop} {tm:T AV} (hr:ey ks E tm) (h:OV E x g P):∃ v,mj tm x=some v/\P g v:=by
 cases x with
 | tmp t=>obtain ⟨v,h1,h2⟩:=LK.elim (show LK g (lk E t) P from h);exact ⟨v,(hr t v h1).1,h2⟩
 | const v=>exact ⟨v,rfl,h⟩
 | dx v=>exact ⟨_,rfl,h⟩
 | func v=>exact ⟨_,rfl,h⟩
theorem q39 {tm:T AV} {x:bP} {v:AV} {P:AV->Prop} (h:mj tm x=some v) (hp:P v):si tm x P:=by
 cases x with
 | tmp t=>exact bJ.intro (m:=ai) h hp
 | const c=>injection h with h;subst h;exact hp
 | dx c=>injection h with h;subst h;exact hp
 | func c=>injection h with h;subst h;exact hp
theorem cB.wp {a b:ab} {g:Bool} {v:AV} {A B:Bool->Prop} {tm:T AV} {c:bP} {st:St} {Q:aX} (hv:mj st.tm c=some v) (h:cB g v A B) (ha:A g->WP M ctx a st Q) (hb:B g->WP M ctx b st Q):WP M ctx (.cond c a b) st Q:=by
 obtain ⟨q,rfl,h⟩:=h.elim;refine q39 hv ?_;cases q with
 | true=>exact ha h
 | false=>exact hb h
def dO:ab->Nat
 | .seq a b=>dO a+dO b+1
 | .cond _ a b=>dO a+dO b+1
 | .block _ b=>dO b+1
 | .loop _ b=>dO b+1
 | .scope b=>dO b+1
 | _=>0
theorem W3.wp:∀ (n:Nat) (c:ab),dO c<=n -> ∀ {g:Bool} {Q:aK} {E:Env} {D:List aC} {H:AHeap} {tm:T AV} {up:Option ah},W3 M ctx K c g Q E D H->ey K.aj E tm->WP M ctx c ⟨tm,D,up,H⟩ (QQ K.aj Q up):=by
 intro n
 induction n with
 | zero =>
  intro c hc g Q E D H tm up h he;cases c with
  | skip=>exact ⟨rfl,E,he,h⟩
  | label _=>exact ⟨rfl,E,he,h⟩
  | exit _=>exact ⟨rfl,E,he,h⟩
  | goto _=>exact ⟨rfl,E,he,h⟩
  | ret=>exact ⟨rfl,E,he,h⟩
  | stuck=>exact False.elim h
  | region l=>exact mG.HI (λ c tm' H' E' h1 h2=>⟨rfl,E',he.cZ h1,h2⟩) he (show mG M K.cZ Q E D l g H _ from h) λ L R tm H hr hk=>⟨rfl,_,hr.aj he.keys,hk⟩
  | rangeFunc f k =>
   obtain ⟨v,hv,h⟩:=OV.elim he (show OV E f g _ from h);exact q39 hv (by
    have:=h tm up he;unfold ET at this ⊢;split
    ·rename_i hr;rw [hr] at this;exact Gf this λ e st ⟨h1,h2,h3⟩=>⟨h1,E,by rw [h2];exact he,h3⟩
    ·rename_i l hr;rw [hr] at this;exact xV (m:=ai) this λ d q=>Gf q λ e st ⟨h1,h2,h3⟩=>⟨h1,E,by rw [h2];exact he,h3⟩)
  | seq _ _=>simp [dO] at hc
  | cond _ _ _=>simp [dO] at hc
  | block _ _=>simp [dO] at hc
  | loop _ _=>simp [dO] at hc
  | scope _=>simp [dO] at hc
 | succ n ih =>
  intro c hc g Q E D H tm up h he;have seqq:∀ {a b:ab} {tm:T AV} {H:AHeap},dO b<=n->WP M ctx a ⟨tm,D,up,H⟩ (QQ K.aj (aw (W3 M ctx K b) Q) up)->WP M ctx a ⟨tm,D,up,H⟩ (nR (WP M ctx b) (QQ K.aj Q up)):=λ {a b tm H} hb h=>oN h λ e st ⟨h1,E',h2,h3⟩=>by
   obtain ⟨tm',D',up',H'⟩:=st;subst h1;cases e with
   | normal=>exact ih b hb h3 h2
   | exit _=>exact ⟨rfl,E',h2,h3⟩
   | goto _=>exact ⟨rfl,E',h2,h3⟩
   | ret=>exact ⟨rfl,E',h2,h3⟩
   | panic _=>exact ⟨rfl,E',h2,h3⟩
  have cnd:∀ {c:bP} {x y:ab} {E:Env} {tm:T AV} {v:AV} {g:Bool} {Q:aK} {H:AHeap},dO x<=n->dO y<=n->mj tm c=some v->ey K.aj E tm->cB g v (λ g=>W3 M ctx K x g Q E D H) (λ g=>W3 M ctx K y g Q E D H)->WP M ctx (.cond c x y) ⟨tm,D,up,H⟩ (QQ K.aj Q up) :=
   λ {c x y E tm v g Q H} hx hy hv he h=>cB.wp (tm:=tm) (st:=⟨tm,D,up,H⟩) hv h (λ h=>ih x hx h he) (λ h=>ih y hy h he)
  cases c with
  | seq a b =>
   have hab:dO a+dO b<=n:=by simp only [dO] at hc;omega
   have gen:W3 M ctx K a g (aw (W3 M ctx K b) Q) E D H->WP M ctx (.seq a b) ⟨tm,D,up,H⟩ (QQ K.aj Q up):=λ h=>seqq (a:=a) (b:=b) (by omega) (ih a (by omega) h he);have mq:∀ (l:List aQ) (KF:KR),a=.region l->mG M K.cZ Q E D l g H KF->(∀ L R tm H,gR E L R tm->KF g L R H->WP M ctx b ⟨tm,D,up,H⟩ (QQ K.aj Q up))->WP M ctx (.seq a b) ⟨tm,D,up,H⟩ (QQ K.aj Q up):=λ l KF e h' hk=>by
    subst e;exact mG.HI (Z:=nR (WP M ctx b) (QQ K.aj Q up)) (λ c tm' H' E' h1 h2=>⟨rfl,E',he.cZ h1,h2⟩) he h' hk
   cases a with
   | region l =>
    have plain:(mG M K.cZ Q E D l g H λ g L _ H=>W3 M ctx K b g Q (dB K.aj E L) D H)->WP M ctx (.seq (.region l) b) ⟨tm,D,up,H⟩ (QQ K.aj Q up):=λ h=>mq l _ rfl h λ L R tm H hr hk=>ih b (by omega) hk (hr.aj he.keys);cases b with
    | cond c x y =>
     have hxy:dO x+dO y+1<=n:=by simp only [dO] at hab;omega
     refine mq l _ rfl h λ L R tm H hr hk=>?_;obtain ⟨v,hv,hk⟩:=TV.cv hr hk;exact cnd (by omega) (by omega) hv (hr.aj he.keys) hk
    | seq b1 r =>
     cases b1 with
     | cond c x y =>
      have hxy:dO x+dO y+1+dO r+1<=n:=by simp only [dO] at hab;omega
      refine mq l _ rfl h λ L R tm H hr hk=>?_;obtain ⟨v,hv,hk⟩:=TV.cv hr hk;exact seqq (by omega) (cnd (by omega) (by omega) hv (hr.aj he.keys) hk)
     | _=>exact plain h
    | _=>exact plain h
   | _=>exact gen h
  | cond c x y =>
   have hab:dO x+dO y<=n:=by simp only [dO] at hc;omega
   obtain ⟨v,hv,h⟩:=OV.elim he (show OV E c g _ from h);exact cnd (by omega) (by omega) hv he h
  | block id b =>
   have hb:dO b<=n:=by simp only [dO] at hc;omega
   exact oN (c:=b) (ih b hb (show W3 M ctx K b g (aR id Q) E D H from h) he) λ e st ⟨h1,E',h2,h3⟩=>by cases e<;>exact ⟨h1,E',h2,h3⟩
  | scope b =>
   have hb:dO b<=n:=by simp only [dO] at hc;omega
   refine oN (c:=b) (ih b hb (show W3 M ctx K b g (pA b Q) E D H from h) he) λ e st ⟨h1,E',h2,h3⟩=>?_;cases e with
   | goto l=>exact ⟨h3.1,h1,E',h2,h3.2⟩
   | normal=>exact ⟨h1,E',h2,h3⟩
   | exit _=>exact ⟨h1,E',h2,h3⟩
   | ret=>exact ⟨h1,E',h2,h3⟩
   | panic _=>exact ⟨h1,E',h2,h3⟩
  | loop aj b =>
   have hb:dO b<=n:=by simp only [dO] at hc;omega
   cases aj with
   | some _=>exact False.elim h
   | none =>
    obtain ⟨I,⟨n0,E0,h0,hs⟩,hstep⟩:=(show bS (W3 M ctx K b) Q E D H from h)
    refine ⟨λ n st=>st.up=up /\ ∃ E',ey K.aj E' st.tm/\I n E' st.az st.H,⟨n0,rfl,E0,hs.sub he,h0⟩,λ n st ⟨h1,E',h2,h3⟩=>?_⟩;obtain ⟨tm',D',up',H'⟩:=st;subst h1;refine oN (c:=b) (ih b hb (hstep n E' D' H' h3) h2) λ e st ⟨k1,E2,k2,k3⟩=>?_;cases e with
    | normal=>obtain ⟨m,E3,q1,q2,q3⟩:=k3;exact ⟨m,q3,k1,E3,q2.sub k2,q1⟩
    | exit _=>exact ⟨k1,E2,k2,k3⟩
    | goto _=>exact ⟨k1,E2,k2,k3⟩
    | ret=>exact ⟨k1,E2,k2,k3⟩
    | panic _=>exact ⟨k1,E2,k2,k3⟩
  | skip=>exact ⟨rfl,E,he,h⟩
  | label _=>exact ⟨rfl,E,he,h⟩
  | exit _=>exact ⟨rfl,E,he,h⟩
  | goto _=>exact ⟨rfl,E,he,h⟩
  | ret=>exact ⟨rfl,E,he,h⟩
  | stuck=>exact False.elim h
  | region l=>exact ih _ (ja _) h he
  | rangeFunc f k=>exact ih _ (ja _) h he
def dR (E:Env) (H:AHeap):List di->(List AV->Prop)->Prop
 | [],P=>P []
 | .tmp t::rs,P=>LK true (lk E t) λ _ v=>dR E H rs λ vs=>P (v::vs)
 | .jL a::rs,P=>LK true (lk E a) λ _ v=>B3 true (Op.aa [v] H) λ _ v=>dR E H rs λ vs=>P (v::vs)
 | .dA n a::rs,P=>LK true (lk E a) λ _ v=>B3 true (Op.au n [v] H) λ _ v=>dR E H rs λ vs=>P (v::vs)
def jW (M:aO) (rs:List di) (E:Env) (Q:bE->AHeap->Prop):List aC->Option ah->AHeap->Prop
 | [],none,H=>dR E H rs λ l=>Q (.ret (dt l)) H
 | [],some c,H=>Q (.panic c) H
 | .ic b::ds,m,H=>H.get b=some (.deferred (some []))/\jW M rs E Q ds m (H.set b (.deferred none))
 | .fn (.func f) args::ds,m,H=>∃ v up' H',iU M f args (some (m.getD [])) H (.ret v) (some up') H'/\bJ ai (i5 m up') λ m'=>jW M rs E Q ds m' H'
 | .fn (.yield _) _::_,_,_=>False
theorem dR.elim {ks:List Nat} {E:Env} {tm:T AV} (he:ey ks E tm) {H:AHeap}:∀ {rs:List di} {P:List AV->Prop},dR E H rs P -> ∃ l,cO H tm rs=some l/\P l
 | [],P,h=>⟨[],rfl,h⟩
 | .tmp t::rs,P,h=>by
  obtain ⟨v,h1,h⟩:=LK.elim (show LK true (lk E t) _ from h);obtain ⟨l,h2,h⟩:=dR.elim he h;exact ⟨v::l,by rw [D4,(he t v h1).1,h2];rfl,h⟩
 | .jL t::rs,P,h=>by
  obtain ⟨v,h1,h⟩:=LK.elim (show LK true (lk E t) _ from h);obtain ⟨w,h2,h⟩:=B3.elim h;obtain ⟨l,h3,h⟩:=dR.elim he h;exact ⟨w::l,by rw [CY,(he t v h1).1,qd,h2,qd,h3];rfl,h⟩
 | .dA n t::rs,P,h=>by
  obtain ⟨v,h1,h⟩:=LK.elim (show LK true (lk E t) _ from h);obtain ⟨w,h2,h⟩:=B3.elim h;obtain ⟨l,h3,h⟩:=dR.elim he h;exact ⟨w::l,by rw [Dk,(he t v h1).1,qd,h2,qd,h3];rfl,h⟩
theorem jW.Mr {ks:List Nat} {E:Env} {tm:T AV} (he:ey ks E tm) {rs:List di} {Q:bE->AHeap->Prop}:∀ {D:List aC} {m:Option ah} {H:AHeap},jW M rs E Q D m H->rZ M rs tm Q D m H
 | [],none,H,h=>by obtain ⟨l,h1,h2⟩:=dR.elim he h;exact bJ.intro (m:=ai) h1 h2
 | [],some c,H,h=>h
 | .ic b::ds,m,H,⟨h1,h2⟩=>⟨h1,jW.Mr he h2⟩
 | .fn (.func f) args::ds,m,H,⟨v,up',H',h1,h2⟩=>⟨v,up',H',h1,xV h2 λ m' h=>jW.Mr he h⟩
 | .fn (.yield _) _::_,_,_,h=>h
def aU (M:aO) (rs:List di) (Q:bE->AHeap->Prop):aK:=λ e E D H=>match e with
 | .normal=>jW M rs E Q D none H
 | .ret=>jW M rs E Q D none H
 | .panic c=>jW M rs E Q D (some c) H
 | _=>False
def kj (M:aO) (f:Nat) (vs:List AV) (H:AHeap) (Q:bE->AHeap->Prop):Prop:=∃ e H',CALL M f vs H e H'/\Q e H'
def rL (Q:AV->AHeap->Prop) (e:bE) (H:AHeap):Prop:=match e with
 | .ret v=>Q v H
 | .panic _=>False
def ye (M:aO) (f:Nat) (vs:List AV) (H:AHeap) (Q:AV->AHeap->Prop):Prop:=kj M f vs H (rL Q)
theorem ye.elim {f:Nat} {vs:List AV} {H:AHeap} {Q:AV->AHeap->Prop} (h:ye M f vs H Q):∃ v H',CALL M f vs H (.ret v) H'/\Q v H':=by
 obtain ⟨e,H',h1,h2⟩:=h;cases e with
 | ret v=>exact ⟨v,H',h1,h2⟩
 | panic _=>exact h2.elim
theorem ye.intro {f:Nat} {vs:List AV} {H:AHeap} {Q:AV->AHeap->Prop} {v:AV} {H':AHeap} (h:CALL M f vs H (.ret v) H') (hq:Q v H'):ye M f vs H Q:=⟨_,H',h,hq⟩
theorem ye.mono {f:Nat} {vs:List AV} {H:AHeap} {Q Q':AV->AHeap->Prop} (h:ye M f vs H Q) (hq:∀ v H',Q v H'->Q' v H'):ye M f vs H Q':=by
 obtain ⟨v,H',h1,h2⟩:=h.elim;exact ⟨_,H',h1,hq _ _ h2⟩
theorem C3.q {m:Bool} {f:Nat} {vs:List AV} {H:AHeap} {R:AV->AHeap->Prop} {P:Bool->AV->AHeap->Prop} (h:ye M f vs H R) (hk:∀ v H',R v H'->P m v H'):C3 M m (.func f) vs H P:=by
 obtain ⟨v,H',h1,h2⟩:=h.elim;exact ⟨v,H',h1,hk v H' h2⟩
theorem C3.ret {m:Bool} {f:Nat} {vs:List AV} {H:AHeap} {P:Bool->AV->AHeap->Prop} {v:AV} {H':AHeap} (h:CALL M f vs H (.ret v) H') (hk:P m v H'):C3 M m (.func f) vs H P:=⟨v,H',h,hk⟩
theorem C3.D2 {m:Bool} {l:Nat} {vs:List AV} {H:AHeap} {P:Bool->AV->AHeap->Prop} {v:AV} {H':AHeap} (h:jN M l vs H (.ret v) H') (hk:P m v H'):C3 M m (.yield l) vs H P:=⟨v,H',h,hk⟩
theorem P3.q {m:Bool} {X:ah->AHeap->Prop} {f:Nat} {vs:List AV} {H:AHeap} {R:bE->AHeap->Prop} {P:Bool->AV->AHeap->Prop} (h:kj M f vs H R) (hk:∀ v H',R (.ret v) H'->P m v H') (hx:∀ c H',R (.panic c) H'->X c H'):P3 M m X (.func f) vs H P:=by
 obtain ⟨e,H',h1,h2⟩:=h;refine ⟨e,H',h1,?_⟩;cases e with
 | ret v=>exact hk _ _ h2
 | panic c=>exact hx _ _ h2
def rI:Nat->List AV->Env
 | _,[]=>[]
 | i,v::vs=>(i,v)::rI (i+1) vs
def mZ:Nat->Nat->List Nat->Bool
 | _,0,_=>true
 | i,n+1,ks=>cA i ks && mZ (i+1) n ks
theorem q0z:∀ (vs:List AV) (i t:Nat) (tm:T AV),(fj i vs tm).get t=if i<=t then (match vs[t-i]? with|some v=>some v|none=>tm.get t) else tm.get t
 | [],i,t,tm=>by simp [fj]
 | v::vs,i,t,tm=>by
  rw [fj,q0z vs (i+1) t,T.aI]
  by_cases h:i=t
  ·subst h;simp;intro h;omega
  ·by_cases h2:i<=t
   ·have e:t-i=(t-(i+1))+1:=by omega
    rw [qk (show i+1<=t by omega),qk h2,qc h,e,zd]
   ·rw [qc (by omega),qc h2,qc h]
theorem xdz:∀ (vs:List AV) (i t:Nat) (v:AV),lk (rI i vs) t=some v->i<=t/\vs[t-i]? = some v
 | [],i,t,v,h=>by cases h
 | w::vs,i,t,v,h=>by
  rw [rI,oR] at h;split at h
  ·rename_i e;subst e;injection h with h;subst h;simp
  ·obtain ⟨h1,h2⟩:=xdz vs (i+1) t v h;refine ⟨by omega,?_⟩;have e:t-i=(t-(i+1))+1:=by omega
   rw [e,zd,h2]
theorem q43:∀ (n i:Nat) (ks:List Nat),mZ i n ks=true -> ∀ t,i<=t->t<i+n->cA t ks=true
 | 0,i,ks,_,t,h1,h2=>by omega
 | n+1,i,ks,h,t,h1,h2=>by
  simp only [mZ,qx] at h
  by_cases e:i=t
  ·subst e;exact h.1
  ·exact q43 n (i+1) ks h.2 t (by omega) (by omega)
theorem tM {ks:List Nat} {vs:List AV} (h:mZ 0 vs.length ks=true):ey ks (rI 0 vs) (fj 0 vs .nil):=λ t v hv=>by
 obtain ⟨_,h2⟩:=xdz vs 0 t v hv;rw [zH] at h2;refine ⟨by rw [q0z,qk (ja _),zH,h2],q43 _ 0 ks h t (ja _) ?_⟩;rw [x6];exact (qv.1 h2).1
structure Fn3 where
 n:Nat
 F:aq
 K:Kp
def pre:ab->List ab
 | .seq a b=>.seq a b::gC (pre a) (pre b)
 | .cond c a b=>.cond c a b::gC (pre a) (pre b)
 | .block i b=>.block i b::pre b
 | .loop k b=>.loop k b::pre b
 | .scope b=>.scope b::pre b
 | c=>[c]
def part (c:ab) (k:Nat):ab:=Option.rec (motive:=λ _=>ab) .stuck (λ c=>c) (nth (pre c) k)
def dC:ab->Nat
 | .seq a b=>dC a+dC b+1
 | .cond _ a b=>dC a+dC b+1
 | .block _ b=>dC b+1
 | .loop _ b=>dC b+1
 | .scope b=>dC b+1
 | _=>1
theorem AU:∀ (c:ab),(pre c).length=dC c
 | .seq a b=>by simp [pre,dC,mb,AU a,AU b]
 | .cond _ a b=>by simp [pre,dC,mb,AU a,AU b]
 | .block _ b=>by simp [pre,dC,AU b]
 | .loop _ b=>by simp [pre,dC,AU b]
 | .scope b=>by simp [pre,dC,AU b]
 | .skip=>rfl
 | .label _=>rfl
 | .exit _=>rfl
 | .goto _=>rfl
 | .ret=>rfl
 | .stuck=>rfl
 | .region _=>rfl
 | .rangeFunc _ _=>rfl
theorem OY (c:ab):∃ l,pre c=c::l:=by cases c<;>exact ⟨_,rfl⟩
theorem NI {α:Type}:∀ (l:List α) (i:Nat),nth l i=l[i]?
 | [],i=>rfl
 | x::l,0=>rfl
 | x::l,i+1=>by rw [zd,<-NI l i];rfl
theorem Ef:∀ (r:ab) (k:Nat) (c:ab),(pre r)[k]? = some c -> ∃ l,(pre r).drop k=pre c++l:=by
 intro r
 induction r with
 | seq a b iha ihb =>
  intro k c h;cases k with
  | zero=>simp [pre] at h;subst h;exact ⟨[],by simp⟩
  | succ k =>
   simp only [pre,mb,zd] at h;simp only [pre,mb,zm]
   by_cases hk:k<(pre a).length
   ·rw [xi hk] at h;obtain ⟨l,hl⟩:=iha k c h;exact ⟨l++pre b,by rw [LC (by omega),hl,qt]⟩
   ·rw [xn (by omega)] at h;obtain ⟨l,hl⟩:=ihb _ c h;refine ⟨l,?_⟩;rw [Cr,kc (by omega),zn,hl]
 | cond x a b iha ihb =>
  intro k c h;cases k with
  | zero=>simp [pre] at h;subst h;exact ⟨[],by simp⟩
  | succ k =>
   simp only [pre,mb,zd] at h;simp only [pre,mb,zm]
   by_cases hk:k<(pre a).length
   ·rw [xi hk] at h;obtain ⟨l,hl⟩:=iha k c h;exact ⟨l++pre b,by rw [LC (by omega),hl,qt]⟩
   ·rw [xn (by omega)] at h;obtain ⟨l,hl⟩:=ihb _ c h;refine ⟨l,?_⟩;rw [Cr,kc (by omega),zn,hl]
 | block i b ih =>
  intro k c h;cases k with
  | zero=>simp [pre] at h;subst h;exact ⟨[],by simp⟩
  | succ k=>simp only [pre,zd] at h;simpa only [pre,zm] using ih k c h
 | loop i b ih =>
  intro k c h;cases k with
  | zero=>simp [pre] at h;subst h;exact ⟨[],by simp⟩
  | succ k=>simp only [pre,zd] at h;simpa only [pre,zm] using ih k c h
 | scope b ih =>
  intro k c h;cases k with
  | zero=>simp [pre] at h;subst h;exact ⟨[],by simp⟩
  | succ k=>simp only [pre,zd] at h;simpa only [pre,zm] using ih k c h
 | _ =>
  intro k c h;cases k with
  | zero=>simp [pre] at h;subst h;exact ⟨[],by simp [pre]⟩
  | succ k=>simp [pre] at h
theorem q5v {r:ab} {k:Nat} {c:ab} (h:(pre r)[k]? = some c):part r k=c:=by
 unfold part;rw [NI,h]
theorem q5u {r:ab} {k:Nat} {c:ab} (h:part r k=c) (hc:c ≠ .stuck):∀ (j:Nat) (d:ab),(pre c)[j]? = some d->part r (k+j)=d:=λ j d hd=>by
 have h1:(pre r)[k]? = some c:=by
  unfold part at h;rw [NI] at h;cases hq:(pre r)[k]? with
  | none=>rw [hq] at h;exact (hc h.symm).elim
  | some x=>rw [hq] at h;exact congrArg some h
 obtain ⟨l,hl⟩:=Ef r k c h1;refine q5v ?_;rw [<-vw,hl,xi (qv.1 hd).1,hd]
theorem vB (c:ab):(pre c)[0]? = some c:=by obtain ⟨l,h⟩:=OY c;rw [h];rfl
theorem Ar {r:ab} {k:Nat} {c a b:ab} (h:part r k=c) (hc:c ≠ .stuck) (e:∃ x l,pre c=x::(pre a++l)):part r (k+1)=a:=by
 obtain ⟨x,l,e⟩:=e;obtain ⟨l',e'⟩:=OY a;exact q5u h hc 1 a (by rw [e,e'];rfl)
theorem FZ {r:ab} {k:Nat} {c a b:ab} (h:part r k=c) (hc:c ≠ .stuck) (e:∃ x,pre c=x::(pre a++pre b)):part r (k+1+dC a)=b:=by
 obtain ⟨x,e⟩:=e;obtain ⟨l',e'⟩:=OY b;rw [vj];exact q5u h hc (1+dC a) b (by rw [e,Dc,zd,xn (by rw [AU];exact qf _),AU,Nat.sub_self,e'];rfl)
def U (M:aO) (ctx:Ctx) (K:Kp) (X:Nat->WX):ab->Nat->WX
 | .skip,_,g,Q,E,D,H=>aB g Q .normal E D H
 | .label _,_,g,Q,E,D,H=>aB g Q .normal E D H
 | .exit id,_,g,Q,E,D,H=>aB g Q (.exit id) E D H
 | .goto l,_,g,Q,E,D,H=>aB g Q (.goto l) E D H
 | .ret,_,g,Q,E,D,H=>aB g Q .ret E D H
 | .stuck,_,_,_,_,_,_=>False
 | .region l,_,g,Q,E,D,H=>mG M K.cZ Q E D l g H λ g L _ H=>aB g Q .normal (dB K.aj E L) D H
 | .seq a b,k,g,Q,E,D,H=>match a,b with
  | .region l,.cond c x y=>mG M K.cZ Q E D l g H λ g L R H=>CV E L R c g λ g v=>cB g v (λ g=>(Bool.rec (motive:=λ _=>WX) (U M ctx K X x (k+3)) (X (k+3)) (cA (k+3) K.named)) g Q (dB K.aj E L) D H) (λ g=>(Bool.rec (motive:=λ _=>WX) (U M ctx K X y (k+3+dC x)) (X (k+3+dC x)) (cA (k+3+dC x) K.named)) g Q (dB K.aj E L) D H)
  | .region l,.seq (.cond c x y) r=>mG M K.cZ Q E D l g H λ g L R H=>CV E L R c g λ g v=>cB g v (λ g=>(Bool.rec (motive:=λ _=>WX) (U M ctx K X x (k+4)) (X (k+4)) (cA (k+4) K.named)) g (aw (Bool.rec (motive:=λ _=>WX) (U M ctx K X r (k+4+dC x+dC y)) (X (k+4+dC x+dC y)) (cA (k+4+dC x+dC y) K.named)) Q) (dB K.aj E L) D H)
   (λ g=>(Bool.rec (motive:=λ _=>WX) (U M ctx K X y (k+4+dC x)) (X (k+4+dC x)) (cA (k+4+dC x) K.named)) g (aw (Bool.rec (motive:=λ _=>WX) (U M ctx K X r (k+4+dC x+dC y)) (X (k+4+dC x+dC y)) (cA (k+4+dC x+dC y) K.named)) Q) (dB K.aj E L) D H)
  | .region l,b=>mG M K.cZ Q E D l g H λ g L _ H=>(Bool.rec (motive:=λ _=>WX) (U M ctx K X b (k+2)) (X (k+2)) (cA (k+2) K.named)) g Q (dB K.aj E L) D H
  | a,b=>(Bool.rec (motive:=λ _=>WX) (U M ctx K X a (k+1)) (X (k+1)) (cA (k+1) K.named)) g (aw (Bool.rec (motive:=λ _=>WX) (U M ctx K X b (k+1+dC a)) (X (k+1+dC a)) (cA (k+1+dC a) K.named)) Q) E D H
 | .cond c x y,k,g,Q,E,D,H=>OV E c g λ g v=>cB g v (λ g=>(Bool.rec (motive:=λ _=>WX) (U M ctx K X x (k+1)) (X (k+1)) (cA (k+1) K.named)) g Q E D H) (λ g=>(Bool.rec (motive:=λ _=>WX) (U M ctx K X y (k+1+dC x)) (X (k+1+dC x)) (cA (k+1+dC x) K.named)) g Q E D H)
 | .block id b,k,g,Q,E,D,H=>(Bool.rec (motive:=λ _=>WX) (U M ctx K X b (k+1)) (X (k+1)) (cA (k+1) K.named)) g (aR id Q) E D H
 | .scope b,k,g,Q,E,D,H=>(Bool.rec (motive:=λ _=>WX) (U M ctx K X b (k+1)) (X (k+1)) (cA (k+1) K.named)) g (pA b Q) E D H
 | .loop (some _) _,_,_,_,_,_,_=>False
 | .loop none b,k,g,Q,E,D,H=>bS (Bool.rec (motive:=λ _=>WX) (U M ctx K X b (k+1)) (X (k+1)) (cA (k+1) K.named)) Q E D H
 | .rangeFunc f n,_,g,Q,E,D,H=>OV E f g λ g v=>mn M K.aj ctx n E D H Q v
theorem PC (r:ab):∀ (n:Nat) (c:ab),dC c<=n -> ∀ k,part r k=c->U M ctx K (λ j=>W3 M ctx K (part r j)) c k=W3 M ctx K c:=by
 intro n
 induction n with
 | zero=>intro c hc;cases c<;>simp [dC] at hc
 | succ n ih =>
  intro c hc k hk;have sub:∀ (d:ab) (j:Nat),dC d<=n->part r j=d->Bool.rec (motive:=λ _=>WX) (U M ctx K (λ j=>W3 M ctx K (part r j)) d j) (W3 M ctx K (part r j)) (cA j K.named)=W3 M ctx K d:=λ d j h1 h2=>by
   cases cA j K.named with
   | true=>show W3 M ctx K (part r j)=_;rw [h2]
   | false=>exact ih d h1 j h2
  have pl:=@Ar r;have pr:=@FZ r;cases c with
  | seq a b =>
   have e:pre (.seq a b)=.seq a b::(pre a++pre b):=by simp [pre,mb]
   have ha:=Ar (b:=b) hk (by simp) ⟨_,_,e⟩;have hb:=FZ hk (by simp) ⟨_,e⟩;have hs:dC a+dC b<=n:=by simp only [dC] at hc;omega
   have gen:(Bool.rec (motive:=λ _=>WX) (U M ctx K (λ j=>W3 M ctx K (part r j)) a (k+1)) (W3 M ctx K (part r (k+1))) (cA (k+1) K.named))=W3 M ctx K a/\(Bool.rec (motive:=λ _=>WX) (U M ctx K (λ j=>W3 M ctx K (part r j)) b (k+1+dC a)) (W3 M ctx K (part r (k+1+dC a))) (cA (k+1+dC a) K.named))=W3 M ctx K b :=
    ⟨sub a _ (by omega) ha,sub b _ (by omega) hb⟩
   cases a with
   | region l =>
    have plain:(Bool.rec (motive:=λ _=>WX) (U M ctx K (λ j=>W3 M ctx K (part r j)) b (k+2)) (W3 M ctx K (part r (k+2))) (cA (k+2) K.named))=W3 M ctx K b:=sub b _ (by omega) hb;cases b with
    | cond c x y =>
     have e2:pre (.cond c x y)=.cond c x y::(pre x++pre y):=by simp [pre,mb]
     have hx:=Ar (b:=y) hb (by simp) ⟨_,_,e2⟩;have hy:=FZ hb (by simp) ⟨_,e2⟩;have hxy:dC x+dC y+1<=n:=by simp only [dC] at hs;omega
     have s1:=sub x (k+3) (by omega) hx;have s2:=sub y (k+3+dC x) (by omega) hy;funext g Q E D H;simp only [U,W3,s1,s2]
    | seq b1 q =>
     cases b1 with
     | cond c x y =>
      have e1:pre (.seq (.cond c x y) q)=.seq (.cond c x y) q::(pre (.cond c x y)++pre q):=by simp [pre,mb]
      have e2:pre (.cond c x y)=.cond c x y::(pre x++pre y):=by simp [pre,mb]
      have hc2:=Ar (b:=q) hb (by simp) ⟨_,_,e1⟩;have hq:=FZ hb (by simp) ⟨_,e1⟩;have hx:=Ar (b:=y) hc2 (by simp) ⟨_,_,e2⟩;have hy:=FZ hc2 (by simp) ⟨_,e2⟩;have hxy:dC x+dC y+1+dC q+1<=n:=by simp only [dC] at hs;omega
      have s1:=sub x (k+4) (by omega) hx;have s2:=sub y (k+4+dC x) (by omega) hy;have s3:=sub q (k+4+dC x+dC y) (by omega) (by rw [<-hq];simp only [dC];congr 1;omega);funext g Q E D H;simp only [U,W3,s1,s2,s3]
     | _=>funext g Q E D H;simp only [U,W3] at plain ⊢;simp only [plain]
    | _=>funext g Q E D H;simp only [U,W3] at plain ⊢;simp only [plain]
   | _=>funext g Q E D H;simp only [U,W3] at gen ⊢;simp only [gen.1,gen.2]
  | cond c x y =>
   have e2:pre (.cond c x y)=.cond c x y::(pre x++pre y):=by simp [pre,mb]
   have hx:=Ar (b:=y) hk (by simp) ⟨_,_,e2⟩;have hy:=FZ hk (by simp) ⟨_,e2⟩;have hxy:dC x+dC y<=n:=by simp only [dC] at hc;omega
   have s1:=sub x (k+1) (by omega) hx;have s2:=sub y (k+1+dC x) (by omega) hy;funext g Q E D H;simp only [U,W3,s1,s2]
  | block i b =>
   have s1:=sub b (k+1) (by simp only [dC] at hc;omega) (Ar (b:=b) hk (by simp) ⟨.block i b,[],by simp [pre]⟩);funext g Q E D H;simp only [U,W3,s1]
  | scope b =>
   have s1:=sub b (k+1) (by simp only [dC] at hc;omega) (Ar (b:=b) hk (by simp) ⟨.scope b,[],by simp [pre]⟩);funext g Q E D H;simp only [U,W3,s1]
  | loop i b =>
   have s1:=sub b (k+1) (by simp only [dC] at hc;omega) (Ar (b:=b) hk (by simp) ⟨.loop i b,[],by simp [pre]⟩);funext g Q E D H;cases i with
   | none=>simp only [U,W3,s1]
   | some _=>rfl
  | _=>funext g Q E D H;rfl
theorem HW:∃ F:aO->Ctx->Kp × ab->WX,F=λ M ctx p=>W3 M ctx p.1 p.2:=⟨_,rfl⟩
def W:aO->Ctx->Kp × ab->WX:=Classical.choose HW
theorem mV (M:aO) (ctx:Ctx) (p:Kp × ab):W M ctx p=W3 M ctx p.1 p.2:=congrFun (congrFun (congrFun (Classical.choose_spec HW) M) ctx) p
def funcAt (P:Program) (n:Nat):aq:=Option.rec (motive:=λ _=>aq) ⟨[],.stuck,[]⟩ (λ f=>f) ((ak P).func n)
def ES (F:aq) (i:Nat):cP:=Option.rec (motive:=λ _=>cP) ⟨[],.stuck,.stuck⟩ (λ l=>l) (nth F.loops i)
theorem aL {M:aO} {ctx:Ctx} {K:Kp} {r:ab} {k:Nat} {g:Bool} {Q:aK} {E:Env} {D:List aC} {H:AHeap} {R:Prop} (h:U M ctx K (λ j=>W M ctx (K,part r j)) (part r k) k g Q E D H=R):W M ctx (K,part r k) g Q E D H=R:=by
 rw [<-h];have e:(λ j=>W M ctx (K,part r j))=λ j=>W3 M ctx K (part r j):=by funext j;exact mV ..
 rw [e,PC (M:=M) (ctx:=ctx) (K:=K) r _ (part r k) (qf _) k rfl,mV]
abbrev uu:AV:=.undef
theorem Pq (c:ab):part c 0=c:=q5v (vB c)
theorem xw {α β:Type} {a b:α} {x y:β} (h:(a,x)=(b,y)):a=b/\x=y:=by injection h with h1 h2;exact ⟨h1,h2⟩
theorem Im {M:aO} {f:Nat} {fn:aq} (hf:M.func f=some fn) {ks:Kp} {vs:List AV} (hk:mZ 0 vs.length ks.aj=true) {H:AHeap} {Q:bE->AHeap->Prop}
 (h:W M ⟨none,f⟩ (ks,part fn.body 0) true (aU M fn.results Q) (rI 0 vs) [] H):kj M f vs H Q:=by
 rw [mV,Pq] at h;refine q03 hf (oN (W3.wp (dO fn.body) fn.body (qf _) (up:=none) h (tM hk)) λ e st ⟨h1,E',h2,h3⟩=>?_);obtain ⟨tm,D,up,H'⟩:=st;have h1:up=none:=h1;subst h1;have mono:∀ {m:Option ah},jW M fn.results E' Q D m H'->rZ M fn.results tm (λ e H=>(none:Option ah)=none/\Q e H) D m H':=λ {m} h=>by
  have h':jW M fn.results E' (λ e H=>(none:Option ah)=none/\Q e H) D m H':=by
   have e:(λ e H=>(none:Option ah)=none/\Q e H)=Q:=by funext e H;simp
   rw [e];exact h
  exact jW.Mr h2 h'
 cases e with
 | normal=>exact mono h3
 | ret=>exact mono h3
 | panic c=>exact mono h3
 | exit _=>exact h3.elim
 | goto _=>exact h3.elim
section
variable (E:Env) (H:AHeap) (K:Bool->AV->Prop) (K2:Bool->AV->AHeap->Prop) (A B:Bool->Prop)
def Lz (E:Env) (n:Nat) (K:Bool->AV->Prop):Prop:=LK true (lk E n) K
def Ly (g:Bool) (E:Env) (n:Nat) (K:Bool->AV->Prop):Prop:=LK g (lk E n) K
def Fl (g:Bool) (i:Nat) (a:AV) (H:AHeap) (K:Bool->AV->Prop):Prop:=B3 g (Op.fieldAddr i [a]) λ g x=>B3 g (Op.aa [x] H) K
def Nf (g:Bool) (i:Nat) (a:AV) (H:AHeap) (K:Bool->AV->Prop):Prop:=B3 g (Op.nilCheck [a]) λ g x=>Fl g i x H K
def Fs (g:Bool) (i:Nat) (a b:AV) (H:AHeap) (K:Bool->AV->AHeap->Prop):Prop:=B3 g (Op.fieldAddr i [a]) λ g x=>bA g (Op.store 1 [x,b] H) K
def Ns (g:Bool) (i:Nat) (a b:AV) (H:AHeap) (K:Bool->AV->AHeap->Prop):Prop:=B3 g (Op.nilCheck [a]) λ g x=>Fs g i x b H K
def Xl (g:Bool) (a b:AV) (H:AHeap) (K:Bool->AV->Prop):Prop:=B3 g (Op.aJ 1 [a,b]) λ g x=>B3 g (Op.aa [x] H) K
def Xs (g:Bool) (a b c:AV) (H:AHeap) (K:Bool->AV->AHeap->Prop):Prop:=B3 g (Op.aJ 1 [a,b]) λ g x=>bA g (Op.store 1 [x,c] H) K
def Bn (g:Bool) (o:BinOp) (a b:AV) (K:Bool->AV->Prop):Prop:=B3 g (Op.bin o [a,b]) K
def Cb (g:Bool) (o:BinOp) (a b:AV) (A B:Bool->Prop):Prop:=B3 g (Op.bin o [a,b]) λ g v=>cB g v A B
def Gt (g:Bool) (M:aO) (c:Ctx) (p:Kp × ab) (Q:aK) (E:Env) (D:List aC) (H:AHeap):Prop:=aB g (aw (W M c p) Q) .normal E D H
theorem Mn (n:Nat):Lz E n K=LK true (lk E n) K:=propext zg
theorem Oz (n:Nat):Ly true E n K=LK true (lk E n) K:=propext zg
theorem O5 (i:Nat) (a:AV):Fl true i a H K=B3 true (Op.fieldAddr i [a]) λ g x=>B3 g (Op.aa [x] H) K:=propext zg
theorem M3 (i:Nat) (a:AV):Nf true i a H K=B3 true (Op.nilCheck [a]) λ g x=>Fl g i x H K:=propext zg
theorem Ny (i:Nat) (a b:AV):Fs true i a b H K2=B3 true (Op.fieldAddr i [a]) λ g x=>bA g (Op.store 1 [x,b] H) K2:=propext zg
theorem PD (i:Nat) (a b:AV):Ns true i a b H K2=B3 true (Op.nilCheck [a]) λ g x=>Fs g i x b H K2:=propext zg
theorem MO (a b:AV):Xl true a b H K=B3 true (Op.aJ 1 [a,b]) λ g x=>B3 g (Op.aa [x] H) K:=propext zg
theorem Mm (a b c:AV):Xs true a b c H K2=B3 true (Op.aJ 1 [a,b]) λ g x=>bA g (Op.store 1 [x,c] H) K2:=propext zg
theorem O2 (o:BinOp) (a b:AV):Bn true o a b K=B3 true (Op.bin o [a,b]) K:=propext zg
theorem P4 (o:BinOp) (a b:AV):Cb true o a b A B=B3 true (Op.bin o [a,b]) λ g v=>cB g v A B:=propext zg
theorem NW (M:aO) (c:Ctx) (p:Kp × ab) (Q:aK) (D:List aC):Gt true M c p Q E D H=aB true (aw (W M c p) Q) .normal E D H:=propext zg
end
end
end Go.Am
namespace Go.Am
section
variable {M:aO} {ctx:Ctx} {cZ:Bool} {Q Q':aK} {E:Env} {D:List aC}
theorem Kr {α:Type} {m:Bool} {o:Option α} {K K':Bool -> α->Prop} (h:B3 m o K) (hk:∀ a,K m a->K' m a):B3 m o K':=by
 cases o with
 | none=>exact h
 | some a=>exact hk a h
theorem q8i {α β:Type} {m:Bool} {o:Option (α × β)} {K K':Bool -> α -> β->Prop} (h:bA m o K) (hk:∀ a b,K m a b->K' m a b):bA m o K':=by
 cases o with
 | none=>exact h
 | some a=>exact hk a.1 a.2 h
theorem xcm {α:Type} {m:Bool} {o:Option α} {K K':Bool -> α->Prop} (h:LK m o K) (hk:∀ a,K m a->K' m a):LK m o K':=by
 cases o with
 | none=>exact h
 | some a=>exact hk a h
theorem q8k {m:Bool} {v:AV} {A B A' B':Bool->Prop} (h:cB m v A B) (ha:A m->A' m) (hb:B m->B' m):cB m v A' B':=by
 obtain ⟨q,rfl,h⟩:=h.elim;cases q with
 | true=>exact ha h
 | false=>exact hb h
theorem O1 {L R:Env} {t:Nat} {g:Bool} {K K':Bool->Env->AV->Prop} (h:TV E L R t g K) (hk:∀ R v,K g R v->K' g R v):TV E L R t g K':=by
 unfold TV at h ⊢;cases hl:lk L t with
 | some v=>rw [hl] at h;exact hk _ _ h
 | none =>
  rw [hl] at h;cases hq:lk R t with
  | some v=>rw [hq] at h;exact hk _ _ h
  | none=>rw [hq] at h;exact xcm h λ v q=>hk _ _ q
theorem xco {x:bP} {g:Bool} {K K':Bool->AV->Prop} (h:OV E x g K) (hk:∀ v,K g v->K' g v):OV E x g K':=by
 cases x with
 | tmp t=>simp only [OV] at h ⊢;exact xcm h hk
 | const v=>exact hk _ h
 | dx b=>exact hk _ h
 | func f=>exact hk _ h
theorem zA {L R:Env} {x:bP} {g:Bool} {K K':Bool->AV->Prop} (h:CV E L R x g K) (hk:∀ v,K g v->K' g v):CV E L R x g K':=by
 cases x with
 | tmp t=>simp only [CV] at h ⊢;exact O1 h λ _ v=>hk v
 | const v=>exact hk _ h
 | dx b=>exact hk _ h
 | func f=>exact hk _ h
theorem Io {L:Env} {g:Bool}:∀ {l:List bP} {R:Env} {K K':Bool->Env->List AV->Prop},p7 E L l g R K->(∀ R vs,K g R vs->K' g R vs)->p7 E L l g R K'
 | [],R,K,K',h,hk=>hk _ _ h
 | .tmp t::xs,R,K,K',h,hk=>O1 (K:=λ g R v=>p7 E L xs g R λ g R vs=>K g R (v::vs)) (K':=λ g R v=>p7 E L xs g R λ g R vs=>K' g R (v::vs)) h λ R v q=>Io (K:=λ g R vs=>K g R (v::vs)) (K':=λ g R vs=>K' g R (v::vs)) q λ R vs=>hk _ _
 | .const v::xs,R,K,K',h,hk=>Io (l:=xs) (K:=λ g R vs=>K g R (v::vs)) (K':=λ g R vs=>K' g R (v::vs)) h λ R vs=>hk _ _
 | .dx v::xs,R,K,K',h,hk=>Io (l:=xs) (K:=λ g R vs=>K g R (.ptr v 0::vs)) (K':=λ g R vs=>K' g R (.ptr v 0::vs)) h λ R vs=>hk _ _
 | .func v::xs,R,K,K',h,hk=>Io (l:=xs) (K:=λ g R vs=>K g R (.fn (.func v) [] []::vs)) (K':=λ g R vs=>K' g R (.fn (.func v) [] []::vs)) h λ R vs=>hk _ _
theorem xcp (hq:∀ e E D H,Q e E D H->Q' e E D H) {ps:Option (List Nat)} {ks:List Nat} {c:ah} {H:AHeap} (h:PX ps ks Q E D c H):PX ps ks Q' E D c H:=by
 cases ps with
 | none=>exact h
 | some _=>exact hq _ _ _ _ h
theorem LF (hq:∀ e E D H,Q e E D H->Q' e E D H) {ps:Option (List Nat)} {L:Env} {g:Bool} {f:fC} {vs:List AV} {H:AHeap} {K K':Bool->AV->AHeap->Prop} (h:sF M cZ ps L Q E D g f vs H K) (hk:∀ v H,K g v H->K' g v H):sF M cZ ps L Q' E D g f vs H K':=by
 cases cZ with
 | false=>obtain ⟨v,H',h1,h2⟩:=h;exact ⟨v,H',h1,hk _ _ h2⟩
 | true =>
  obtain ⟨e,H',h1,h2⟩:=h;refine ⟨e,H',h1,?_⟩;cases e with
  | ret v=>exact hk _ _ h2
  | panic c=>exact xcp hq h2
theorem wF (hq:∀ e E D H,Q e E D H->Q' e E D H) {s:aQ} {K K':KR} {g:Bool} {L R:Env} {H:AHeap} (h:yH M cZ s Q E D K g L R H) (hk:∀ L R H,K g L R H->K' g L R H):yH M cZ s Q' E D K' g L R H:=by
 refine Io (show p7 E L s.args g R _ from h) λ R vs h=>?_;obtain ⟨eY,dst,guard,args,op,ps⟩:=s;cases eY with
 | true =>
  have h:KP dst E L R H K g vs op:=h;show KP dst E L R H K' g vs op;cases op with
  | read f =>
   cases dst with
   | none=>exact h
   | some d=>exact ⟨h.1,hk _ _ _ h.2⟩
  | _=>exact h
 | false =>
  have h:oP M cZ dst ps Q E D L R H K g vs op:=h;show oP M cZ dst ps Q' E D L R H K' g vs op;cases op with
  | pure f=>simp only [oP] at h ⊢;exact Kr h λ a=>hk _ _ _
  | read f=>simp only [oP] at h ⊢;exact Kr h λ a=>hk _ _ _
  | alloc f=>simp only [oP] at h ⊢;exact q8i h λ a b=>hk _ _ _
  | bQ f=>simp only [oP] at h ⊢;exact q8i h λ a b=>hk _ _ _
  | eM f=>exact LF hq h λ v H=>hk _ _ _
  | ec =>
   simp only [oP,V3] at h ⊢;split at h
   ·exact LF hq h λ v H=>hk _ _ _
   ·exact LF hq h λ v H=>hk _ _ _
   ·exact h.elim
  | invoke n =>
   simp only [oP,N3] at h ⊢;split at h
   ·exact Kr h λ a q=>LF hq q λ v H=>hk _ _ _
   ·exact h.elim
  | recover=>exact h
  | defer=>exact h
  | panic =>
   cases cZ with
   | false=>exact h
   | true =>
    have h:dc vs H (PX ps (iR L) Q E D):=h;show dc vs H (PX ps (iR L) Q' E D);unfold dc at h ⊢;split at h
    ·exact xcp hq h
    ·exact h.elim
theorem Og (hq:∀ e E D H,Q e E D H->Q' e E D H) {K K':KR} {g:Bool} (hk:∀ L R H,K g L R H->K' g L R H):∀ {l:List aQ} {L R:Env} {H:AHeap},jU M cZ Q E D K l g L R H->jU M cZ Q' E D K' l g L R H
 | [],L,R,H,h=>hk _ _ _ h
 | s::l,L,R,H,h=>wF hq (show yH M cZ s Q E D (jU M cZ Q E D K l) g L R H from h) λ L R H=>Og hq hk
theorem Pt:∀ (n:Nat) {f f':List AV->AHeap->Prop},(∀ vs H,f vs H->f' vs H) -> ∀ (l:List AV) (H:AHeap),kG n (lz n f) l H->kG n (lz n f') l H
 | 0,f,f',hf,l,H,h=>hf [] H h
 | n+1,f,f',hf,[],H,h=>h
 | n+1,f,f',hf,v::l,H,h=>Pt n (f:=λ l=>f (v::l)) (f':=λ l=>f' (v::l)) (λ vs H=>hf _ _) l H h
theorem uy (hq:∀ e E D H,Q e E D H->Q' e E D H) {x:Be} {K K':KR} {g:Bool} (hk:∀ L R H,K g L R H->K' g L R H) {L R:Env} {H:AHeap} (h:KN M cZ Q E D x K g L R H):KN M cZ Q' E D x K' g L R H:=by
 obtain ⟨q,l⟩:=x;cases q with
 | none=>exact Og hq hk (show jU M cZ Q E D K l g L R H from h)
 | some q =>
  cases ho:oW q.1 l with
  | false =>
   have h:cond (oW q.1 l) _ False:=h;rw [ho] at h;exact h.elim
  | true =>
   have h:cond (oW q.1 l) _ False:=h;rw [ho,ql] at h;show cond (oW q.1 l) _ False;rw [ho,ql];refine O1 h λ R1 v h=>?_;have h:B3 g (aE q.2 (some v)) λ g w=>c9 g w (λ g=>jU M cZ Q E D (λ g L' _ H=>kG (bW (bO l [])) (lz (bW (bO l [])) λ vs H=>K g (gW (bO l []) L vs) R1 H) (mP (bW (bO l [])) L') H) l g L R1 H)
    (λ g=>kG (bW (bO l [])) (lz (bW (bO l [])) λ vs H=>K g (gW (bO l []) L vs) R1 H) (nI (bW (bO l []))) H):=h
   refine Kr (K':=λ g w=>c9 g w (λ g=>jU M cZ Q' E D (λ g L' _ H=>kG (bW (bO l [])) (lz (bW (bO l [])) λ vs H=>K' g (gW (bO l []) L vs) R1 H) (mP (bW (bO l [])) L') H) l g L R1 H)
    (λ g=>kG (bW (bO l [])) (lz (bW (bO l [])) λ vs H=>K' g (gW (bO l []) L vs) R1 H) (nI (bW (bO l []))) H)) h λ w h=>?_
   cases w with
   | true=>exact Og hq (λ L' R H h=>Pt _ (λ vs H=>hk _ _ _) _ _ h) (show jU M cZ Q E D _ l g L R1 H from h)
   | false=>exact Pt _ (λ vs H=>hk _ _ _) _ _ h
theorem Ko (hq:∀ e E D H,Q e E D H->Q' e E D H) {l:List aQ} {K K':KR} {g:Bool} (hk:∀ L R H,K g L R H->K' g L R H) {H:AHeap} (h:mG M cZ Q E D l g H K):mG M cZ Q' E D l g H K':=by
 unfold mG at h ⊢;generalize Ff l=gs at h ⊢;generalize ([]:Env)=L at h ⊢;have key:∀ (gs:List Be) (L R:Env) (H:AHeap),qX M cZ Q E D K gs g L R H->qX M cZ Q' E D K' gs g L R H:=by
  intro gs
  induction gs with
  | nil=>exact λ L R H h=>hk _ _ _ h
  | cons x gs ih=>exact λ L R H h=>uy hq ih (show KN M cZ Q E D x (qX M cZ Q E D K gs) g L R H from h)
 exact key gs L L H h
theorem AE {K:Kp}:∀ (n:Nat) (c:ab),dO c<=n -> ∀ {g:Bool} {Q Q':aK} {E:Env} {D:List aC} {H:AHeap},(∀ e E D H,Q e E D H->Q' e E D H)->W3 M ctx K c g Q E D H->W3 M ctx K c g Q' E D H:=by
 intro n
 induction n with
 | zero =>
  intro c hc g Q Q' E D H hq h;cases c with
  | region l=>exact Ko hq (λ L R H h=>hq _ _ _ _ h) h
  | rangeFunc f k =>
   have h:OV E f g λ g v=>mn M K.aj ctx k E D H Q v:=h;show OV E f g λ g v=>mn M K.aj ctx k E D H Q' v;have key:∀ v,mn M K.aj ctx k E D H Q v->mn M K.aj ctx k E D H Q' v:=λ v h tm up he=>by
    have:=h tm up he;unfold ET at this ⊢;split
    ·rename_i hr;rw [hr] at this;exact Gf this λ e st ⟨h1,h2,h3⟩=>⟨h1,h2,hq _ _ _ _ h3⟩
    ·rename_i l hr;rw [hr] at this;exact xV (m:=ai) this λ d q=>Gf q λ e st ⟨h1,h2,h3⟩=>⟨h1,h2,hq _ _ _ _ h3⟩
   exact xco h key
  | skip=>exact hq _ _ _ _ h
  | label _=>exact hq _ _ _ _ h
  | exit _=>exact hq _ _ _ _ h
  | goto _=>exact hq _ _ _ _ h
  | ret=>exact hq _ _ _ _ h
  | stuck=>exact h
  | seq _ _=>simp [dO] at hc
  | cond _ _ _=>simp [dO] at hc
  | block _ _=>simp [dO] at hc
  | loop _ _=>simp [dO] at hc
  | scope _=>simp [dO] at hc
 | succ n ih =>
  intro c hc g Q Q' E D H hq h;have sq:∀ {b:ab},dO b<=n -> ∀ e E D H,aw (W3 M ctx K b) Q e E D H->aw (W3 M ctx K b) Q' e E D H:=λ hb e E D H h=>by
   cases e with
   | normal=>exact ih _ hb hq h
   | _=>exact hq _ _ _ _ h
  cases c with
  | seq a b =>
   have hab:dO a+dO b<=n:=by simp only [dO] at hc;omega
   have gen:W3 M ctx K a g (aw (W3 M ctx K b) Q) E D H->W3 M ctx K a g (aw (W3 M ctx K b) Q') E D H:=λ h=>ih a (by omega) (sq (by omega)) h;cases a with
   | region l =>
    have plain:(mG M K.cZ Q E D l g H λ g L _ H=>W3 M ctx K b g Q (dB K.aj E L) D H)->mG M K.cZ Q' E D l g H λ g L _ H=>W3 M ctx K b g Q' (dB K.aj E L) D H:=λ h=>Ko hq (λ L R H h=>ih b (by omega) hq h) h;have cv:∀ {L R:Env} {c:bP} {A B A' B':Bool->Prop},CV E L R c g (λ g v=>cB g v A B)->(A g->A' g)->(B g->B' g)->CV E L R c g (λ g v=>cB g v A' B'):=λ {L R c A B A' B'} h ha hb=>by
     exact zA h λ v h=>q8k h ha hb
    cases b with
    | cond c x y =>
     have hxy:dO x+dO y+1<=n:=by simp only [dO] at hab;omega
     exact Ko hq (λ L R H h=>cv h (ih x (by omega) hq) (ih y (by omega) hq)) h
    | seq b1 r =>
     cases b1 with
     | cond c x y =>
      have hxy:dO x+dO y+1+dO r+1<=n:=by simp only [dO] at hab;omega
      exact Ko hq (λ L R H h=>cv h (ih x (by omega) (sq (by omega))) (ih y (by omega) (sq (by omega)))) h
     | _=>exact plain h
    | _=>exact plain h
   | _=>exact gen h
  | cond c x y =>
   have hab:dO x+dO y<=n:=by simp only [dO] at hc;omega
   have h:OV E c g λ g v=>cB g v (λ g=>W3 M ctx K x g Q E D H) (λ g=>W3 M ctx K y g Q E D H):=h;exact xco (K':=λ g v=>cB g v (λ g=>W3 M ctx K x g Q' E D H) (λ g=>W3 M ctx K y g Q' E D H)) h λ v h=>q8k h (ih x (by omega) hq) (ih y (by omega) hq)
  | block id b =>
   have hb:dO b<=n:=by simp only [dO] at hc;omega
   exact ih b hb (λ e E D H h=>by cases e<;>exact hq _ _ _ _ h) h
  | scope b =>
   have hb:dO b<=n:=by simp only [dO] at hc;omega
   exact ih b hb (λ e E D H h=>by cases e<;>first|exact hq _ _ _ _ h|exact ⟨h.1,hq _ _ _ _ h.2⟩) h
  | loop aj b =>
   have hb:dO b<=n:=by simp only [dO] at hc;omega
   cases aj with
   | some _=>exact h
   | none =>
    obtain ⟨I,h0,h1⟩:=h;exact ⟨I,h0,λ n E D H hi=>ih b hb (λ e E D H h=>by cases e<;>first|exact h|exact hq _ _ _ _ h) (h1 n E D H hi)⟩
  | _=>exact ih _ (ja _) hq h
end
theorem W.mono {M:aO} {ctx:Ctx} {p:Kp × ab} {g:Bool} {Q Q':aK} {E:Env} {D:List aC} {H:AHeap} (h:W M ctx p g Q E D H) (hq:∀ e E D H,Q e E D H->Q' e E D H):W M ctx p g Q' E D H:=by
 rw [mV] at h ⊢;exact AE _ p.2 (qf _) hq h
end Go.Am
namespace Go.Am
noncomputable section
variable (X:WX) (Q:aK) (E:Env) (D:List aC) (H:AHeap) (I:Dd) (n:Nat)
theorem q6m:aw X Q .normal E D H=X true Q E D H:=propext zg
theorem sy:aw X Q .ret E D H=Q .ret E D H:=propext zg
theorem xcs (l:Nat):aw X Q (.exit l) E D H=Q (.exit l) E D H:=propext zg
theorem xct (l:Nat):aw X Q (.goto l) E D H=Q (.goto l) E D H:=propext zg
theorem xab (c:ah):aw X Q (.panic c) E D H=Q (.panic c) E D H:=propext zg
theorem q6j (i:Nat):aR i Q .normal E D H=Q .normal E D H:=propext zg
theorem vH (i:Nat):aR i Q .ret E D H=Q .ret E D H:=propext zg
theorem xcf (i l:Nat):aR i Q (.goto l) E D H=Q (.goto l) E D H:=propext zg
theorem q9w (i:Nat) (c:ah):aR i Q (.panic c) E D H=Q (.panic c) E D H:=propext zg
theorem xce (i l:Nat):aR i Q (.exit l) E D H=if i=l then Q .normal E D H else Q (.exit l) E D H:=by
 show Q (cond (Nat.beq i l) .normal (.exit l)) E D H=_
 by_cases h:i=l
 ·subst h;simp
 ·rw [qc h,oQ h];rfl
section
variable (M:aO) (rs:List di) (Q:bE->AHeap->Prop) (P:List AV->Prop) (R:AV->AHeap->Prop)
theorem vZ:aU M rs Q .ret E [] H=dR E H rs λ l=>Q (.ret (dt l)) H:=propext zg
theorem q6l:aU M rs Q .normal E [] H=dR E H rs λ l=>Q (.ret (dt l)) H:=propext zg
theorem q90 (c:ah):aU M rs Q (.panic c) E [] H=Q (.panic c) H:=propext zg
theorem ui:dR E H [] P=P []:=propext zg
theorem vD (t:Nat):dR E H (.tmp t::rs) P=LK true (lk E t) λ _ v=>dR E H rs λ vs=>P (v::vs):=propext zg
theorem q98 (t:Nat):dR E H (.jL t::rs) P=LK true (lk E t) λ _ v=>B3 true (Op.aa [v] H) λ _ v=>dR E H rs λ vs=>P (v::vs):=propext zg
theorem q99 (n t:Nat):dR E H (.dA n t::rs) P=LK true (lk E t) λ _ v=>B3 true (Op.au n [v] H) λ _ v=>dR E H rs λ vs=>P (v::vs):=propext zg
theorem zS (v:AV):rL R (.ret v) H=R v H:=propext zg
end
theorem Br:((0:Nat):Int)=0:=rfl
theorem z7 (l:List AV):AV.cells (.agg l)=l:=rfl
theorem q4h (k:IntKind) (n:Int):AV.cells (.int k n)=[.int k n]:=rfl
theorem xaj (b:Bool):AV.cells (.bool b)=[.bool b]:=rfl
theorem xc1 (s:List UInt8):AV.cells (.str s)=[.str s]:=rfl
theorem xc0 (b o:Nat):AV.cells (.ptr b o)=[.ptr b o]:=rfl
def rS (I:Nat->Env->AHeap->Prop) (D:List aC) (n:Nat) (Q:aK):aK:=λ e E D' H=>match e with
 | .normal=>D'=D /\ ∃ m E',I m E' H/\nZ E' E/\m<n
 | e=>Q e E D' H
theorem bS.intro {M:aO} {ctx:Ctx} {p:Kp × ab} {Q:aK} {E:Env} {D:List aC} {H:AHeap} (I:Nat->Env->AHeap->Prop) (h0:∃ n E0,I n E0 H/\nZ E0 E) (h:∀ n E H,I n E H->W M ctx p true (rS I D n Q) E D H):bS (W M ctx p) Q E D H:=by
 obtain ⟨n,E0,h1,h2⟩:=h0;refine ⟨λ n E D' H=>D'=D/\I n E H,⟨n,E0,⟨rfl,h1⟩,h2.ss⟩,λ n E D' H ⟨e,hi⟩=>?_⟩;subst e;refine W.mono (h n E H hi) λ e E D'' H hq=>?_;cases e with
 | normal=>obtain ⟨q,m,E',a,b,c⟩:=hq;exact ⟨m,E',⟨q,a⟩,b.ss,c⟩
 | _=>exact hq
def A9 (P:Env->List aC->AHeap->Prop) (Q:aK):aK:=λ e E D H=>match e with
 | .normal=>P E D H
 | e=>Q e E D H
theorem q91 (P:Env->List aC->AHeap->Prop) (Q:aK) (E:Env) (D:List aC) (H:AHeap):A9 P Q .normal E D H=P E D H:=propext zg
theorem A5 (P:Env->List aC->AHeap->Prop) (Q:aK) (E:Env) (D:List aC) (H:AHeap):A9 P Q .ret E D H=Q .ret E D H:=propext zg
theorem sN (P:Env->List aC->AHeap->Prop) (Q:aK) (E:Env) (D:List aC) (H:AHeap) (l:Nat):A9 P Q (.exit l) E D H=Q (.exit l) E D H:=propext zg
def LN (X:WX) (Q:aK):Nat->Env->List aC->AHeap->Prop
 | 0,_,_,_=>False
 | n+1,E,D,H=>X true (A9 (LN X Q n) Q) E D H
theorem Ax (X:WX) (Q:aK) (n:Nat) (E:Env) (D:List aC) (H:AHeap):LN X Q (n+1) E D H=X true (A9 (LN X Q n) Q) E D H:=propext zg
theorem q92 (I:Nat->Env->AHeap->Prop) (D:List aC) (n:Nat) (Q:aK) (E:Env) (H:AHeap):rS I D n Q .normal E D H = ∃ m E',I m E' H/\nZ E' E/\m<n:=propext ⟨λ h=>h.2,λ h=>⟨rfl,h⟩⟩
theorem AW (I:Nat->Env->AHeap->Prop) (D D':List aC) (n:Nat) (Q:aK) (E:Env) (H:AHeap):rS I D n Q .ret E D' H=Q .ret E D' H:=propext zg
theorem uY (I:Nat->Env->AHeap->Prop) (D D':List aC) (n:Nat) (Q:aK) (E:Env) (H:AHeap) (l:Nat):rS I D n Q (.exit l) E D' H=Q (.exit l) E D' H:=propext zg
theorem tn (I:Nat->Env->AHeap->Prop) (D D':List aC) (n:Nat) (Q:aK) (E:Env) (H:AHeap) (l:Nat):rS I D n Q (.goto l) E D' H=Q (.goto l) E D' H:=propext zg
theorem xcn (I:Nat->Env->AHeap->Prop) (D D':List aC) (n:Nat) (Q:aK) (E:Env) (H:AHeap) (c:ah):rS I D n Q (.panic c) E D' H=Q (.panic c) E D' H:=propext zg
theorem Jo:(∀ {α:Type} (a:α) (K:Bool -> α->Prop),LK true (some a) K=K true a)/\(∀ {α:Type} (a:α) (K:Bool -> α->Prop),B3 true (some a) K=K true a)/\(∀ {α β:Type} (a:α) (b:β) (K:Bool -> α -> β->Prop),bA true (some (a,b)) K=K true a b)/\(∀ (A B:Bool->Prop),cB true (AV.bool true) A B=A true)/\(∀ (A B:Bool->Prop),cB true (AV.bool false) A B=B true)/\(∀ (A B:Bool->Prop),c9 true true A B=A true)/\(∀ (A B:Bool->Prop),c9 true false A B=B true)/\(∀ (v:AV) (K:Bool->Prop),kA true (some v) (some v) K=K true)/\(∀ (e:Nat) (z:List AV) (H:AHeap) (K:Bool->AV->AHeap->Prop),A3 true e z H K=K true (AV.ptr H.next 0) (H.alloc (bg.row z e (0,0) true)))/\(∀ {α:Type} (F:α->Prop) (K:α),JN F K=F K)/\(∀ (Q:aK) (e:aF) (E:Env) (D:List aC) (H:AHeap),aB true Q e E D H=Q e E D H)/\(∀ (g:Nat) (first cap args:List AV) (K:Bool->fC->List AV->Prop),V3 true (AV.fn (fC.func g) first cap::args) K=K true (fC.func g) (first++(args++cap)))/\(∀ (l:Nat) (first args:List AV) (K:Bool->fC->List AV->Prop),V3 true (AV.fn (fC.yield l) first []::args) K=K true (fC.yield l) (first++args))/\(∀ (M:aO) (name:String) (t:Nat) (v:AV) (args:List AV) (K:Bool->fC->List AV->Prop),N3 M true name (AV.iface t v::args) K=B3 true (M.mC t name) λ m g=>K m (fC.func g) (v::args))/\(∀ (k t:Nat) (v:AV) (E:Env),lk ((k,v)::E) t=if k=t then some v else lk E t)/\(∀ (t:Nat),lk [] t=none)/\(∀ (k:Nat) (v:AV) (r E:Env),nZ ((k,v)::r) E=(lk E k=some v/\nZ r E))/\(∀ (E:Env),nZ [] E=True)/\(∀ (X:WX) (Q:aK) (E:Env) (D:List aC) (H:AHeap),aw X Q aF.normal E D H=X true Q E D H)/\(∀ (X:WX) (Q:aK) (E:Env) (D:List aC) (H:AHeap),aw X Q aF.ret E D H=Q aF.ret E D H)/\(∀ (X:WX) (Q:aK) (E:Env) (D:List aC) (H:AHeap) (l:Nat),aw X Q (aF.exit l) E D H=Q (aF.exit l) E D H)/\(∀ (X:WX) (Q:aK) (E:Env) (D:List aC) (H:AHeap) (l:Nat),aw X Q (aF.goto l) E D H=Q (aF.goto l) E D H)/\(∀ (X:WX) (Q:aK) (E:Env) (D:List aC) (H:AHeap) (c:ah),aw X Q (aF.panic c) E D H=Q (aF.panic c) E D H)/\(∀ (Q:aK) (E:Env) (D:List aC) (H:AHeap) (i:Nat),aR i Q aF.normal E D H=Q aF.normal E D H)/\(∀ (Q:aK) (E:Env) (D:List aC) (H:AHeap) (i:Nat),aR i Q aF.ret E D H=Q aF.ret E D H)/\(∀ (Q:aK) (E:Env) (D:List aC) (H:AHeap) (i l:Nat),aR i Q (aF.goto l) E D H=Q (aF.goto l) E D H)/\(∀ (Q:aK) (E:Env) (D:List aC) (H:AHeap) (i:Nat) (c:ah),aR i Q (aF.panic c) E D H=Q (aF.panic c) E D H)/\(∀ (Q:aK) (E:Env) (D:List aC) (H:AHeap) (i l:Nat),aR i Q (aF.exit l) E D H=if i=l then Q aF.normal E D H else Q (aF.exit l) E D H)/\(∀ (P:Env->List aC->AHeap->Prop) (Q:aK) (E:Env) (D:List aC) (H:AHeap),A9 P Q aF.normal E D H=P E D H)/\(∀ (P:Env->List aC->AHeap->Prop) (Q:aK) (E:Env) (D:List aC) (H:AHeap),A9 P Q aF.ret E D H=Q aF.ret E D H)/\(∀ (P:Env->List aC->AHeap->Prop) (Q:aK) (E:Env) (D:List aC) (H:AHeap) (l:Nat),A9 P Q (aF.exit l) E D H=Q (aF.exit l) E D H)/\(∀ (X:WX) (Q:aK) (n:Nat) (E:Env) (D:List aC) (H:AHeap),LN X Q (n+1) E D H=X true (A9 (LN X Q n) Q) E D H)/\(∀ (I:Nat->Env->AHeap->Prop) (D:List aC) (n:Nat) (Q:aK) (E:Env) (H:AHeap),rS I D n Q aF.normal E D H = ∃ m E',I m E' H/\nZ E' E/\m<n)/\(∀ (I:Nat->Env->AHeap->Prop) (D D':List aC) (n:Nat) (Q:aK) (E:Env) (H:AHeap),rS I D n Q aF.ret E D' H=Q aF.ret E D' H)/\(∀ (I:Nat->Env->AHeap->Prop) (D D':List aC) (n:Nat) (Q:aK) (E:Env) (H:AHeap) (l:Nat),rS I D n Q (aF.exit l) E D' H=Q (aF.exit l) E D' H)/\(∀ (I:Nat->Env->AHeap->Prop) (D D':List aC) (n:Nat) (Q:aK) (E:Env) (H:AHeap) (l:Nat),rS I D n Q (aF.goto l) E D' H=Q (aF.goto l) E D' H)/\(∀ (I:Nat->Env->AHeap->Prop) (D D':List aC) (n:Nat) (Q:aK) (E:Env) (H:AHeap) (c:ah),rS I D n Q (aF.panic c) E D' H=Q (aF.panic c) E D' H)/\(∀ (E:Env) (H:AHeap) (M:aO) (rs:List di) (Q:bE->AHeap->Prop),aU M rs Q aF.ret E [] H=dR E H rs λ l=>Q (bE.ret (dt l)) H)/\(∀ (E:Env) (H:AHeap) (M:aO) (rs:List di) (Q:bE->AHeap->Prop),aU M rs Q aF.normal E [] H=dR E H rs λ l=>Q (bE.ret (dt l)) H)/\(∀ (E:Env) (H:AHeap) (M:aO) (rs:List di) (Q:bE->AHeap->Prop) (c:ah),aU M rs Q (aF.panic c) E [] H=Q (bE.panic c) H)/\(∀ (E:Env) (H:AHeap) (P:List AV->Prop),dR E H [] P=P [])/\(∀ (E:Env) (H:AHeap) (rs:List di) (P:List AV->Prop) (t:Nat),dR E H (di.tmp t::rs) P=LK true (lk E t) λ x v=>dR E H rs λ vs=>P (v::vs))/\(∀ (E:Env) (H:AHeap) (rs:List di) (P:List AV->Prop) (t:Nat),dR E H (di.jL t::rs) P=LK true (lk E t) λ x v=>B3 true (Op.aa [v] H) λ x v=>dR E H rs λ vs=>P (v::vs))/\(∀ (E:Env) (H:AHeap) (rs:List di) (P:List AV->Prop) (n t:Nat),dR E H (di.dA n t::rs) P=LK true (lk E t) λ x v=>B3 true (Op.au n [v] H) λ x v=>dR E H rs λ vs=>P (v::vs))/\(∀ (H:AHeap) (R:AV->AHeap->Prop) (v:AV),rL R (bE.ret v) H=R v H)/\(∀ (E:Env) (K:Bool->AV->Prop) (n:Nat),Lz E n K=LK true (lk E n) K)/\(∀ (E:Env) (K:Bool->AV->Prop) (n:Nat),Ly true E n K=LK true (lk E n) K)/\(∀ (H:AHeap) (K:Bool->AV->Prop) (i:Nat) (a:AV),Fl true i a H K=B3 true (Op.fieldAddr i [a]) λ g x=>B3 g (Op.aa [x] H) K)/\(∀ (H:AHeap) (K:Bool->AV->Prop) (i:Nat) (a:AV),Nf true i a H K=B3 true (Op.nilCheck [a]) λ g x=>Fl g i x H K)/\(∀ (H:AHeap) (K2:Bool->AV->AHeap->Prop) (i:Nat) (a b:AV),Fs true i a b H K2=B3 true (Op.fieldAddr i [a]) λ g x=>bA g (Op.store 1 [x,b] H) K2)/\(∀ (H:AHeap) (K2:Bool->AV->AHeap->Prop) (i:Nat) (a b:AV),Ns true i a b H K2=B3 true (Op.nilCheck [a]) λ g x=>Fs g i x b H K2)/\(∀ (H:AHeap) (K:Bool->AV->Prop) (a b:AV),Xl true a b H K=B3 true (Op.aJ 1 [a,b]) λ g x=>B3 g (Op.aa [x] H) K)/\(∀ (H:AHeap) (K2:Bool->AV->AHeap->Prop) (a b c:AV),Xs true a b c H K2=B3 true (Op.aJ 1 [a,b]) λ g x=>bA g (Op.store 1 [x,c] H) K2)/\(∀ (K:Bool->AV->Prop) (o:BinOp) (a b:AV),Bn true o a b K=B3 true (Op.bin o [a,b]) K)/\(∀ (A B:Bool->Prop) (o:BinOp) (a b:AV),Cb true o a b A B=B3 true (Op.bin o [a,b]) λ g v=>cB g v A B)/\(∀ (E:Env) (H:AHeap) (M:aO) (c:Ctx) (p:Kp × ab) (Q:aK) (D:List aC),Gt true M c p Q E D H=aB true (aw (W M c p) Q) aF.normal E D H)/\dt []=AV.tuple []/\(∀ (v:AV),dt [v]=v) /\ ∀ (a b:AV) (l:List AV),dt (a::b::l)=AV.tuple (a::b::l) :=
 And.intro @EM<|And.intro @yV<|And.intro @tG<|And.intro vE<|And.intro xck<|And.intro ux<|And.intro xcl<|And.intro KG<|And.intro I2<|And.intro @qh<|And.intro tw <|
 And.intro As<|And.intro q8o<|And.intro sG<|And.intro oR<|And.intro tT<|And.intro vM<|And.intro Ae <|
 And.intro q6m<|And.intro sy<|And.intro xcs<|And.intro xct<|And.intro xab<|And.intro q6j<|And.intro vH<|And.intro xcf<|And.intro q9w<|And.intro xce <|
 And.intro q91<|And.intro A5<|And.intro sN<|And.intro Ax<|And.intro q92<|And.intro AW<|And.intro uY<|And.intro tn<|And.intro xcn<|And.intro vZ<|And.intro q6l<|And.intro q90<|And.intro ui<|And.intro vD<|And.intro q98<|And.intro q99 <|
 And.intro zS<|And.intro Mn<|And.intro Oz<|And.intro O5<|And.intro M3<|And.intro Ny<|And.intro PD<|And.intro MO<|And.intro Mm<|And.intro O2<|And.intro P4<|And.intro NW<|And.intro oU<|And.intro pJ pe
theorem HS:(∀ (v:AV),Op.move [v]=some v)/\(∀ (q:Bool) (a b:AV),Op.pick [AV.bool q,a,b]=some (bif q then a else b))/\(∀ (k:IntKind) (a b:Int),Op.bin BinOp.add [AV.int k a,AV.int k b]=some (AV.int k (ae k (a+b))))/\(∀ (k:IntKind) (a b:Int),Op.bin BinOp.sub [AV.int k a,AV.int k b]=some (AV.int k (ae k (a-b))))/\(∀ (k:IntKind) (a b:Int),Op.bin BinOp.mul [AV.int k a,AV.int k b]=some (AV.int k (ae k (a*b))))/\(∀ (k:IntKind) (a b:Int),Op.bin BinOp.eql [AV.int k a,AV.int k b]=some (AV.bool (decide (a=b))))/\(∀ (k:IntKind) (a b:Int),Op.bin BinOp.neq [AV.int k a,AV.int k b]=some (AV.bool (decide (a ≠ b))))/\(∀ (k:IntKind) (a b:Int),Op.bin BinOp.lss [AV.int k a,AV.int k b]=some (AV.bool (decide (a<b))))/\(∀ (k:IntKind) (a b:Int),Op.bin BinOp.leq [AV.int k a,AV.int k b]=some (AV.bool (decide (a<=b))))/\(∀ (k:IntKind) (a b:Int),Op.bin BinOp.gtr [AV.int k a,AV.int k b]=some (AV.bool (decide (b<a))))/\(∀ (k:IntKind) (a b:Int),Op.bin BinOp.geq [AV.int k a,AV.int k b]=some (AV.bool (decide (b<=a))))/\(∀ (k:IntKind) (a:Int) (k':IntKind),Op.wrap k [AV.int k' a]=some (AV.int k (ae k a)))/\(∀ (q:Bool),Op.un UnOp.not [AV.bool q]=some (AV.bool !q))/\(∀ (a b:List UInt8),Op.bin BinOp.eql [AV.str a,AV.str b]=some (AV.bool (decide (a=b))))/\(∀ (a b:List UInt8),Op.bin BinOp.neq [AV.str a,AV.str b]=some (AV.bool (decide (a ≠ b))))/\(∀ (s:List UInt8),Op.dj [AV.str s]=some (AV.int IntKind.i64 ↑s.length))/\(∀ (f n:Nat) (l:List AV),Op.bm f n l=some (AV.fn (fC.func f) (List.take n l) (List.drop n l)))/\(∀ (t:Nat) (v:AV),Op.cM t [v]=some (AV.iface t v))/\(∀ (off b o:Nat),Op.fieldAddr off [AV.ptr b o]=some (AV.ptr b (o+off)))/\(∀ (off:Nat) (l:List AV),Op.field off none [AV.agg l]=l[off]?)/\(∀ (q:Bool),aE true (some (AV.bool q))=some q)/\(∀ (q:Bool),aE false (some (AV.bool q))=some !q)/\(∀ (b:Bool),aE b (some AV.undef)=some false)/\(∀ (b:Nat),Op.ptrTo b=AV.ptr b 0)/\(∀ (l:List AV),(AV.agg l).cells=l)/\(∀ (k:IntKind) (n:Int),(AV.int k n).cells=[AV.int k n])/\(∀ (b:Bool),(AV.bool b).cells=[AV.bool b])/\(∀ (s:List UInt8),(AV.str s).cells=[AV.str s])/\(∀ (b o:Nat),(AV.ptr b o).cells=[AV.ptr b o])/\(∀ (h:Decidable True),decide True=true)/\(∀ (h:Decidable False),decide False=false)/\(!true)=false/\(!false)=true/\(¬True)=False/\(¬False)=True/\(∀ {α:Type} (a b:α),(a ≠ b) = ¬a=b)/\(∀ (p:Prop),(True/\p)=p)/\(∀ (p:Prop),(p/\True)=p)/\(∀ (p:Prop),(False/\p)=False)/\(∀ (p:Prop),(p/\False)=False)/\(∀ {α:Type} (a b:α),(bif true then a else b)=a)/\(∀ {α:Type} (a b:α),(bif false then a else b)=b)/\(∀ {α:Type} {β:Type} (a:α) (f:α->Option β),(some a).bind f=f a)/\(∀ (n:Nat),n+0=n)/\(∀ (n:Nat),0+n=n)/\(∀ {α:Type} {a:α} {l:List α},(a::l)[0]? = some a)/\(∀ {α:Type} {a:α} {i:Nat} {l:List α},(a::l)[i+1]? = l[i]?)/\(∀ {α:Type} (as:List α),[]++as=as) /\ ∀ {α:Type} {a:α} {as bs:List α},a::as++bs=a::(as++bs) :=
 And.intro CZ<|And.intro D6<|And.intro @lQ<|And.intro @lO<|And.intro @lL<|And.intro @lP<|And.intro @lV<|And.intro @kV<|And.intro @kS<|And.intro @lF<|And.intro @lK<|And.intro @EG<|And.intro kX <|
 And.intro Fa<|And.intro EL<|And.intro CB<|And.intro EV<|And.intro ED<|And.intro DD<|And.intro DU<|And.intro Dl<|And.intro Fi<|And.intro Dm<|And.intro kR <|
 And.intro z7<|And.intro q4h<|And.intro xaj<|And.intro xc1<|And.intro xc0<|And.intro @rW<|And.intro @rP<|And.intro Bt<|And.intro Ch<|And.intro zG<|And.intro yG<|And.intro @ne_eq<|And.intro mQ<|And.intro kr<|And.intro false_and<|And.intro xA <|
 And.intro @ql<|And.intro @xa<|And.intro @qd<|And.intro jv<|And.intro x6<|And.intro @kq<|And.intro @zd<|And.intro @zn @ur
theorem qq:type_of% Br/\type_of% Jo/\type_of% HS:=⟨Br,Jo,HS⟩
section
variable {α:Type} {enc:α->List AV} {e size:Nat} {H0 H H':AHeap} {v:AV} {xs:List α}
theorem kN.to3 {α β:Type} {m g:Bool} {o:Option (α × β)} {K:Bool -> α -> β->Prop} (h:kN m o λ _ a b=>K g a b):bA g o K:=by
 cases o with
 | none=>exact False.elim h
 | some a=>exact h
theorem q8r {H:AHeap} {e size bytes:Nat} {v:AV} {n:Nat} {cells:List AV} (h:Own H e size v n cells) {x:AV} {k:Nat} {new:List AV} (hx:Sl H size x k new) (hnew:bh new=true) (hs:0<size)
 (hf:(n+k)*bytes<=140737488355328) (hf':n+k<=140737488355328) {K:Bool->AV->AHeap->Prop} {m:Bool}
 (hk:∀ v' H',Own H' e size v' (n+k) (cells++new)->Fr (bL v) H H'->(∀ b,bL v' b->bL v b\/H.next<=b)->K m v' H'):bA m (Op.append e size bytes [v,x] H) K :=
 kN.to3 (m:=m) (q0y h hx hnew hs hf hf' hk)
end
end
end Go.Am
namespace Go.Am
abbrev OR (c:List AV) (e:Nat):bg:=.row c e (0,0) true
theorem jq (H:AHeap) (o:bg):(H.alloc o).next=H.next+1:=rfl
theorem yj (H:AHeap) (b:Nat) (o:bg):(H.set b o).next=H.next:=rfl
theorem xd4 (H:AHeap) (o:bg):(H.alloc o).get H.next=some o:=qp H o
theorem xbe {H:AHeap} {b:Nat} (o:bg) (h:b<=H.next/\H.next<=b):(H.alloc o).get b=some o:=by rw [show b=H.next by omega];exact qp H o
theorem xd5 {H:AHeap} {b:Nat} (o:bg) (h:b<H.next):(H.alloc o).get b=H.get b:=rN h o
theorem xbg (H:AHeap) (b:Nat) (o:bg):(H.set b o).get b=some o:=xd H b o
theorem xbf {H:AHeap} {b b':Nat} (o:bg) (h:b<b'\/b'<b):(H.set b o).get b'=H.get b':=sw (by omega) o
def na (o:Nat):Option bg->Option AV
 | some (.row c _ _ _)=>c[o]?
 | some (.grown _ _ c _ _)=>c[o]?
 | _=>none
theorem xd6 (b o:Nat) (H:AHeap):Op.aa [.ptr b o] H=na o (H.get b):=by
 cases h:H.get b with
 | none=>simp [Op.aa,AHeap.aa,AHeap.bz,h,na]
 | some x=>cases x<;>simp [Op.aa,AHeap.aa,AHeap.bz,h,na,gM]
theorem xd1 (o:Nat) (c:List AV) (e:Nat) (fz:Nat × Nat) (ow:Bool):na o (some (.row c e fz ow))=c[o]?:=rfl
def jC (n o:Nat):Option bg->Option AV
 | some (.row c _ _ _)=>if n<=c.length-o then some (.agg ((c.drop o).take n)) else none
 | some (.grown _ _ c _ _)=>if n<=c.length-o then some (.agg ((c.drop o).take n)) else none
 | _=>none
theorem xbb (n o:Nat) (c:List AV) (e:Nat) (fz:Nat × Nat) (ow:Bool):jC n o (some (.row c e fz ow))=if n<=c.length-o then some (.agg ((c.drop o).take n)) else none:=rfl
theorem Aw (n b o:Nat) (H:AHeap):Op.au n [.ptr b o] H=jC n o (H.get b):=by
 cases h:H.get b with
 | none=>simp [Op.au,AHeap.au,AHeap.bz,h,jC]
 | some x =>
  cases x<;>simp only [Op.au,AHeap.au,AHeap.bz,h,jC,qd,mB,Option.bind_none]<;>(split<;>simp_all)
noncomputable def ep (n b o:Nat) (v:AV) (H:AHeap):Option bg->Option (AV × AHeap)
 | some (.row c e fz ow)=>cond ow (if v.cells.length=n/\cC fz o n=true/\o+n<=c.length/\bh v.cells=true then some (.undef,H.set b (.row (c.take o++v.cells++c.drop (o+n)) e fz true)) else none) none
 | some (.grown m s c e fz)=>if v.cells.length=n/\cC fz o n=true/\o+n<=c.length/\bh v.cells=true then some (.undef,H.set b (.grown m s (c.take o++v.cells++c.drop (o+n)) e fz)) else none
 | _=>none
theorem AX (n b o:Nat) (v:AV) (H:AHeap):Op.store n [.ptr b o,v] H=ep n b o v H (H.get b):=by
 by_cases hv:v.cells.length=n
 ·subst hv;have e1:∀ n,Nat.beq n n=true:=λ n=>by simp
  simp only [Op.store,nU,e1,ql,AHeap.store];cases h1:bh v.cells with
  | false =>
   simp only [xa,Option.bind_none];cases h:H.get b with
   | none=>rfl
   | some x=>cases x with
    | row c e fz ow=>cases ow<;>simp [ep,h1]
    | _=>simp [ep,h1]
  | true =>
   simp only [ql];cases h:H.get b with
   | none=>rfl
   | some x=>cases x with
    | row c e fz ow =>
     cases ow with
     | false=>simp [ep]
     | true =>
      cases ht:cC fz o v.cells.length with
      | false=>simp [ep,ht]
      | true =>
       simp only [ep,ht,h1,ql,sd,mQ,kr];split<;>simp_all
    | grown m s c e fz =>
     cases ht:cC fz o v.cells.length with
     | false=>simp [ep,ht]
     | true =>
      simp only [ep,ht,h1,ql,sd,mQ,kr];split<;>simp_all
    | _=>rfl
 ·have e1:Nat.beq (bW v.cells) n=false:=by rw [nU];exact oQ hv
  simp only [Op.store,e1,xa];cases h:H.get b with
  | none=>rfl
  | some x=>cases x with
   | row c e fz ow=>cases ow<;>simp [ep,hv]
   | _=>simp [ep,hv]
theorem xcb (n b o:Nat) (v:AV) (H:AHeap) (c:List AV) (e:Nat) (fz:Nat × Nat):ep n b o v H (some (.row c e fz true)) =
 if v.cells.length=n/\cC fz o n=true/\o+n<=c.length/\bh v.cells=true then some (.undef,H.set b (.row (c.take o++v.cells++c.drop (o+n)) e fz true)) else none:=rfl
theorem uH (o n:Nat):cC (0,0) o n=true:=by simp [cC]
theorem MH:bh []=true:=rfl
theorem qyb (v:AV) (l:List AV):bh (v::l)=cond (aD v) (bh l) false:=rfl
theorem qzr (k:IntKind) (n:Int):aD (.int k n)=true:=rfl
theorem q5o (b:Bool):aD (.bool b)=true:=rfl
theorem q7o (s:List UInt8):aD (.str s)=true:=rfl
theorem q7n (b o:Nat):aD (.ptr b o)=true:=rfl
theorem q5s:aD .nilp=true:=rfl
theorem q5t:aD .nils=true:=rfl
theorem q5r:aD .iT=true:=rfl
theorem q5q:aD .nilf=true:=rfl
theorem q7m (b:Nat):aD (.map b)=true:=rfl
theorem qi (b o:Nat):Op.nilCheck [.ptr b o]=some (.ptr b o):=rfl
theorem zo (i:Nat) (l:List AV):Op.extract i [.tuple l]=l[i]?:=xef i l
theorem CI (c:List AV):cY c [] []=some c:=rfl
theorem Db (c:List AV) (off size:Nat) (ps:List (Nat × Nat)) (v:AV) (vs:List AV):cY c ((off,size)::ps) (v::vs)=if v.cells.length=size/\off+size<=c.length then cY (c.take off++v.cells++c.drop (off+size)) ps vs else none:=by
 by_cases hv:v.cells.length=size
 ·subst hv;have e1:Nat.beq (bW v.cells) v.cells.length=true:=by rw [nU];simp
  simp only [cY,e1,ql,sd]
  by_cases h:off+v.cells.length<=c.length
  ·simp [h]
  ·simp [h]
 ·have e1:Nat.beq (bW v.cells) size=false:=by rw [nU];exact oQ hv
  simp [cY,e1,hv]
theorem DP (z:List AV) (ps:List (Nat × Nat)) (vs:List AV):Op.build z ps vs=(cY z ps vs).bind λ c=>some (.agg c):=rfl
theorem sf:(∀ (H:AHeap) (o:bg),(H.alloc o).get H.next=some o)/\(∀ {H:AHeap} {b:Nat} (o:bg),b<=H.next/\H.next<=b->(H.alloc o).get b=some o)/\(∀ {H:AHeap} {b:Nat} (o:bg),b<H.next->(H.alloc o).get b=H.get b)/\(∀ (H:AHeap) (b:Nat) (o:bg),(H.set b o).get b=some o)/\(∀ {H:AHeap} {b b':Nat} (o:bg),b<b'\/b'<b->(H.set b o).get b'=H.get b')/\(∀ (b o:Nat) (H:AHeap),Op.aa [AV.ptr b o] H=na o (H.get b))/\(∀ (o:Nat) (c:List AV) (e:Nat) (fz:Nat × Nat) (ow:Bool),na o (some (bg.row c e fz ow))=c[o]?)/\(∀ (n b o:Nat) (H:AHeap),Op.au n [AV.ptr b o] H=jC n o (H.get b))/\(∀ (n o:Nat) (c:List AV) (e:Nat) (fz:Nat × Nat) (ow:Bool),jC n o (some (bg.row c e fz ow))=if n<=c.length-o then some (AV.agg (List.take n (List.drop o c))) else none)/\(∀ (n b o:Nat) (v:AV) (H:AHeap),Op.store n [AV.ptr b o,v] H=ep n b o v H (H.get b))/\(∀ (n b o:Nat) (v:AV) (H:AHeap) (c:List AV) (e:Nat) (fz:Nat × Nat),ep n b o v H (some (bg.row c e fz true))=if v.cells.length=n/\cC fz o n=true/\o+n<=c.length/\bh v.cells=true then some (AV.undef,H.set b (bg.row (List.take o c++v.cells++List.drop (o+n) c) e fz true)) else none)/\(∀ (o n:Nat),cC (0,0) o n=true)/\bh []=true/\(∀ (v:AV) (l:List AV),bh (v::l)=bif aD v then bh l else false)/\(∀ (k:IntKind) (n:Int),aD (AV.int k n)=true)/\(∀ (b:Bool),aD (AV.bool b)=true)/\(∀ (s:List UInt8),aD (AV.str s)=true)/\(∀ (b o:Nat),aD (AV.ptr b o)=true)/\aD AV.nilp=true/\aD AV.nils=true/\aD AV.iT=true/\aD AV.nilf=true/\(∀ (b:Nat),aD (AV.map b)=true)/\(∀ (b o:Nat),Op.nilCheck [AV.ptr b o]=some (AV.ptr b o))/\(∀ (i:Nat) (l:List AV),Op.extract i [AV.tuple l]=l[i]?)/\(∀ (H:AHeap) (o:bg),(H.alloc o).next=H.next+1)/\(∀ (H:AHeap) (b:Nat) (o:bg),(H.set b o).next=H.next)/\(∀ (c:List AV),cY c [] []=some c)/\(∀ (c:List AV) (off size:Nat) (ps:List (Nat × Nat)) (v:AV) (vs:List AV),cY c ((off,size)::ps) (v::vs)=if v.cells.length=size/\off+size<=c.length then cY (List.take off c++v.cells++List.drop (off+size) c) ps vs else none) /\ ∀ (z:List AV) (ps:List (Nat × Nat)) (vs:List AV),Op.build z ps vs=(cY z ps vs).bind λ c=>some (AV.agg c) :=
 And.intro @xd4<|And.intro @xbe<|And.intro @xd5<|And.intro @xbg<|And.intro @xbf<|And.intro xd6<|And.intro xd1<|And.intro Aw<|And.intro xbb<|And.intro AX<|And.intro xcb<|And.intro uH<|And.intro MH<|And.intro qyb<|And.intro qzr<|And.intro q5o<|And.intro q7o<|And.intro q7n<|And.intro q5s<|And.intro q5t<|And.intro q5r<|And.intro q5q<|And.intro q7m<|And.intro qi<|And.intro zo<|And.intro jq<|And.intro yj<|And.intro CI<|And.intro Db DP
abbrev WE (M:aO) (c:Ctx) (p:Kp × ab) (R:aK->Env->List aC->AHeap->Prop):Prop:=∀ Q E D H,W M c p true Q E D H=R Q E D H
end Go.Am
