/- B4: Logic Logic2 Val Sim Val2 Val3 Iter Logic3 Logic4 Logic5 Mono3 Sim3 Mem3. -/
import Derived.Test.YtiibohocdbaekaaGreatAmCB2
import Derived.Test.YtiibohocdbaekaaGreatAmCB1
set_option linter.unusedVariables false
set_option linter.unusedSimpArgs false
namespace Go.Am
def av:Bool:=true
def bn {α:Type} (m:Bool) (o:Option α) (K:α->Prop):Prop:=match o with
 | some a=>K a
 | none=>False
def fJ {α β:Type} (m:Bool) (o:Option (α × β)) (K:α -> β->Prop):Prop:=match o with
 | some a=>K a.1 a.2
 | none=>False
def D6 (m:Bool) (q:Bool) (A B:Prop):Prop:=match q with
 | true=>A
 | false=>B
@[congr] theorem DM {α:Type} {m m':Bool} {o o':Option α} {K:α->Prop} (hm:m=m') (h:o=o'):bn m o K=bn m' o' K:=by rw [h,hm]
@[congr] theorem CU {α β:Type} {m m':Bool} {o o':Option (α × β)} {K:α -> β->Prop} (hm:m=m') (h:o=o'):fJ m o K=fJ m' o' K:=by rw [h,hm]
@[congr] theorem Gp {m m' q q':Bool} {A B:Prop} (hm:m=m') (h:q=q'):D6 m q A B=D6 m' q' A B:=by rw [h,hm]
theorem bn.elim {α:Type} {m:Bool} {o:Option α} {K:α->Prop} (h:bn m o K):∃ a,o=some a/\K a:=by
 cases o with
 | none=>exact False.elim h
 | some a=>exact ⟨a,rfl,h⟩
theorem fJ.elim {α β:Type} {m:Bool} {o:Option (α × β)} {K:α -> β->Prop} (h:fJ m o K):∃ a b,o=some (a,b)/\K a b:=by
 cases o with
 | none=>exact False.elim h
 | some a=>exact ⟨a.1,a.2,rfl,h⟩
theorem bn.intro {α:Type} {m:Bool} {o:Option α} {K:α->Prop} {a:α} (h:o=some a) (hk:K a):bn m o K:=by subst h;exact hk
theorem fJ.intro {α β:Type} {m:Bool} {o:Option (α × β)} {K:α -> β->Prop} {a:α} {b:β} (h:o=some (a,b)) (hk:K a b):fJ m o K:=by subst h;exact hk
theorem D6.cases {m:Bool} {q:Bool} {A B:Prop} (h1:q=true->A) (h2:q=false->B):D6 m q A B:=by
 cases q with
 | true=>exact h1 rfl
 | false=>exact h2 rfl
def asBool:AV->Option Bool
 | .bool q=>some q
 | _=>none
noncomputable section
structure aA where
 prog:gj
 told:bu
 mute:Nat->Bool
 ok:∀ f vs up H,mute f=false->told f vs up H=none
def aA.call (M:aA) (n:Nat):bu:=gF M.prog M.told n
def aA.func (M:aA) (f:Nat):Option cm:=cond (M.mute f) none (M.prog.func f)
def aA.nA (M:aA):Nat->String->Option Nat:=M.prog.nA
theorem aA.rG {M:aA} {f:Nat} {fn:cm} (h:M.func f=some fn):M.mute f=false/\M.prog.func f=some fn:=by
 unfold aA.func at h;cases hm:M.mute f with
 | true=>rw [hm] at h;cases h
 | false=>rw [hm] at h;exact ⟨rfl,h⟩
theorem aA.sP {M:aA} {f:Nat} (h:M.mute f=false) (n:Nat) (vs:List AV) (up:Option aw) (H:AHeap):M.call (n+1) f vs up H=AY M.prog (M.call n) n f vs up H:=by
 show (match M.told f vs up H with|some r=>some r|none=>AY M.prog (gF M.prog M.told n) n f vs up H)=_;rw [M.ok f vs up H h];rfl
variable (AP:aA)
def rS (n k:Nat) (ctx:Ctx):RT:=⟨AP.prog,AP.call n,rounds AP.prog (AP.call n) n k,n,ctx⟩
def oV (f:Nat) (vs:List AV) (up:Option aw) (H:AHeap) (e:bg) (up':Option aw) (H':AHeap):Prop:=∃ n0,∀ n,n0<=n->AP.call n f vs up H=some (e,up',H')
def kB (f:Nat) (vs:List AV) (H:AHeap) (e:bg) (H':AHeap):Prop:=oV AP f vs none H e none H'
def nN (l:Nat) (vs:List AV) (H:AHeap) (e:bg) (H':AHeap):Prop:=∃ n0,∀ n k,n0<=n->n0<=k->rounds AP.prog (AP.call n) n k vs l H=some (e,H')
def pF:eR->List AV->AHeap->bg->AHeap->Prop
 | .func g=>kB AP g
 | .yield l=>nN AP l
def iL (m:Bool) (f:eR) (vs:List AV) (H:AHeap) (K:AV->AHeap->Prop) (E:aw->AHeap->Prop):Prop :=
 ∃ e H',pF AP f vs H e H'/\match e with
  | .ret v=>K v H'
  | .panic c=>E c H'
@[congr] theorem Cu {AP:aA} {m m':Bool} {f:eR} {vs vs':List AV} {H:AHeap} {K:AV->AHeap->Prop} {E:aw->AHeap->Prop} (hm:m=m') (h:vs=vs'):iL AP m f vs H K E=iL AP m' f vs' H K E:=by rw [h,hm]
def Du (m:Bool) (vs:List AV) (K:eR->List AV->Prop):Prop:=match vs with
 | .fn (.func g) first cap::args=>K (.func g) (first++(args++cap))
 | .fn (.yield l) first []::args=>K (.yield l) (first++args)
 | _=>False
@[congr] theorem Gj {m m':Bool} {vs vs':List AV} {K:eR->List AV->Prop} (hm:m=m') (h:vs=vs'):Du m vs K=Du m' vs' K:=by rw [h,hm]
def Ee (m:Bool) (name:String) (vs:List AV) (K:eR->List AV->Prop):Prop:=match vs with
 | .iface t v::args=>bn av (AP.nA t name) λ g=>K (.func g) (v::args)
 | _=>False
@[congr] theorem F7 {AP:aA} {m m':Bool} {name:String} {vs vs':List AV} {K:eR->List AV->Prop} (hm:m=m') (h:vs=vs'):Ee AP m name vs K=Ee AP m' name vs' K:=by rw [h,hm]
def mb (tm:T AV):List ba->(List AV->Prop)->Prop
 | [],K=>K []
 | .tmp t::xs,K=>bn av (tm.get t) λ v=>mb tm xs λ vs=>K (v::vs)
 | .const v::xs,K=>mb tm xs λ vs=>K (v::vs)
 | .cU g::xs,K=>mb tm xs λ vs=>K (.ptr g 0::vs)
 | .func f::xs,K=>mb tm xs λ vs=>K (.fn (.func f) [] []::vs)
theorem mb.elim {tm:T AV}:∀ {l:List ba} {K:List AV->Prop},mb tm l K -> ∃ vs,iI tm l=some vs/\K vs
 | [],K,h=>⟨[],rfl,h⟩
 | .tmp t::xs,K,h=>by
  obtain ⟨v,hv,h⟩:=bn.elim (m:=av) h;obtain ⟨vs,h1,h2⟩:=mb.elim h;exact ⟨v::vs,by simp [iI,mY,hv,h1],h2⟩
 | .const v::xs,K,h=>by
  obtain ⟨vs,h1,h2⟩:=mb.elim (l:=xs) h;exact ⟨v::vs,by simp [iI,mY,h1],h2⟩
 | .cU v::xs,K,h=>by
  obtain ⟨vs,h1,h2⟩:=mb.elim (l:=xs) h;exact ⟨_,by simp [iI,mY,h1],h2⟩
 | .func v::xs,K,h=>by
  obtain ⟨vs,h1,h2⟩:=mb.elim (l:=xs) h;exact ⟨_,by simp [iI,mY,h1],h2⟩
def zY (tm:T AV) (x:ba) (K:AV->Prop):Prop:=match x with
 | .tmp t=>bn av (tm.get t) K
 | .const v=>K v
 | .cU g=>K (.ptr g 0)
 | .func f=>K (.fn (.func f) [] [])
theorem zY.elim {tm:T AV} {x:ba} {K:AV->Prop} (h:zY tm x K):∃ v,mY tm x=some v/\K v:=by
 cases x with
 | tmp t=>exact bn.elim (m:=av) h
 | const v=>exact ⟨v,rfl,h⟩
 | cU v=>exact ⟨_,rfl,h⟩
 | func v=>exact ⟨_,rfl,h⟩
abbrev bP:=aC->St->Prop
def zZ (ps:Option (List Nat)) (tm:T AV) (aM:List aD) (up:Option aw) (Q:bP) (c:aw) (H:AHeap):Prop:=match ps with
 | some ds=>Q (.panic c) ⟨forget ds tm,aM,up,H⟩
 | none=>False
def pw (m:Bool) (ctx:Ctx) (up:Option aw) (K:AV->Option aw->Prop):Prop:=ctx.round=none/\match up with
 | some ((v,false)::older)=>K v (some ((v,true)::older))
 | _=>K .nili up
@[congr] theorem Cv {m m':Bool} {ctx:Ctx} {up up':Option aw} {K:AV->Option aw->Prop} (hm:m=m') (h:up=up'):pw m ctx up K=pw m' ctx up' K:=by rw [h,hm]
def uV (m:Bool) (ctx:Ctx) (vs:List AV) (aM:List aD) (K:List aD->Prop):Prop:=ctx.round=none/\match vs with
 | .fn (.func f) first cap::args=>K (.fn (.func f) (first++(args++cap))::aM)
 | _=>False
@[congr] theorem Dx {m m':Bool} {ctx:Ctx} {vs vs':List AV} {aM:List aD} {K:List aD->Prop} (hm:m=m') (h:vs=vs'):uV m ctx vs aM K=uV m' ctx vs' aM K:=by rw [h,hm]
def dU (vs:List AV) (H:AHeap) (E:aw->AHeap->Prop):Prop:=match vs with
 | [.iface t v]=>E [(.iface t v,false)] H
 | _=>False
@[congr] theorem BQ {vs vs':List AV} {H:AHeap} {E:aw->AHeap->Prop} (h:vs=vs'):dU vs H E=dU vs' H E:=by rw [h]
def mf (ctx:Ctx) (dst:Option Nat) (ps:Option (List Nat)) (st:St) (Q:bP) (K:St->Prop) (vs:List AV):dN->Prop
 | .pure f=>bn av (f vs) λ v=>K ⟨c5 dst v st.tm,st.aM,st.up,st.H⟩
 | .read f=>bn av (f vs st.H) λ v=>K ⟨c5 dst v st.tm,st.aM,st.up,st.H⟩
 | .alloc f=>fJ av (f vs) λ o mk=>K ⟨c5 dst (mk st.H.next) st.tm,st.aM,st.up,st.H.alloc o⟩
 | .eQ f=>fJ av (f vs st.H) λ v H=>K ⟨c5 dst v st.tm,st.aM,st.up,H⟩
 | .eH g=>iL AP av (.func g) vs st.H (λ v H=>K ⟨c5 dst v st.tm,st.aM,st.up,H⟩) (zZ ps st.tm st.aM st.up Q)
 | .eK=>Du av vs λ f vs=>iL AP av f vs st.H (λ v H=>K ⟨c5 dst v st.tm,st.aM,st.up,H⟩) (zZ ps st.tm st.aM st.up Q)
 | .invoke name=>Ee AP av name vs λ f vs=>iL AP av f vs st.H (λ v H=>K ⟨c5 dst v st.tm,st.aM,st.up,H⟩) (zZ ps st.tm st.aM st.up Q)
 | .recover=>match vs with
  | []=>pw av ctx st.up λ v up=>K ⟨c5 dst v st.tm,st.aM,up,st.H⟩
  | _=>False
 | .defer=>uV av ctx vs st.aM λ aM=>K ⟨c5 dst .undef st.tm,aM,st.up,st.H⟩
 | .panic=>dU vs st.H (zZ ps st.tm st.aM st.up Q)
def G3 (dst:Option Nat) (st:St) (vs:List AV):dN->Prop
 | .read f=>match dst with
  | some d=>bn av (f vs st.H) λ v=>bn av (st.tm.get d) λ v'=>v=v'
  | none=>False
 | _=>False
def qG (ctx:Ctx) (s:aL) (st:St) (Q:bP) (K:St->Prop):Prop :=
 match s.eO with
 | false=>match s.guard with
  | none=>mb st.tm s.args λ vs=>mf AP ctx s.dst s.bG st Q K vs s.op
  | some g=>bn av (cB g.2 (st.tm.get g.1)) λ w=>D6 av w (mb st.tm s.args λ vs=>mf AP ctx s.dst s.bG st Q K vs s.op) (K ⟨c5 s.dst .undef st.tm,st.aM,st.up,st.H⟩)
 | true=>match s.guard with
  | none=>mb st.tm s.args λ vs=>G3 s.dst st vs s.op/\K st
  | some g=>bn av (cB g.2 (st.tm.get g.1)) λ w=>D6 av w (mb st.tm s.args λ vs=>G3 s.dst st vs s.op/\K st) (s.dst.isSome=true/\K st)
def nu (ctx:Ctx):List aL->St->bP->Prop
 | [],st,Q=>Q .normal st
 | s::rest,st,Q=>qG AP ctx s st Q λ st'=>nu ctx rest st' Q
def PE (W:St->bP->Prop) (Q:bP):bP:=λ e st=>match e with
 | .normal=>W st Q
 | e=>Q e st
def BLK (id:Nat) (Q:bP):bP:=λ e st=>match e with
 | .exit id'=>Q (cond (Nat.beq id id') .normal (.exit id')) st
 | e=>Q e st
def SCP (b:aj) (Q:bP):bP:=λ e st=>match e with
 | .goto l=>Al b l=false/\Q (.goto l) st
 | e=>Q e st
def gT (ah:Option (List Nat)) (st:St):St:=match ah with
 | none=>st
 | some ks=>{ st with tm:=Pj st.tm ks .nil }
def Ei (W:St->bP->Prop) (ah:Option (List Nat)) (st:St) (Q:bP):Prop :=
 ∃ I:Nat->St->Prop,(∃ n,I n st) /\ ∀ n st,I n st->W (gT ah st) λ e st'=>match e with
  | .normal=>∃ m,m<n/\I m st'
  | e=>Q e st'
def M1 (st:St) (aM:List aD) (l:Nat) (Q:bP) (e:bg) (H:AHeap):Prop:=match e with
 | .panic c=>Q (.panic c) { st with aM:=aM,H:=H }
 | .ret _=>∃ s p f k tm d,H.get l=some (.loop s p f k tm d)/\s ≠ .busy/\Q (mn p) { st with aM:=aM,H:=H.set l (.loop .exhausted p f k tm d) }
def iN (ctx:Ctx) (st:St) (k:Nat) (H0:AHeap) (aM:List aD) (d:Nat) (Q:bP):AV->Prop
 | .fn (.func g) first cap=>∃ e H',kB AP g (first++(.fn (.yield H0.next) [] []::cap)) (H0.alloc (.loop .ready none ctx.fn k st.tm d)) e H'/\M1 st aM H0.next Q e H'
 | _=>False
def C7 (ctx:Ctx) (k:Nat) (st:St) (Q:bP) (v:AV):Prop:=match ctx.round with
 | none=>iN AP ctx st k (st.H.alloc (.deferred (some []))) (.fT st.H.next::st.aM) st.H.next Q v
 | some l=>bn av (tX st.H l) λ d=>iN AP ctx st k st.H st.aM d Q v
def WP (ctx:Ctx):aj->St->bP->Prop
 | .skip,st,Q=>Q .normal st
 | .label _,st,Q=>Q .normal st
 | .region steps,st,Q=>nu AP ctx steps st Q
 | .seq a b,st,Q=>WP ctx a st (PE (WP ctx b) Q)
 | .cond c a b,st,Q=>zY st.tm c λ v=>bn av (asBool v) λ q=>D6 av q (WP ctx a st Q) (WP ctx b st Q)
 | .block id b,st,Q=>WP ctx b st (BLK id Q)
 | .loop ah b,st,Q=>Ei (WP ctx b) ah st Q
 | .exit id,st,Q=>Q (.exit id) st
 | .goto l,st,Q=>Q (.goto l) st
 | .ret,st,Q=>Q .ret st
 | .stuck,_,_=>False
 | .scope b,st,Q=>WP ctx b st (SCP b Q)
 | .rangeFunc f k,st,Q=>zY st.tm f λ v=>C7 AP ctx k st Q v
section
variable (ctx:Ctx) (st:St) (Q:bP)
theorem PJ (s:aL) (l:List aL):nu AP ctx (s::l) st Q=qG AP ctx s st Q λ st'=>nu AP ctx l st' Q:=propext ji
end
def EX (ctx:Ctx) (c:aj) (st:St) (r:aC × St):Prop:=∃ n0,∀ n k,n0<=n->n0<=k->(aY c).run (rS AP n k ctx) st=some r
def EXS (ctx:Ctx) (l:List aL) (st:St) (r:aC × St):Prop:=∃ n0,∀ n k,n0<=n->n0<=k->(eG l).run (rS AP n k ctx) st=some r
theorem pF.run {AP:aA} {f:eR} {vs:List AV} {H:AHeap} {e:bg} {H':AHeap} (h:pF AP f vs H e H') :
 ∃ n0,∀ n k,n0<=n->n0<=k->bN (AP.call n) (rounds AP.prog (AP.call n) n k) f vs H=some (e,H'):=by
 cases f with
 | func g=>obtain ⟨n0,h⟩:=h;exact ⟨n0,λ n k hn _=>by simp [bN,h n hn]⟩
 | yield l=>obtain ⟨n0,h⟩:=h;exact ⟨n0,λ n k hn hk=>by simp [bN,h n k hn hk]⟩
theorem qup:(∀ v,bB v v=true)/\(∀ l,dh l l=true):=by
 have e1:∀ n,Nat.beq n n=true:=λ n=>by simp
 have e2:∀ k,pV k k=true:=λ k=>by cases k<;>rfl
 have e3:∀ i,pR i i=true:=λ i=>by rw [BT];simp
 have e4:∀ s,sT s s=true:=λ s=>by rw [FJ];simp
 refine ⟨λ v=>?_,λ l=>?_⟩
 ·refine AV.rec (motive_1:=λ v=>bB v v=true) (motive_2:=λ l=>dh l l=true) ?_ ?_ ?_ ?_ ?_ ?_ ?_ ?_ ?_ ?_ ?_ ?_ ?_ ?_ ?_ ?_ ?_ ?_ ?_ v
  all_goals (intros;first|rfl|(simp only [bB,dh,e1,e2,e3,e4,zu,beq_self_eq_true, *];done) | (rename_i f _ _ _ _;cases f<;>simp only [bB,dh,e1,zu, *]))
 ·refine AV.rec_1 (motive_1:=λ v=>bB v v=true) (motive_2:=λ l=>dh l l=true) ?_ ?_ ?_ ?_ ?_ ?_ ?_ ?_ ?_ ?_ ?_ ?_ ?_ ?_ ?_ ?_ ?_ ?_ ?_ l
  all_goals (intros;first|rfl|(simp only [bB,dh,e1,e2,e3,e4,zu,beq_self_eq_true, *];done) | (rename_i f _ _ _ _;cases f<;>simp only [bB,dh,e1,zu, *]))
theorem q4b (v:AV):bB v v=true:=qup.1 v
theorem G3.run {d:Option Nat} {st:St} {vs:List AV} {op:dN} (h:G3 d st vs op):∃ t,d=some t/\mE (T.kN (T.path t)).run st vs op=true:=by
 cases op with
 | read f =>
  cases d with
  | none=>exact False.elim h
  | some t =>
   refine ⟨t,rfl,?_⟩;obtain ⟨v,h1,h⟩:=bn.elim (m:=av) h;obtain ⟨v',h2,h⟩:=bn.elim (m:=av) h;subst h;have h2':(T.kN (T.path t)).run st.tm=some v:=by rw [T.fZ];exact h2
   simp [mE,h1,h2',q4b]
 | _=>exact False.elim h
theorem mf.run {AP:aA} {ctx:Ctx} {dst:Option Nat} {ps:Option (List Nat)} {st:St} {Q:bP} {K:St->Prop} {vs:List AV} {op:dN} (h:mf AP ctx dst ps st Q K vs op)
 {kk:Nat->Nat->St->ew} (hK:∀ st,K st -> ∃ e st',Q e st' /\ ∃ n0,∀ n k,n0<=n->n0<=k->kk n k st=some (e,st')) :
 ∃ e st',Q e st' /\ ∃ n0,∀ n k,n0<=n->n0<=k->(mN (iA dst).run ps op).run (rS AP n k ctx) st (kk n k) vs=some (e,st'):=by
 have hp:∀ v tm,(iA dst).run v tm=c5 dst v tm:=PU dst;have call:∀ {f vs},iL AP av f vs st.H (λ v H=>K ⟨c5 dst v st.tm,st.aM,st.up,H⟩) (zZ ps st.tm st.aM st.up Q) ->
  ∃ e st',Q e st' /\ ∃ n0,∀ n k,n0<=n->n0<=k->((bN (AP.call n) (rounds AP.prog (AP.call n) n k) f vs st.H).bind λ r=>dE (iA dst).run ps st (kk n k) r)=some (e,st'):=by
  rintro f vs ⟨e,H',h1,h⟩;obtain ⟨n0,h1⟩:=h1.run;cases e with
  | ret v =>
   obtain ⟨e,st',hq,n1,h2⟩:=hK _ h;refine ⟨e,st',hq,max n0 n1,λ n k hn hk=>?_⟩;rw [h1 n k (by omega) (by omega)]
   simpa [dE,hp] using h2 n k (by omega) (by omega)
  | panic c =>
   cases ps with
   | none=>exact False.elim h
   | some ds =>
    refine ⟨_,_,h,n0,λ n k hn hk=>?_⟩;rw [h1 n k (by omega) (by omega)];simp [dE]
 cases op with
 | pure f =>
  obtain ⟨v,h1,h⟩:=bn.elim (m:=av) h;obtain ⟨e,st',hq,n1,h2⟩:=hK _ h;exact ⟨e,st',hq,n1,λ n k hn hk=>by simp [mN,yV,h1,hp,h2 n k hn hk]⟩
 | read f =>
  obtain ⟨v,h1,h⟩:=bn.elim (m:=av) h;obtain ⟨e,st',hq,n1,h2⟩:=hK _ h;exact ⟨e,st',hq,n1,λ n k hn hk=>by simp [mN,wN,h1,hp,h2 n k hn hk]⟩
 | alloc f =>
  simp only [mf] at h;obtain ⟨o,mk,h1,h⟩:=fJ.elim (m:=av) h;obtain ⟨e,st',hq,n1,h2⟩:=hK _ h;exact ⟨e,st',hq,n1,λ n k hn hk=>by simp [mN,qW,h1,hp,h2 n k hn hk]⟩
 | eQ f =>
  simp only [mf] at h;obtain ⟨o,mk,h1,h⟩:=fJ.elim (m:=av) h;obtain ⟨e,st',hq,n1,h2⟩:=hK _ h;exact ⟨e,st',hq,n1,λ n k hn hk=>by simp [mN,Ey,h1,hp,h2 n k hn hk]⟩
 | eH f=>exact call h
 | eK =>
  simp only [mf,Du] at h;split at h
  ·exact call h
  ·exact call h
  ·exact False.elim h
 | invoke name =>
  simp only [mf,Ee] at h;split at h
  ·obtain ⟨g,hg,h⟩:=bn.elim (m:=av) h;obtain ⟨e,st',hq,n1,h2⟩:=call h;exact ⟨e,st',hq,n1,λ n k hn hk=>by simpa [mN,nY,rS,(show AP.prog.nA _ name=some g from hg)] using h2 n k hn hk⟩
  ·exact False.elim h
 | recover =>
  simp only [mf] at h;split at h
  ·obtain ⟨hr,h⟩:=h;split at h
   ·rename_i v older hup;obtain ⟨e,st',hq,n1,h2⟩:=hK _ h;exact ⟨e,st',hq,n1,λ n k hn hk=>by simpa [mN,Li,rS,hr,Jm,hup,hp] using h2 n k hn hk⟩
   ·rename_i hup;obtain ⟨e,st',hq,n1,h2⟩:=hK _ h;refine ⟨e,st',hq,n1,λ n k hn hk=>?_⟩;have:Jm (iA dst).run st=⟨c5 dst .nili st.tm,st.aM,st.up,st.H⟩:=by
     unfold Jm;split
     ·rename_i v older hu;exact (hup _ _ hu).elim
     ·rw [hp]
    simpa [mN,Li,rS,hr,this] using h2 n k hn hk
  ·exact False.elim h
 | defer =>
  obtain ⟨hr,h⟩:=h;split at h
  ·obtain ⟨e,st',hq,n1,h2⟩:=hK _ h;exact ⟨e,st',hq,n1,λ n k hn hk=>by simpa [mN,p6,rS,hr,hp] using h2 n k hn hk⟩
  ·exact False.elim h
 | panic =>
  simp only [mf,dU] at h;split at h
  ·cases ps with
   | none=>exact False.elim h
   | some ds=>exact ⟨_,_,h,0,λ n k hn hk=>by simp [mN,p8,dE]⟩
  ·exact False.elim h
theorem qG.run {AP:aA} {ctx:Ctx} {s:aL} {st:St} {Q:bP} {K:St->Prop} (h:qG AP ctx s st Q K)
 {kk:Nat->Nat->St->ew} (hK:∀ st,K st -> ∃ e st',Q e st' /\ ∃ n0,∀ n k,n0<=n->n0<=k->kk n k st=some (e,st')) :
 ∃ e st',Q e st' /\ ∃ n0,∀ n k,n0<=n->n0<=k->(ep s).run (rS AP n k ctx) (kk n k) st=some (e,st'):=by
 obtain ⟨eO,dst,guard,args,op,ps⟩:=s;have hp:∀ v tm,(iA dst).run v tm=c5 dst v tm:=PU dst;have hc:∀ g,(T.kN (T.path g)).run st.tm=st.tm.get g:=λ g=>by rw [T.fZ];rfl
 cases eO with
 | false =>
  cases guard with
  | none =>
   obtain ⟨vs,h1,h⟩:=mb.elim h;obtain ⟨e,st',hq,n0,h2⟩:=h.run hK;exact ⟨e,st',hq,n0,λ n k hn hk=>by simpa [ep,AL,h1] using h2 n k hn hk⟩
  | some g =>
   obtain ⟨w,hw,h⟩:=bn.elim (m:=av) h;cases w with
   | true =>
    obtain ⟨vs,h1,h⟩:=mb.elim h;obtain ⟨e,st',hq,n0,h2⟩:=h.run hK;exact ⟨e,st',hq,n0,λ n k hn hk=>by simpa [ep,hc,hw,AL,h1] using h2 n k hn hk⟩
   | false =>
    obtain ⟨e,st',hq,n0,h2⟩:=hK _ h;exact ⟨e,st',hq,n0,λ n k hn hk=>by simpa [ep,hc,hw,hp] using h2 n k hn hk⟩
 | true =>
  cases guard with
  | none =>
   obtain ⟨vs,h1,hk,h'⟩:=mb.elim h;obtain ⟨t,rfl,hk⟩:=hk.run;obtain ⟨e,st',hq,n0,h2⟩:=hK _ h';exact ⟨e,st',hq,n0,λ n k hn hkk=>by simpa [ep,AL,h1,hk] using h2 n k hn hkk⟩
  | some g =>
   obtain ⟨w,hw,h⟩:=bn.elim (m:=av) h;cases w with
   | true =>
    obtain ⟨vs,h1,hk,h'⟩:=mb.elim h;obtain ⟨t,rfl,hk⟩:=hk.run;obtain ⟨e,st',hq,n0,h2⟩:=hK _ h';exact ⟨e,st',hq,n0,λ n k hn hkk=>by simpa [ep,hc,hw,AL,h1,hk] using h2 n k hn hkk⟩
   | false =>
    obtain ⟨hd,h⟩:=h;obtain ⟨e,st',hq,n0,h2⟩:=hK _ h;cases dst with
    | none=>cases hd
    | some d=>exact ⟨e,st',hq,n0,λ n k hn hkk=>by simpa [ep,hc,hw] using h2 n k hn hkk⟩
theorem nu.run {AP:aA} {ctx:Ctx}:∀ {l:List aL} {st:St} {Q:bP},nu AP ctx l st Q -> ∃ e st',Q e st'/\EXS AP ctx l st (e,st')
 | [],st,Q,h=>⟨_,_,h,0,λ _ _ _ _=>rfl⟩
 | s::rest,st,Q,h=>by
  obtain ⟨e,st',hq,n0,h⟩:=qG.run (kk:=λ n k=>(eG rest).run (rS AP n k ctx)) h λ st' hs=>nu.run hs;exact ⟨e,st',hq,n0,h⟩
theorem zF {AP:aA} {ctx:Ctx} {ah:Option (List Nat)} {b:aj} {Q:bP} {I:Nat->St->Prop}
 (hb:∀ n st,I n st -> ∃ e st',(match e with | .normal=>∃ m,m<n/\I m st'|e=>Q e st')/\EX AP ctx b (gT ah st) (e,st')) :
 ∀ m n,n<=m -> ∀ st,I n st -> ∃ e st',Q e st' /\ ∃ n0 c,∀ n k,n0<=n->n0<=k -> ∀ c',c<=c'->eB ah ((aY b).run (rS AP n k ctx)) c' st=some (e,st'):=by
 intro m
 induction m with
 | zero =>
  intro n hn st hi;obtain ⟨e,st',h,n0,hx⟩:=hb n st hi;cases e with
  | normal=>obtain ⟨j,hj,_⟩:=h;omega
  | exit id=>exact ⟨_,_,h,n0,1,λ n k hn hk c' hc=>by obtain ⟨c,rfl⟩:∃ c,c'=c+1:=⟨c'-1,by omega⟩;have:=hx n k hn hk;cases ah<;>simp [eB,gT] at this ⊢<;>simp [this]⟩
  | goto l=>exact ⟨_,_,h,n0,1,λ n k hn hk c' hc=>by obtain ⟨c,rfl⟩:∃ c,c'=c+1:=⟨c'-1,by omega⟩;have:=hx n k hn hk;cases ah<;>simp [eB,gT] at this ⊢<;>simp [this]⟩
  | ret=>exact ⟨_,_,h,n0,1,λ n k hn hk c' hc=>by obtain ⟨c,rfl⟩:∃ c,c'=c+1:=⟨c'-1,by omega⟩;have:=hx n k hn hk;cases ah<;>simp [eB,gT] at this ⊢<;>simp [this]⟩
  | panic p=>exact ⟨_,_,h,n0,1,λ n k hn hk c' hc=>by obtain ⟨c,rfl⟩:∃ c,c'=c+1:=⟨c'-1,by omega⟩;have:=hx n k hn hk;cases ah<;>simp [eB,gT] at this ⊢<;>simp [this]⟩
 | succ m ih =>
  intro n hn st hi;obtain ⟨e,st',h,n0,hx⟩:=hb n st hi;cases e with
  | normal =>
   obtain ⟨j,hj,hi'⟩:=h;obtain ⟨e,st2,hq,n1,c,h2⟩:=ih j (by omega) st' hi';refine ⟨e,st2,hq,max n0 n1,c+1,λ n k hn hk c' hc=>?_⟩;obtain ⟨c'',rfl⟩:∃ c,c'=c+1:=⟨c'-1,by omega⟩
   have:=hx n k (by omega) (by omega);have h3:=h2 n k (by omega) (by omega) c'' (by omega);cases ah<;>simp [eB,gT] at this ⊢<;>simp [this,h3]
  | exit id=>exact ⟨_,_,h,n0,1,λ n k hn hk c' hc=>by obtain ⟨c,rfl⟩:∃ c,c'=c+1:=⟨c'-1,by omega⟩;have:=hx n k hn hk;cases ah<;>simp [eB,gT] at this ⊢<;>simp [this]⟩
  | goto l=>exact ⟨_,_,h,n0,1,λ n k hn hk c' hc=>by obtain ⟨c,rfl⟩:∃ c,c'=c+1:=⟨c'-1,by omega⟩;have:=hx n k hn hk;cases ah<;>simp [eB,gT] at this ⊢<;>simp [this]⟩
  | ret=>exact ⟨_,_,h,n0,1,λ n k hn hk c' hc=>by obtain ⟨c,rfl⟩:∃ c,c'=c+1:=⟨c'-1,by omega⟩;have:=hx n k hn hk;cases ah<;>simp [eB,gT] at this ⊢<;>simp [this]⟩
  | panic p=>exact ⟨_,_,h,n0,1,λ n k hn hk c' hc=>by obtain ⟨c,rfl⟩:∃ c,c'=c+1:=⟨c'-1,by omega⟩;have:=hx n k hn hk;cases ah<;>simp [eB,gT] at this ⊢<;>simp [this]⟩
theorem iN.run {AP:aA} {ctx:Ctx} {st:St} {k0:Nat} {H0:AHeap} {aM:List aD} {d:Nat} {Q:bP} {v:AV} (h:iN AP ctx st k0 H0 aM d Q v) :
 ∃ e st',Q e st' /\ ∃ n0,∀ n k,n0<=n->n0<=k->fN (AP.call n) (rounds AP.prog (AP.call n) n k) ctx st k0 H0 aM d v=some (e,st'):=by
 unfold iN at h;split at h
 ·obtain ⟨e,H',⟨n0,hc⟩,h⟩:=h;cases e with
  | panic c=>exact ⟨_,_,h,n0,λ n k hn hk=>by simp [fN,bN,hc n hn,GQ]⟩
  | ret v =>
   obtain ⟨s,p,f,k,tm,d,hg,hs,h⟩:=h;refine ⟨_,_,h,n0,λ n k hn hk=>?_⟩;simp only [fN,bN,hc n hn,GQ,qj,hg]
 ·exact False.elim h
theorem WP.run {AP:aA} {ctx:Ctx}:∀ {c:aj} {st:St} {Q:bP},WP AP ctx c st Q -> ∃ e st',Q e st'/\EX AP ctx c st (e,st')
 | .skip,st,Q,h=>⟨_,_,h,0,λ _ _ _ _=>rfl⟩
 | .label _,st,Q,h=>⟨_,_,h,0,λ _ _ _ _=>rfl⟩
 | .exit _,st,Q,h=>⟨_,_,h,0,λ _ _ _ _=>rfl⟩
 | .goto _,st,Q,h=>⟨_,_,h,0,λ _ _ _ _=>rfl⟩
 | .ret,st,Q,h=>⟨_,_,h,0,λ _ _ _ _=>rfl⟩
 | .stuck,st,Q,h=>False.elim h
 | .region steps,st,Q,h=>nu.run h
 | .seq a b,st,Q,h=>by
  obtain ⟨e,bS,h1,n0,hx⟩:=WP.run (c:=a) h;cases e with
  | normal =>
   obtain ⟨e,st2,hq,n1,hy⟩:=WP.run (c:=b) h1;exact ⟨e,st2,hq,max n0 n1,λ n k hn hk=>by simp [aY,hx n k (by omega) (by omega),o9,hy n k (by omega) (by omega)]⟩
  | exit id=>exact ⟨_,_,h1,n0,λ n k hn hk=>by simp [aY,hx n k hn hk,o9]⟩
  | goto id=>exact ⟨_,_,h1,n0,λ n k hn hk=>by simp [aY,hx n k hn hk,o9]⟩
  | ret=>exact ⟨_,_,h1,n0,λ n k hn hk=>by simp [aY,hx n k hn hk,o9]⟩
  | panic p=>exact ⟨_,_,h1,n0,λ n k hn hk=>by simp [aY,hx n k hn hk,o9]⟩
 | .cond c a b,st,Q,h=>by
  obtain ⟨v,hv,h⟩:=zY.elim h;obtain ⟨q,hq,h⟩:=bn.elim (m:=av) h;have hv':v=.bool q:=by
   unfold asBool at hq;split at hq
   ·injection hq with hq;rw [hq]
   ·cases hq
  subst hv';cases q with
  | true =>
   obtain ⟨e,bS,h1,n0,hx⟩:=WP.run (c:=a) h;exact ⟨e,bS,h1,n0,λ n k hn hk=>by simp [aY,C4,hv,pz,hx n k hn hk]⟩
  | false =>
   obtain ⟨e,bS,h1,n0,hx⟩:=WP.run (c:=b) h;exact ⟨e,bS,h1,n0,λ n k hn hk=>by simp [aY,C4,hv,pz,hx n k hn hk]⟩
 | .block id b,st,Q,h=>by
  obtain ⟨e,bS,h1,n0,hx⟩:=WP.run (c:=b) h;cases e with
  | exit id'=>exact ⟨_,_,h1,n0,λ n k hn hk=>by simp [aY,hx n k hn hk,gH]⟩
  | normal=>exact ⟨_,_,h1,n0,λ n k hn hk=>by simp [aY,hx n k hn hk,gH]⟩
  | goto id=>exact ⟨_,_,h1,n0,λ n k hn hk=>by simp [aY,hx n k hn hk,gH]⟩
  | ret=>exact ⟨_,_,h1,n0,λ n k hn hk=>by simp [aY,hx n k hn hk,gH]⟩
  | panic p=>exact ⟨_,_,h1,n0,λ n k hn hk=>by simp [aY,hx n k hn hk,gH]⟩
 | .scope b,st,Q,h=>by
  obtain ⟨e,bS,h1,n0,hx⟩:=WP.run (c:=b) h;cases e with
  | exit id'=>exact ⟨_,_,h1,n0,λ n k hn hk=>by simp [aY,hx n k hn hk,ik]⟩
  | normal=>exact ⟨_,_,h1,n0,λ n k hn hk=>by simp [aY,hx n k hn hk,ik]⟩
  | goto id=>exact ⟨_,_,h1.2,n0,λ n k hn hk=>by simp [aY,hx n k hn hk,ik,h1.1]⟩
  | ret=>exact ⟨_,_,h1,n0,λ n k hn hk=>by simp [aY,hx n k hn hk,ik]⟩
  | panic p=>exact ⟨_,_,h1,n0,λ n k hn hk=>by simp [aY,hx n k hn hk,ik]⟩
 | .loop ah b,st,Q,⟨I,⟨n,hi⟩,h⟩=>by
  obtain ⟨e,st',hq,n0,c,hx⟩:=zF (AP:=AP) (ctx:=ctx) (ah:=ah) (b:=b) (Q:=Q) (I:=I) (λ n st hi=>by
   obtain ⟨e,st',h1,h2⟩:=WP.run (c:=b) (h n st hi);exact ⟨e,st',h1,h2⟩) n n (qf n) st hi
  exact ⟨e,st',hq,max n0 c,λ n k hn hk=>hx n k (by omega) (by omega) n (by omega)⟩
 | .rangeFunc f k0,st,Q,h=>by
  obtain ⟨v,hv,h⟩:=zY.elim h;unfold C7 at h;cases hr:ctx.round with
  | none =>
   rw [hr] at h;obtain ⟨e,st',hq,n0,hx⟩:=iN.run h;exact ⟨e,st',hq,n0,λ n k hn hk=>by simpa [aY,C4,hv,mA,rS,hr] using hx n k hn hk⟩
  | some l =>
   rw [hr] at h;obtain ⟨d,hd,h⟩:=bn.elim (m:=av) h;obtain ⟨e,st',hq,n0,hx⟩:=iN.run h;exact ⟨e,st',hq,n0,λ n k hn hk=>by simpa [aY,C4,hv,mA,rS,hr,hd] using hx n k hn hk⟩
def tc (AP:aA) (rs:List cu) (tm:T AV) (Q:bg->AHeap->Prop):List aD->Option aw->AHeap->Prop
 | [],none,H=>bn av (cG H tm rs) λ l=>Q (.ret (dq l)) H
 | [],some c,H=>Q (.panic c) H
 | .fT b::ds,m,H=>H.get b=some (.deferred (some []))/\tc AP rs tm Q ds m (H.set b (.deferred none))
 | .fn (.func f) args::ds,m,H=>∃ v up' H',oV AP f args (some (m.getD [])) H (.ret v) (some up') H'/\bn av (jU m up') λ m'=>tc AP rs tm Q ds m' H'
 | .fn (.yield _) _::_,_,_=>False
theorem tc.run {AP:aA} {rs:List cu} {tm:T AV} {Q:bg->AHeap->Prop}:∀ {ds:List aD} {m:Option aw} {H:AHeap},tc AP rs tm Q ds m H ->
 ∃ e H',Q e H' /\ ∃ n0,∀ n,n0<=n->bA (AP.call n) rs tm ds m H=some (e,H')
 | [],none,H,h=>by
  obtain ⟨l,hl,h⟩:=bn.elim (m:=av) h;exact ⟨_,_,h,0,λ n _=>by simp [bA,hl]⟩
 | [],some c,H,h=>⟨_,_,h,0,λ n _=>by simp [bA]⟩
 | .fT b::ds,m,H,⟨hb,h⟩=>by
  obtain ⟨e,H',hq,n0,hx⟩:=tc.run h;exact ⟨e,H',hq,n0,λ n hn=>by simp [bA,hb,hx n hn]⟩
 | .fn (.func f) args::ds,m,H,⟨v,up',H',⟨n0,hc⟩,h⟩=>by
  obtain ⟨m',hm,h⟩:=bn.elim (m:=av) h;obtain ⟨e,H2,hq,n1,hx⟩:=tc.run h;exact ⟨e,H2,hq,max n0 n1,λ n hn=>by simp [bA,hc n (by omega),hm,hx n (by omega)]⟩
 | .fn (.yield _) _::_,_,_,h=>False.elim h
def FIN (AP:aA) (rs:List cu) (Q:bg->Option aw->AHeap->Prop):bP:=λ e st=>match e with
 | .normal=>tc AP rs st.tm (λ e H=>Q e st.up H) st.aM none st.H
 | .ret=>tc AP rs st.tm (λ e H=>Q e st.up H) st.aM none st.H
 | .panic c=>tc AP rs st.tm (λ e H=>Q e st.up H) st.aM (some c) st.H
 | _=>False
theorem qz5 {AP:aA} {f:Nat} {fn:cm} (hf:AP.func f=some fn) {vs:List AV} {up:Option aw} {H:AHeap} {Q:bg->Option aw->AHeap->Prop}
 (h:WP AP ⟨none,f⟩ fn.body ⟨gg 0 vs .nil,[],up,H⟩ (FIN AP fn.results Q)):∃ e up' H',oV AP f vs up H e up' H'/\Q e up' H':=by
 obtain ⟨hmu,hf⟩:=aA.rG hf;obtain ⟨e,st,h1,n0,hx⟩:=h.run;have key:∀ m,tc AP fn.results st.tm (λ e H=>Q e st.up H) st.aM m st.H->(∀ call,mh call fn (e,st)=(bA call fn.results st.tm st.aM m st.H).bind λ q=>some (q.1,st.up,q.2)) ->
  ∃ e up' H',oV AP f vs up H e up' H'/\Q e up' H':=by
  intro m h1 he;obtain ⟨e',H',hq,n1,hy⟩:=h1.run;refine ⟨e',st.up,H',⟨max n0 n1+1,λ n hn=>?_⟩,hq⟩;obtain ⟨n,rfl⟩:∃ j,n=j+1:=⟨n-1,by omega⟩
  have:=hx n n (by omega) (by omega);simp only [rS] at this;rw [aA.sP hmu];simp only [AY,hf,qj,exec,this,he,hy n (by omega)]
 cases e with
 | normal=>exact key none h1 λ _=>rfl
 | ret=>exact key none h1 λ _=>rfl
 | panic c=>exact key (some c) h1 λ _=>rfl
 | exit _=>exact False.elim h1
 | goto _=>exact False.elim h1
theorem q3b {AP:aA} {f:Nat} {fn:cm} (hf:AP.func f=some fn) {vs:List AV} {H:AHeap} {Q:bg->AHeap->Prop}
 (h:WP AP ⟨none,f⟩ fn.body ⟨gg 0 vs .nil,[],none,H⟩ (FIN AP fn.results λ e up H=>up=none/\Q e H)):∃ e H',kB AP f vs H e H'/\Q e H':=by
 obtain ⟨e,up',H',h1,rfl,h2⟩:=qz5 hf h;exact ⟨e,H',h1,h2⟩
def RE (l:Nat) (Q:bg->AHeap->Prop):bP:=λ e st=>st.aM=[]/\match e with
 | .panic c=>Q (.panic c) st.H
 | e=>bn av (bJ st.H l (cond (so e) .ready .done) (gV e)) λ H=>Q (.ret (.bool (so e))) H
def RB (W:St->bP->Prop) (l:Nat) (Q:bg->AHeap->Prop):bP:=λ e st=>match e with
 | .normal=>bn av (beginRound st.H l) λ H=>W { st with H:=H } (RE l Q)
 | _=>False
theorem qts {AP:aA} {l:Nat} {H:AHeap} {s:i7} {p:Option eI} {f k:Nat} {tm:T AV} {d:Nat} {fn:cm} {lp:db} {vs:List AV} {tm1:T AV} {Q:bg->AHeap->Prop}
 (hl:H.get l=some (.loop s p f k tm d)) (hf:AP.func f=some fn) (hk:nth fn.loops k=some lp) (hb:Dy tm lp.params vs=some tm1)
 (h:WP AP ⟨some l,f⟩ lp.assign ⟨tm1,[],none,H⟩ (RB (WP AP ⟨some l,f⟩ lp.body) l Q)):∃ e H',nN AP l vs H e H'/\Q e H':=by
 obtain ⟨hmu,hf⟩:=aA.rG hf;obtain ⟨e,st,h1,n0,hx⟩:=h.run;cases e with
 | normal =>
  obtain ⟨H2,hbr,h1⟩:=bn.elim (m:=av) h1;obtain ⟨e,st2,⟨hd,h2⟩,n1,hy⟩:=WP.run h1;have key:∀ e' H',Q e' H'->AW l (e,st2)=some (e',H') -> ∃ e H',nN AP l vs H e H'/\Q e H':=by
   intro e' H' hq he;refine ⟨e',H',⟨max n0 n1+1,λ n j hn hj=>?_⟩,hq⟩;obtain ⟨j,rfl⟩:∃ i,j=i+1:=⟨j-1,by omega⟩
   have hx':=hx n j (by omega) (by omega);have hy':=hy n j (by omega) (by omega);simp only [rS] at hx' hy';simp only [rounds,roundOf,hl,hf,qj,hk,hb,exec,hx',hbr,hy',hd,roundOf.noDefs,xf,he]
  cases e with
  | panic c=>exact key _ _ h2 rfl
  | normal=>obtain ⟨H3,h3,h2⟩:=bn.elim (m:=av) h2;exact key _ _ h2 (by simp [AW,h3])
  | exit id=>obtain ⟨H3,h3,h2⟩:=bn.elim (m:=av) h2;exact key _ _ h2 (by simp [AW,h3])
  | goto id=>obtain ⟨H3,h3,h2⟩:=bn.elim (m:=av) h2;exact key _ _ h2 (by simp [AW,h3])
  | ret=>obtain ⟨H3,h3,h2⟩:=bn.elim (m:=av) h2;exact key _ _ h2 (by simp [AW,h3])
 | exit _=>exact False.elim h1
 | goto _=>exact False.elim h1
 | ret=>exact False.elim h1
 | panic _=>exact False.elim h1
theorem kB.ub {AP:aA} {f:Nat} {vs:List AV} {H:AHeap} {e:bg} {H':AHeap} (h:kB AP f vs H e H'):∃ n,AP.call n f vs none H=some (e,none,H'):=by
 obtain ⟨n,h⟩:=h;exact ⟨n,h n (qf n)⟩
end
end Go.Am
namespace Go.Am
abbrev Env:=List (Nat × AV)
def ie (dst:Option Nat) (v:AV) (E:Env):Env:=match dst with
 | some d=>(d,v)::E
 | none=>E
def BI {α:Type} (m:Bool) (o:Option α) (K:Bool -> α->Prop):Prop:=match o with
 | some a=>K av a
 | none=>False
def og {α β:Type} (m:Bool) (o:Option (α × β)) (K:Bool -> α -> β->Prop):Prop:=match o with
 | some a=>K av a.1 a.2
 | none=>False
def IG (m:Bool) (q:Bool) (A B:Bool->Prop):Prop:=match q with
 | true=>A av
 | false=>B av
def LK {α:Type} (m:Bool) (o:Option α) (K:Bool -> α->Prop):Prop:=match o with
 | some a=>K m a
 | none=>False
theorem AR {α:Type} (a:α) (K:Bool -> α->Prop):LK true (some a) K=K true a:=propext ji
@[congr] theorem It {α:Type} {m m':Bool} {o o':Option α} {K:Bool -> α->Prop} (hm:m=m') (h:o=o'):LK m o K=LK m' o' K:=by subst hm;subst h;rfl
@[congr] theorem IL {α:Type} {m m':Bool} {o o':Option α} {K:Bool -> α->Prop} (hm:m=m') (h:o=o'):BI m o K=BI m' o' K:=by subst hm;subst h;rfl
@[congr] theorem Gy {α β:Type} {m m':Bool} {o o':Option (α × β)} {K:Bool -> α -> β->Prop} (hm:m=m') (h:o=o'):og m o K=og m' o' K:=by subst hm;subst h;rfl
@[congr] theorem IA {m m' q q':Bool} {A B:Bool->Prop} (hm:m=m') (h:q=q'):IG m q A B=IG m' q' A B:=by subst hm;subst h;rfl
theorem BI.intro {α:Type} {m:Bool} {o:Option α} {K:Bool -> α->Prop} {a:α} (h:o=some a) (hk:K av a):BI m o K:=by subst h;exact hk
theorem og.intro {α β:Type} {m:Bool} {o:Option (α × β)} {K:Bool -> α -> β->Prop} {a:α} {b:β} (h:o=some (a,b)) (hk:K av a b):og m o K:=by subst h;exact hk
theorem IG.cases {m:Bool} {q:Bool} {A B:Bool->Prop} (h1:q=true->A av) (h2:q=false->B av):IG m q A B:=by
 cases q with
 | true=>exact h1 rfl
 | false=>exact h2 rfl
noncomputable section
variable (AP:aA)
def CA (m:Bool) (f:eR) (vs:List AV) (H:AHeap) (K:Bool->AV->AHeap->Prop) (E:aw->AHeap->Prop):Prop:=iL AP m f vs H (K av) E
@[congr] theorem GZ {AP:aA} {m m':Bool} {f f':eR} {vs vs':List AV} {H:AHeap} {K:Bool->AV->AHeap->Prop} {E:aw->AHeap->Prop} (hm:m=m') (hf:f=f') (h:vs=vs'):CA AP m f vs H K E=CA AP m' f' vs' H K E:=by subst hm;subst h;subst hf;rfl
theorem CA.ret {AP:aA} {m:Bool} {f:Nat} {vs:List AV} {H:AHeap} {K:Bool->AV->AHeap->Prop} {E:aw->AHeap->Prop} {v:AV} {H':AHeap} (h:kB AP f vs H (.ret v) H') (hk:K av v H'):CA AP m (.func f) vs H K E :=
 ⟨_,_,h,hk⟩
theorem CA.panic {AP:aA} {m:Bool} {f:Nat} {vs:List AV} {H:AHeap} {K:Bool->AV->AHeap->Prop} {E:aw->AHeap->Prop} {c:aw} {H':AHeap} (h:kB AP f vs H (.panic c) H') (hk:E c H'):CA AP m (.func f) vs H K E :=
 ⟨_,_,h,hk⟩
def VI (m:Bool) (vs:List AV) (K:Bool->eR->List AV->Prop):Prop:=Du m vs (K av)
@[congr] theorem Iz {m m':Bool} {vs vs':List AV} {K:Bool->eR->List AV->Prop} (hm:m=m') (h:vs=vs'):VI m vs K=VI m' vs' K:=by subst hm;subst h;rfl
def IV (m:Bool) (name:String) (vs:List AV) (K:Bool->eR->List AV->Prop):Prop:=Ee AP m name vs (K av)
@[congr] theorem Je {AP:aA} {m m':Bool} {name:String} {vs vs':List AV} {K:Bool->eR->List AV->Prop} (hm:m=m') (h:vs=vs'):IV AP m name vs K=IV AP m' name vs' K:=by subst hm;subst h;rfl
def RC (m:Bool) (ctx:Ctx) (up:Option aw) (K:Bool->AV->Option aw->Prop):Prop:=pw m ctx up (K av)
@[congr] theorem HH {m m':Bool} {ctx:Ctx} {up up':Option aw} {K:Bool->AV->Option aw->Prop} (hm:m=m') (h:up=up'):RC m ctx up K=RC m' ctx up' K:=by subst hm;subst h;rfl
def DF (m:Bool) (ctx:Ctx) (vs:List AV) (aM:List aD) (K:Bool->List aD->Prop):Prop:=uV m ctx vs aM (K av)
@[congr] theorem Hk {m m':Bool} {ctx:Ctx} {vs vs':List AV} {aM:List aD} {K:Bool->List aD->Prop} (hm:m=m') (h:vs=vs'):DF m ctx vs aM K=DF m' ctx vs' aM K:=by subst hm;subst h;rfl
end
end Go.Am
namespace Go.Am
theorem qzo (n:Int):ak .i64 n=(n+9223372036854775808) % 18446744073709551616-9223372036854775808:=by
 simp [ak,IntKind.wrap,IntKind.bits,IntKind.signed];split<;>omega
theorem q7x (n:Int):ak .u64 n=n % 18446744073709551616:=by simp [ak,IntKind.wrap,IntKind.bits,IntKind.signed]
theorem yX (n:Int):ak .u8 n=n % 256:=by simp [ak,IntKind.wrap,IntKind.bits,IntKind.signed]
theorem xm {n:Int} (h:-9223372036854775808<=n) (h':n<9223372036854775808):ak .i64 n=n:=by rw [qzo];omega
section
variable (k:IntKind) (a b:Int)
theorem Ft (v:AV):Op.move [v]=some v:=rfl
theorem Ej (q:Bool) (a b:AV):Op.pick [.bool q,a,b]=some (cond q a b):=rfl
theorem IY:Op.bin .add [.int k a,.int k b]=some (.int k (ak k (a+b))):=by cases k<;>rfl
theorem Hu:Op.bin .sub [.int k a,.int k b]=some (.int k (ak k (a-b))):=by cases k<;>rfl
theorem Jp:Op.bin .mul [.int k a,.int k b]=some (.int k (ak k (a*b))):=by cases k<;>rfl
theorem pk (hb:b ≠ 0):Op.bin .quo [.int k a,.int k b]=some (.int k (ak k (a.tdiv b))):=by
 have:pR b 0=false:=by rw [BT];simpa using hb
 cases k<;>simp [Op.bin,jX,cI,pV,iS,dV,this]
theorem CG (hb:b ≠ 0):Op.bin .rem [.int k a,.int k b]=some (.int k (a.tmod b)):=by
 have:pR b 0=false:=by rw [BT];simpa using hb
 cases k<;>simp [Op.bin,jX,cI,pV,iS,dV,this]
theorem Js:Op.bin .eql [.int k a,.int k b]=some (.bool (decide (a=b))):=by
 have:pR a b=decide (a=b):=by rw [BT];rfl
 cases k<;>simp [Op.bin,jX,cI,pV,iS,dV,this]
theorem JI:Op.bin .neq [.int k a,.int k b]=some (.bool (decide (a ≠ b))):=by
 have:pR a b=decide (a=b):=by rw [BT];rfl
 cases k<;>simp [Op.bin,jX,cI,pV,iS,dV,this]
theorem IX:Op.bin .lss [.int k a,.int k b]=some (.bool (decide (a<b))):=by
 cases k<;>simp [Op.bin,jX,cI,pV,iS,dV,GD]
theorem GY:Op.bin .leq [.int k a,.int k b]=some (.bool (decide (a<=b))):=by
 cases k<;>simp [Op.bin,jX,cI,pV,iS,dV,BM]
theorem HD:Op.bin .gtr [.int k a,.int k b]=some (.bool (decide (b<a))):=by
 cases k<;>simp [Op.bin,jX,cI,pV,iS,dV,GD]
theorem G6:Op.bin .geq [.int k a,.int k b]=some (.bool (decide (b<=a))):=by
 cases k<;>simp [Op.bin,jX,cI,pV,iS,dV,BM]
theorem DB (k':IntKind):Op.wrap k [.int k' a]=some (.int k (ak k a)):=rfl
theorem HE (q:Bool):Op.un .not [.bool q]=some (.bool (!q)):=rfl
theorem q5v (a b:List UInt8):sT a b=decide (a=b):=by
 by_cases h:a=b
 ·subst h;simp [FJ]
 ·simp [FJ,h]
theorem DN (a b:List UInt8):Op.bin .eql [.str a,.str b]=some (.bool (decide (a=b))):=by
 simp only [Op.bin,jX,mI,q5v]
theorem Dv (a b:List UInt8):Op.bin .neq [.str a,.str b]=some (.bool (decide (a ≠ b))):=by
 simp [Op.bin,jX,mI,q5v]
theorem xW (s:List UInt8):Op.fP [.str s]=some (.int .i64 s.length):=by simp [Op.fP,de,Cq]
theorem q6p (i:Nat) (l:List AV):Op.extract i [.tuple l]=l[i]?:=by simp [Op.extract,jO]
theorem xR (f n:Nat) (l:List AV):Op.cA f n l=some (.fn (.func f) (l.take n) (l.drop n)):=rfl
theorem q6q (t:Nat) (v:AV):Op.eN t [v]=some (.iface t v):=rfl
theorem q0u (off b o:Nat):Op.fieldAddr off [.ptr b o]=some (.ptr b (o+off)):=rfl
theorem vA (off:Nat) (l:List AV):Op.field off none [.agg l]=l[off]?:=by simp [Op.field,partAt,jO]
theorem Fx (q:Bool):cB true (some (.bool q))=some q:=by cases q<;>rfl
theorem AM (q:Bool):cB false (some (.bool q))=some (!q):=by cases q<;>rfl
theorem Cs (b:Bool):cB b (some .undef)=some false:=rfl
end
structure Fr (W:Nat->Prop) (H H':AHeap):Prop where
 next:H.next<=H'.next
 ah:∀ b,b<H.next -> ¬ W b->H'.get b=H.get b
def Em:Nat->Prop:=λ _=>False
def On (b:Nat):Nat->Prop:=λ x=>x=b
theorem Fr.refl {W:Nat->Prop} (H:AHeap):Fr W H H:=⟨qf _,λ _ _ _=>rfl⟩
theorem Fr.trans {W W':Nat->Prop} {H H1 H2:AHeap} (a:Fr W H H1) (b:Fr W' H1 H2) (h:∀ x,W' x->W x\/H.next<=x):Fr W H H2 :=
 ⟨xj a.next b.next,λ x hx hw=>by
  rw [b.ah x (qk hx a.next) (λ hw'=>(h x hw').elim hw (λ q=>by omega)),a.ah x hx hw]⟩
theorem Fr.em {W:Nat->Prop} {H H1 H2:AHeap} (a:Fr W H H1) (b:Fr Em H1 H2):Fr W H H2:=a.trans b λ _ h=>h.elim
theorem Fr.mono {W W':Nat->Prop} {H H':AHeap} (a:Fr W H H') (h:∀ x,x<H.next->W x->W' x):Fr W' H H':=⟨a.next,λ x hx hw=>a.ah x hx λ q=>hw (h x hx q)⟩
theorem xd (H:AHeap) (o:bm):(H.alloc o).next=H.next+1:=rfl
theorem C8 (H:AHeap) (b:Nat) (o:bm):(H.set b o).next=H.next:=rfl
theorem BG (H:AHeap) (b:Nat):(H.kill b).next=H.next:=rfl
theorem Fr.alloc {W:Nat->Prop} {H H1:AHeap} (a:Fr W H H1) (o:bm):Fr W H (H1.alloc o) :=
 ⟨FI a.next,λ x hx hw=>by rw [AHeap.bc,qg (by have:=a.next;omega),a.ah x hx hw]⟩
theorem Fr.set {W:Nat->Prop} {H H1:AHeap} (a:Fr W H H1) {b:Nat} (h:W b\/H.next<=b) (o:bm):Fr W H (H1.set b o) :=
 ⟨a.next,λ x hx hw=>by rw [AHeap.aE,qg (by rintro rfl;exact h.elim hw (λ q=>by omega)),a.ah x hx hw]⟩
theorem Fr.kill {W:Nat->Prop} {H H1:AHeap} (a:Fr W H H1) {b:Nat} (h:W b\/H.next<=b):Fr W H (H1.kill b) :=
 ⟨a.next,λ x hx hw=>by rw [AHeap.mi,qg (by rintro rfl;exact h.elim hw (λ q=>by omega)),a.ah x hx hw]⟩
theorem qz {H:AHeap} {b:Nat} {c:List AV} {e:Nat} {fz:Nat × Nat} {ow:Bool} (h:H.get b=some (.row c e fz ow)):H.bK b=some c:=by simp [AHeap.bK,h]
theorem OC {H:AHeap} {b m s:Nat} {c:List AV} {e:Nat} {fz:Nat × Nat} (h:H.get b=some (.grown m s c e fz)):H.bK b=some c:=by simp [AHeap.bK,h]
theorem q3e {H H':AHeap} {b:Nat} (h:H'.get b=H.get b):H'.bK b=H.bK b:=by simp [AHeap.bK,h]
theorem Fr.cells {W:Nat->Prop} {H H':AHeap} (a:Fr W H H') {b:Nat} (hb:b<H.next) (hw:¬ W b):H'.bK b=H.bK b:=q3e (a.ah b hb hw)
theorem xp {H:AHeap} {b:Nat} {c:List AV} (h:H.bK b=some c) (o:Nat):Op.ae [.ptr b o] H=c[o]?:=by simp [Op.ae,AHeap.ae,h,jO]
theorem Ac {H:AHeap} {b:Nat} {c:List AV} (h:H.bK b=some c) {o n:Nat} (hn:o+n<=c.length):Op.aG n [.ptr b o] H=some (.agg ((c.drop o).take n)):=by
 simp only [Op.aG,AHeap.aG,h,qj,qP];rw [ql (by omega)];rfl
def Sl (H:AHeap) (size:Nat) (v:AV) (n:Nat) (cells:List AV):Prop :=
 cells.length=n*size/\match v with
 | .nils=>n=0
 | .slice b o m c=>m=n/\n<=c/\(n=0\/b<H.next /\ ∃ all,H.bK b=some all/\dK all o (n*size)=some cells)
 | .gslice b i m s alt k=>k=n/\s=size/\i+n<=m/\(n=0\/b<H.next /\ ∃ all,H.bK b=some all/\dK all (i*size) (n*size)=some cells)
 | .eslice b=>n=0/\b<H.next
 | _=>False
def aF:AV->Nat
 | .slice b _ _ _=>b
 | .gslice b _ _ _ _ _=>b
 | .eslice b=>b
 | _=>0
def bI (size:Nat):AV->Nat->Nat
 | .slice _ o _ _,j=>o+j*size
 | .gslice _ i _ s _ _,j=>i*s+j*s
 | _,_=>0
theorem Sl.dD {H:AHeap} {size:Nat} {v:AV} {n:Nat} {cells:List AV} (h:Sl H size v n cells):dD v=some n:=by
 obtain ⟨_,h⟩:=h;split at h
 ·subst h;rfl
 ·obtain ⟨rfl,_⟩:=h;rfl
 ·obtain ⟨rfl,_⟩:=h;rfl
 ·obtain ⟨rfl,_⟩:=h;rfl
 ·exact h.elim
theorem Sl.len {H:AHeap} {size:Nat} {v:AV} {n:Nat} {cells:List AV} (h:Sl H size v n cells):Op.dC [v]=some (.int .i64 n):=by
 obtain ⟨_,h⟩:=h;split at h
 ·subst h;rfl
 ·obtain ⟨rfl,_⟩:=h;rfl
 ·obtain ⟨rfl,_⟩:=h;rfl
 ·obtain ⟨rfl,_⟩:=h;rfl
 ·exact h.elim
theorem KW {z:Int} {i n:Nat} (hz:z=i) (h:i<n):within z n=some i:=by
 subst hz;show cond (Nat.blt i n) (some i) none=some i;have:Nat.blt i n=true:=by simpa [we] using h
 rw [this];rfl
theorem EH {i j:Nat} (h:i ≠ j):Nat.beq i j=false:=by
 cases q:Nat.beq i j with
 | false=>rfl
 | true=>exact (h (yk q)).elim
theorem Ck {i n:Nat} (h:i<n):Nat.blt i n=true:=by simpa [we] using h
theorem k9 {i n:Nat} (h:i<=n):Nat.ble i n=true:=by simpa using h
theorem Sl.idx {H:AHeap} {size:Nat} {v:AV} {n:Nat} {cells:List AV} (h:Sl H size v n cells) {i:Nat} (hi:i<n) {z:Int} (hz:z=i) (k:IntKind) :
 Op.aQ size [v,.int k z]=some (.ptr (aF v) (bI size v i)):=by
 obtain ⟨hl,h⟩:=h;split at h
 ·omega
 ·rename_i b o m c;obtain ⟨rfl,hc,h⟩:=h;have h1:=Ck hi;simp [Op.aQ,Am.dD,KW hz hi,elemAt,h1,aF,bI]
 ·rename_i b j m s alt k;obtain ⟨rfl,rfl,hm,h⟩:=h;have h1:=Ck hi;have h2:=Ck (show j+i<m by omega);simp [Op.aQ,Am.dD,KW hz hi,elemAt,h1,h2,aF,bI]
 ·omega
 ·exact h.elim
theorem Lf {α:Type} {l r:List α} {o n:Nat} (h:dK l o n=some r):n<=l.length-o/\r=(l.drop o).take n:=by
 rw [qP] at h;split at h
 ·rename_i hn;injection h with h;exact ⟨hn,h.symm⟩
 ·cases h
theorem Sl.at {H:AHeap} {size:Nat} {v:AV} {n:Nat} {cells:List AV} (hs0:0<size) (h:Sl H size v n cells) {i:Nat} (hi:i<n) :
 aF v<H.next /\ ∃ all,H.bK (aF v)=some all/\bI size v i+size<=all.length /\ ∀ j,j<size->all[bI size v i+j]? = cells[i*size+j]?:=by
 obtain ⟨hl,h⟩:=h;have hps:0<n*size:=Nat.mul_pos (by omega) hs0;have hsz:i*size+size<=n*size:=by rw [<-yz];exact jl _ hi
 split at h
 ·omega
 ·rename_i b o m c;obtain ⟨rfl,hc,h⟩:=h;rcases h with h|⟨hb,all,h1,h2⟩
  ·omega
  obtain ⟨h3,rfl⟩:=Lf h2;refine ⟨hb,all,h1,?_,λ j hj=>?_⟩
  ·simp only [bI];simp at hl;omega
  ·simp only [bI];rw [kc,ql (by omega),kq];congr 1;omega
 ·rename_i b q m s alt k;obtain ⟨rfl,rfl,hm,h⟩:=h;rcases h with h|⟨hb,all,h1,h2⟩
  ·omega
  obtain ⟨h3,rfl⟩:=Lf h2;refine ⟨hb,all,h1,?_,λ j hj=>?_⟩
  ·simp only [bI];simp at hl;omega
  ·simp only [bI];rw [kc,ql (by omega),kq];congr 1;omega
 ·omega
 ·exact h.elim
theorem Sl.fr {H H':AHeap} {W:Nat->Prop} {size:Nat} {v:AV} {n:Nat} {cells:List AV} (h:Sl H size v n cells) (f:Fr W H H') (hw:n=0 \/ ¬ W (aF v)):Sl H' size v n cells:=by
 obtain ⟨hl,h⟩:=h;refine ⟨hl,?_⟩;split at h
 ·exact h
 ·obtain ⟨h1,h2,h3⟩:=h;refine ⟨h1,h2,?_⟩;rcases h3 with h3|⟨hb,all,h3,h4⟩
  ·exact .inl h3
  ·rcases hw with hw|hw
   ·exact .inl hw
   ·exact .inr ⟨qk hb f.next,all,by rw [f.cells hb hw];exact h3,h4⟩
 ·obtain ⟨h1,h2,h0,h3⟩:=h;refine ⟨h1,h2,h0,?_⟩;rcases h3 with h3|⟨hb,all,h3,h4⟩
  ·exact .inl h3
  ·rcases hw with hw|hw
   ·exact .inl hw
   ·exact .inr ⟨qk hb f.next,all,by rw [f.cells hb hw];exact h3,h4⟩
 ·exact ⟨h.1,qk h.2 f.next⟩
 ·exact h.elim
theorem Sl.em {H H':AHeap} {size:Nat} {v:AV} {n:Nat} {cells:List AV} (h:Sl H size v n cells) (f:Fr Em H H'):Sl H' size v n cells:=h.fr f (.inr id)
theorem Sl.first {H:AHeap} {size:Nat} {v:AV} {n:Nat} {cells:List AV} (h:Sl H size v n cells):firstCells H size n v=some cells:=by
 obtain ⟨hl,h⟩:=h;split at h
 ·subst h;simp at hl;subst hl;rfl
 ·rename_i b o m c;obtain ⟨rfl,hc,h⟩:=h;rcases h with rfl|⟨hb,all,h1,h2⟩
  ·simp at hl;subst hl;rfl
  ·by_cases hn:m=0
   ·subst hn;simp at hl;subst hl;rfl
   ·have:Nat.beq m 0=false:=EH hn;simp only [firstCells,this,za,AHeap.aG,h1,qj,h2]
 ·rename_i b i m s alt k;obtain ⟨rfl,rfl,hm,h⟩:=h;rcases h with rfl|⟨hb,all,h1,h2⟩
  ·simp at hl;subst hl;rfl
  ·by_cases hn:k=0
   ·subst hn;simp at hl;subst hl;rfl
   ·have:Nat.beq k 0=false:=EH hn;have h3:=Ck (show i<m by omega);simp [firstCells,this,h3,AHeap.aG,h1,h2]
 ·obtain ⟨rfl,_⟩:=h;simp at hl;subst hl;rfl
 ·exact h.elim
def du {α:Type} (enc:α->List AV) (size:Nat) (H:AHeap) (v:AV) (xs:List α):Prop:=Sl H size v xs.length (xs.flatMap enc)
section
variable {α:Type} {enc:α->List AV} {size:Nat} {H H':AHeap} {v:AV} {xs:List α}
theorem du.len (h:du enc size H v xs):Op.dC [v]=some (.int .i64 xs.length):=Sl.len h
theorem du.fr {W:Nat->Prop} (h:du enc size H v xs) (f:Fr W H H') (hw:¬ W (aF v)):du enc size H' v xs:=Sl.fr h f (.inr hw)
theorem du.em (h:du enc size H v xs) (f:Fr Em H H'):du enc size H' v xs:=Sl.em h f
theorem Fc (hs:∀ x,(enc x).length=size):∀ (xs:List α) {i:Nat} {x:α},xs[i]? = some x -> ∀ {j:Nat},j<size->(xs.flatMap enc)[i*size+j]? = (enc x)[j]?
 | [],i,x,h,j,hj=>by simp at h
 | y::ys,0,x,h,j,hj=>by
  simp at h;subst h;rw [zx,j7 (by rw [hs];omega)];simp
 | y::ys,i+1,x,h,j,hj=>by
  simp only [zk] at h;rw [zx,jg (by rw [hs,yz];omega),hs,<-Fc hs ys h hj];congr 1;rw [yz];omega
theorem Bz {i:Nat} {x:α} (h:xs[i]? = some x):i<xs.length:=(qe.1 h).1
theorem du.idx (h:du enc size H v xs) {i:Nat} {x:α} (hx:xs[i]? = some x) {z:Int} (hz:z=i) (k:IntKind):Op.aQ size [v,.int k z]=some (.ptr (aF v) (bI size v i)) :=
 Sl.idx h (Bz hx) hz k
theorem du.ae (hs:∀ x,(enc x).length=size) (h:du enc size H v xs) {i:Nat} {x:α} (hx:xs[i]? = some x) {j:Nat} (hj:j<size):Op.ae [.ptr (aF v) (bI size v i+j)] H=(enc x)[j]?:=by
 obtain ⟨_,all,h1,h2,h3⟩:=Sl.at (by omega) h (Bz hx);rw [xp h1,h3 j hj,Fc hs xs hx hj]
theorem du.jW (hs:∀ x,(enc x).length=size) (h:du enc size H v xs) {i:Nat} {x:α} (hx:xs[i]? = some x) (hj:0<size):Op.ae [.ptr (aF v) (bI size v i)] H=(enc x)[0]?:=h.ae hs hx hj
theorem du.aG (hs:∀ x,(enc x).length=size) (hs0:0<size) (h:du enc size H v xs) {i:Nat} {x:α} (hx:xs[i]? = some x):Op.aG size [.ptr (aF v) (bI size v i)] H=some (.agg (enc x)):=by
 obtain ⟨_,all,h1,h2,h3⟩:=Sl.at hs0 h (Bz hx);rw [Ac h1 h2];congr 2;refine jp λ j=>?_
 by_cases hj:j<size
 ·rw [kc,ql hj,kq,h3 j hj,Fc hs xs hx hj]
 ·rw [xz (by simp;omega),xz (by rw [hs];omega)]
end
def Own (H:AHeap) (e size:Nat) (v:AV) (n:Nat) (cells:List AV):Prop :=
 cells.length=n*size/\(n=0/\(v=.nils \/ ∃ b,v=.slice b 0 0 0/\b<H.next) \/ ∃ b,v=.gslice b 0 n size 0 n/\b<H.next/\H.get b=some (.grown n size cells e (0,0)))
def aI (v:AV):Nat->Prop:=λ x=>v ≠ .nils/\x=aF v
theorem Own.nil (H:AHeap) (e size:Nat):Own H e size .nils 0 []:=⟨by simp,.inl ⟨rfl,.inl rfl⟩⟩
theorem Own.sl {H:AHeap} {e size:Nat} {v:AV} {n:Nat} {cells:List AV} (h:Own H e size v n cells):Sl H size v n cells:=by
 obtain ⟨hl,⟨rfl,rfl|⟨b,rfl,hb⟩⟩|⟨b,rfl,h1,h2⟩⟩:=h
 ·exact ⟨hl,rfl⟩
 ·exact ⟨hl,rfl,qf _,.inl rfl⟩
 ·refine ⟨hl,rfl,rfl,by omega,.inr ⟨h1,cells,OC h2,?_⟩⟩;rw [qP,ql (by simp [hl])];simp [<-hl]
theorem Own.fr {H H':AHeap} {W:Nat->Prop} {e size:Nat} {v:AV} {n:Nat} {cells:List AV} (h:Own H e size v n cells) (f:Fr W H H') (hw:∀ x,aI v x -> ¬ W x):Own H' e size v n cells:=by
 obtain ⟨hl,⟨h0,h|⟨b,rfl,hb⟩⟩|⟨b,rfl,h1,h2⟩⟩:=h
 ·exact ⟨hl,.inl ⟨h0,.inl h⟩⟩
 ·exact ⟨hl,.inl ⟨h0,.inr ⟨b,rfl,qk hb f.next⟩⟩⟩
 ·exact ⟨hl,.inr ⟨b,rfl,qk h1 f.next,by rw [f.ah b h1 (hw b ⟨by simp,rfl⟩)];exact h2⟩⟩
theorem Own.em {H H':AHeap} {e size:Nat} {v:AV} {n:Nat} {cells:List AV} (h:Own H e size v n cells) (f:Fr Em H H'):Own H' e size v n cells:=h.fr f λ _ _ h=>h
theorem Own.lt {H:AHeap} {e size:Nat} {v:AV} {n:Nat} {cells:List AV} (h:Own H e size v n cells):∀ x,aI v x->x<H.next:=by
 rintro x ⟨h1,rfl⟩;obtain ⟨hl,⟨h0,h|⟨b,rfl,hb⟩⟩|⟨b,rfl,h1,h2⟩⟩:=h
 ·exact (h1 h).elim
 ·exact hb
 ·exact h1
theorem Sl.one {H:AHeap} {size:Nat} {v:AV} {n:Nat} {cells:List AV} (h:Sl H size v n cells):aT v=true:=by
 obtain ⟨_,h⟩:=h;cases v<;>first|rfl|exact h.elim
theorem KI {n bytes:Nat} (h1:n*bytes<=140737488355328) (h2:n<=140737488355328):fits n bytes=true:=by
 simp [fits,h1,h2]
theorem qus {H:AHeap} {e size bytes:Nat} {v:AV} {n:Nat} {cells:List AV} (h:Own H e size v n cells) {x:AV} {k:Nat} {new:List AV} (hx:Sl H size x k new) (hnew:aO new=true) (hs:0<size)
 (hf:(n+k)*bytes<=140737488355328) (hf':n+k<=140737488355328) {K:Bool->AV->AHeap->Prop} {m:Bool}
 (hk:∀ v' H',Own H' e size v' (n+k) (cells++new)->Fr (aI v) H H'->(∀ b,aI v' b->aI v b\/H.next<=b)->K av v' H'):og m (Op.append e size bytes [v,x] H) K:=by
 have hfit:=KI hf hf';have hlen:new.length=k*size:=hx.1;have hs':=Ck hs;have e1:∀ n,Nat.beq n n=true:=λ n=>by simp
 simp only [Op.append,hx.dD,hx.first,qj,hnew,xf];obtain ⟨hl,⟨rfl,rfl|⟨b,rfl,hb⟩⟩|⟨b,rfl,h1,h2⟩⟩:=h
 ·simp only [yl,jm] at hl;subst hl
  by_cases hk0:k=0
  ·subst hk0;simp at hlen;subst hlen;exact hk .nils H (Own.nil H e size) (Fr.refl H) λ b hb=>.inl hb
  ·have h0:Nat.beq k 0=false:=EH hk0;simp only [bQ,h0,za,jy] at hfit ⊢;simp only [hfit,hs',zu,xf,cj,og];refine hk _ _ ⟨by simpa using hlen,.inr ⟨H.next,by simp,by rw [xd];omega,?_⟩⟩ ((Fr.refl H).alloc _) λ b hb=>.inr (by rw [hb.2];exact qf _);rw [AHeap.bc,ql rfl];simp
 ·simp only [yl,jm] at hl;subst hl
  by_cases hk0:k=0
  ·subst hk0;simp at hlen;subst hlen;simp only [bQ,qh,k9 (qf 0),xf,e1,og];exact hk _ H ⟨by simp,.inl ⟨rfl,.inr ⟨b,rfl,hb⟩⟩⟩ (Fr.refl H) λ b hb=>.inl hb
  ·have h0:Nat.beq k 0=false:=EH hk0;have h3:Nat.ble k 0=false:=by cases hq:Nat.ble k 0 with|false=>rfl|true=>rw [yr] at hq;omega
   have h4:firstCells H size 0 (.slice b 0 0 0)=some []:=rfl;simp only [bQ,jy,h3,za] at hfit ⊢;simp only [hfit,k9 (xx k),hs',zu,xf,h4,qj,lG,zn,cj,og];refine hk _ _ ⟨by simpa using hlen,.inr ⟨H.next,by simp,by rw [xd];omega,?_⟩⟩ ((Fr.refl H).alloc _) λ b hb=>.inr (by rw [hb.2];exact qf _);rw [AHeap.bc,ql rfl];simp
 ·by_cases hk0:k=0
  ·subst hk0;simp at hlen;subst hlen;simp only [bQ,Nat.beq,xf,jy,k9 (qf n),og];refine hk _ _ ⟨by simpa using hl,.inr ⟨b,rfl,h1,by simpa using h2⟩⟩ (Fr.refl H) λ b hb=>.inl hb
  ·have h0:Nat.beq k 0=false:=EH hk0;have h3:Nat.ble (0+n+k) n=false:=by cases hq:Nat.ble (0+n+k) n with|false=>rfl|true=>rw [yr] at hq;omega
   simp only [bQ,h0,za,e1,jy,k9 (qf n),hs',zu,xf] at h3 ⊢;simp only [h3,za,hfit,xf,h2,e1,zu,Nat.beq,k9 (xx (n*size)),cj,og];refine hk _ _ ⟨by simp [hl,hlen,j4],.inr ⟨H.next,by simp [BG],by rw [xd,BG];omega,?_⟩⟩ (((Fr.refl H).kill (.inl ⟨by simp,rfl⟩)).alloc _) λ b hb=>.inr (by rw [hb.2];exact qf _);rw [AHeap.bc,BG,ql rfl,lG]
theorem Qd (e n:Nat) (zero:List AV) (v:AV) (hz:zero.length=n) (hv:v.cells.length=n):Op.buildSlice e 1 zero [(0,n)] [v]=some (.row v.cells e (0,0) true,Op.sliceTo 1 1):=by
 have e1:∀ n,Nat.beq n n=true:=λ n=>by simp
 simp only [Op.buildSlice,dG,lG,xt,fL,Cq,hv,e1,xf,Ae,jy,hz,ql (qf n),BW,zn,qj];rw [jh (by omega)];simp
theorem xO {H:AHeap} {size e:Nat} {cells:List AV} (hc:cells.length=size):Sl (H.alloc (.row cells e (0,0) true)) size (Op.sliceTo 1 1 H.next) 1 cells:=by
 refine ⟨by simp [hc],rfl,qf 1,.inr ⟨by rw [xd];omega,cells,qz (by rw [AHeap.bc,ql rfl]),?_⟩⟩;rw [qP,ql (by simp [hc])];simp [<-hc]
theorem Aw {H:AHeap} {e size bytes:Nat} {v:AV} {n:Nat} {cells:List AV} (h:Own H e size v n cells) {zero:List AV} {x:AV} (hz:zero.length=size) (hx:x.cells.length=size) (hnew:aO x.cells=true) (hs:0<size)
 (hf:(n+1)*bytes<=140737488355328) (hf':n+1<=140737488355328) {K:bm->(Nat->AV)->Bool->AV->AHeap->Prop} {m:Bool}
 (hk:∀ v' H',Own H' e size v' (n+1) (cells++x.cells)->Fr (aI v) H H'->(∀ b,aI v' b->aI v b\/H.next<=b)->K (.row x.cells e (0,0) true) (Op.sliceTo 1 1) av v' H') :
 og m (Op.buildSlice e 1 zero [(0,size)] [x]) λ g o mk=>og g (Op.append e size bytes [v,mk H.next] (H.alloc o)) (K o mk):=by
 rw [Qd e size zero x hz hx];have hfr:Fr Em H (H.alloc (.row x.cells e (0,0) true)):=(Fr.refl H).alloc _;refine og.intro rfl ?_;refine qus (m:=av) (h.em hfr) (xO hx) hnew hs hf hf' λ v' H' h1 h2 h3=>hk v' H' h1 ?_ λ b hb=>?_
 ·exact ⟨xj hfr.next h2.next,λ b hb hw=>by rw [h2.ah b (qk hb hfr.next) hw,hfr.ah b hb (λ q=>q)]⟩
 ·exact (h3 b hb).imp id λ q=>xj hfr.next q
theorem Ei.intro {W:St->bP->Prop} {ah:Option (List Nat)} {st:St} {Q:bP} (I:Nat->St->Prop) (n:Nat) (h0:I n st)
 (h:∀ n st,I n st->W (gT ah st) λ e st'=>match e with
  | .normal=>∃ m,m<n/\I m st'
  | e=>Q e st'):Ei W ah st Q:=⟨I,⟨n,h0⟩,h⟩
end Go.Am
namespace Go.Am
theorem Bo (H:AHeap) (tm:T AV) (t:Nat) (rs:List cu):cG H tm (.tmp t::rs)=(tm.get t).bind λ v=>(cG H tm rs).bind λ vs=>some (v::vs):=rfl
theorem q66 (H:AHeap) (tm:T AV) (t:Nat) (rs:List cu):cG H tm (.gf t::rs)=(((tm.get t).bind λ v=>Op.ae [v] H)).bind λ v=>(cG H tm rs).bind λ vs=>some (v::vs):=by
 simp only [cG,Gl];congr 1;cases tm.get t with
 | none=>rfl
 | some v=>cases v<;>rfl
theorem q67 (H:AHeap) (tm:T AV) (n t:Nat) (rs:List cu):cG H tm (.dB n t::rs)=(((tm.get t).bind λ v=>Op.aG n [v] H)).bind λ v=>(cG H tm rs).bind λ vs=>some (v::vs):=by
 simp only [cG,Gl];congr 1;cases tm.get t with
 | none=>rfl
 | some v=>cases v<;>rfl
theorem OS (v:AV):dq [v]=v:=rfl
theorem Ot:dq []=.tuple []:=rfl
theorem LZ (a b:AV) (l:List AV):dq (a::b::l)=.tuple (a::b::l):=rfl
theorem HC (b:Nat):Op.ptrTo b=.ptr b 0:=rfl
theorem sC (t:bl) (x y:AV) (H:AHeap) (q:Bool) (h:aW t x y=some q):Op.eq (.agg t) false [x,y] H=some (.bool q):=by simp [Op.eq,DH,h]
structure Kl where
 kind:Int
 time:Int
 core:Int
 block:Int
 Ok:Int
 lane:Int
 addr:Int
 value:Int
 code:Int
deriving DecidableEq
def Kl.enc (x:Kl):List AV:=[.int .i64 x.kind,.int .i64 x.time,.int .i64 x.core,.int .i64 x.block,.int .i64 x.Ok,.int .i64 x.lane,.int .i64 x.addr,.int .u64 x.value,.int .i64 x.code]
theorem Kl.len (x:Kl):x.enc.length=9:=rfl
end Go.Am
namespace Go.Am
theorem qw (H:AHeap) (o:bm):(H.alloc o).get H.next=some o:=by rw [AHeap.bc,ql rfl]
theorem M0 {H:AHeap} {b:Nat} (h:b<H.next) (o:bm):(H.alloc o).get b=H.get b:=by rw [AHeap.bc,qg (by omega)]
theorem xb (H:AHeap) (b:Nat) (o:bm):(H.set b o).get b=some o:=by rw [AHeap.aE,ql rfl]
theorem yb {H:AHeap} {b b':Nat} (h:b ≠ b') (o:bm):(H.set b o).get b'=H.get b':=by rw [AHeap.aE,qg h]
theorem oS {H:AHeap} {b:Nat} {c:List AV} {e:Nat} (h:H.get b=some (.row c e (0,0) true)) {o n:Nat} {v:AV} (hv:v.cells.length=n) (hn:o+n<=c.length) (h1:aO v.cells=true) :
 Op.store n [.ptr b o,v] H=some (.undef,H.set b (.row (c.take o++v.cells++c.drop (o+n)) e (0,0) true)):=by
 have e1:∀ n,Nat.beq n n=true:=λ n=>by simp
 simp only [Op.store,Cq,hv,e1,xf,AHeap.store,h1,h];have:cN (0,0) o n=true:=by simp [cN]
 simp only [this,xf,Ae,hv,ql hn,qj]
theorem qtv {H:AHeap} {b m s:Nat} {c:List AV} {e:Nat} (h:H.get b=some (.grown m s c e (0,0))) {o n:Nat} {v:AV} (hv:v.cells.length=n) (hn:o+n<=c.length) (h1:aO v.cells=true) :
 Op.store n [.ptr b o,v] H=some (.undef,H.set b (.grown m s (c.take o++v.cells++c.drop (o+n)) e (0,0))):=by
 have e1:∀ n,Nat.beq n n=true:=λ n=>by simp
 simp only [Op.store,Cq,hv,e1,xf,AHeap.store,h1,h];have:cN (0,0) o n=true:=by simp [cN]
 simp only [this,xf,Ae,hv,ql hn,qj]
def cq {α:Type} (enc:α->List AV) (e size:Nat) (H:AHeap) (v:AV) (xs:List α):Prop:=Own H e size v xs.length (xs.flatMap enc)
structure qH {α:Type} (enc:α->List AV) (e size:Nat) (H0 H:AHeap) (v:AV) (xs:List α):Prop where
 own:cq enc e size H v xs
 fr:Fr Em H0 H
 fresh:∀ b,aI v b->H0.next<=b
section
variable {α:Type} {enc:α->List AV} {e size:Nat} {H0 H H':AHeap} {v:AV} {xs:List α}
theorem du.one (h:du enc size H v xs):aT v=true:=Sl.one h
theorem qH.nil (H:AHeap):qH enc e size H H .nils ([]:List α):=⟨Own.nil H e size,Fr.refl H,λ b h=>(h.1 rfl).elim⟩
theorem qH.sl (h:qH enc e size H0 H v xs):du enc size H v xs:=Own.sl h.own
theorem cq.sl (h:cq enc e size H v xs):du enc size H v xs:=Own.sl h
theorem qH.em (h:qH enc e size H0 H v xs) (f:Fr Em H H'):qH enc e size H0 H' v xs:=⟨Own.em h.own f,h.fr.em f,h.fresh⟩
theorem qH.len (h:qH enc e size H0 H v xs):Op.dC [v]=some (.int .i64 xs.length):=h.sl.len
theorem qH.step (h:qH enc e size H0 H v xs) {v':AV} {ys:List α} (h1:cq enc e size H' v' ys) (h2:Fr (aI v) H H') (h3:∀ b,aI v' b->aI v b\/H.next<=b):qH enc e size H0 H' v' ys :=
 ⟨h1,h.fr.trans h2 λ x hx=>.inr (h.fresh x hx),λ b hb=>(h3 b hb).elim (h.fresh b) λ q=>xj h.fr.next q⟩
theorem Nr {f:α->List AV} (hs:∀ x,(f x).length=size):∀ (xs:List α) {i:Nat} {x:α},xs[i]? = some x -> ∀ (y:α),(xs.set i y).flatMap f=(xs.flatMap f).take (i*size)++f y++(xs.flatMap f).drop (i*size+size)
 | [],i,x,h,y=>by simp at h
 | z::zs,0,x,h,y=>by
  simp at h;subst h;simp only [List.set_cons_zero,zx,yl,BW,zn,jy];rw [kn (by rw [hs];omega),jh (by rw [hs];omega),zn]
 | z::zs,i+1,x,h,y=>by
  simp only [zk] at h;have e1:(f z++zs.flatMap f).take ((i+1)*size)=f z++(zs.flatMap f).take (i*size):=by
   rw [show (i+1)*size=(f z).length+i*size from by rw [hs,yz];omega,List.take_length_add_append]
  have e2:(f z++zs.flatMap f).drop ((i+1)*size+size)=(zs.flatMap f).drop (i*size+size):=by
   rw [show (i+1)*size+size=(f z).length+(i*size+size) from by rw [hs,yz];omega,List.drop_length_add_append]
  rw [List.set_cons_succ,zx,zx,Nr hs zs h y,e1,e2];simp only [zf]
theorem zV (hs:∀ x,(enc x).length=size) (l:List α):(l.flatMap enc).length=l.length*size:=by
 induction l with
 | nil=>simp
 | cons a l ih=>rw [zx,qx,hs,ih,ky,yz];omega
theorem BP {L E:List AV} {k0 j:Nat} {u:AV} (hE:E.length=size) (hj:j<size) (hk:k0+size<=L.length) (h:∀ r,r<size->L[k0+r]? = E[r]?) :
 L.take k0++E.set j u++L.drop (k0+size)=L.set (k0+j) u:=by
 refine jp λ k=>?_;have h1:(L.take k0).length=k0:=by rw [ja];omega
 rw [zf,List.getElem?_set];rcases zt k k0 with q|q
 ·rw [j7 (by omega),kc,ql q,qg (by omega)]
 ·rw [jg (by omega),h1];obtain ⟨r,rfl⟩:∃ r,k=k0+r:=⟨k-k0,by omega⟩
  rw [show k0+r-k0=r from by omega];rcases zt r size with q'|q'
  ·rw [j7 (by rw [qv];omega),List.getElem?_set]
   by_cases hjr:j=r
   ·subst hjr;rw [ql rfl,ql rfl,ql (by omega),ql (by omega)]
   ·rw [qg hjr,qg (by omega),h r q']
  ·rw [jg (by rw [qv];omega),qv,kq,qg (by omega)];congr 1;omega
end
end Go.Am
namespace Go.Am
theorem rN {k mx d:Nat} {z:Int} (hz:z=k) (h:k<=mx) (kk:IntKind):bound (some (.int kk z)) d mx=some k:=by
 subst hz;show cond (Nat.ble k mx) (some k) none=some k;rw [k9 h];rfl
theorem Sl.from {H:AHeap} {size:Nat} {v:AV} {n:Nat} {cells:List AV} (h:Sl H size v n cells) {k:Nat} (hk:k<=n) {z:Int} (hz:z=k) (kk:IntKind) :
 ∃ v',Op.aJ size [some 0,none,none] [v,.int kk z]=some v'/\Sl H size v' (n-k) (cells.drop (k*size))/\(v'=.nils\/aF v'=aF v):=by
 obtain ⟨hl,h⟩:=h;have hlen:(cells.drop (k*size)).length=(n-k)*size:=by rw [ju,hl,Nat.sub_mul]
 have hkn:k*size<=n*size:=jl _ hk;have hsub:(n-k)*size=n*size-k*size:=Nat.sub_mul n k size;split at h
 ·subst h;have:k=0:=by omega
  subst this;refine ⟨.nils,?_,⟨hlen,rfl⟩,.inl rfl⟩;have hbn:bound none 0 0=some 0:=rfl;simp [Op.aJ,arg,jO,df,hbn,rN hz (qf 0)]
 ·rename_i b o m c;obtain ⟨rfl,hc,h⟩:=h;have hb1:∀ d m,bound none d m=some d:=λ _ _=>rfl;refine ⟨.slice b (cond (Nat.beq c k) o (o+k*size)) (m-k) (c-k),by simp [Op.aJ,arg,jO,df,hb1,rN hz hk],⟨hlen,rfl,by omega,?_⟩,.inr rfl⟩;rcases h with h|⟨hb,all,h1,h2⟩
  ·left;omega
  ·by_cases he:c=k
   ·left;omega
   ·right;obtain ⟨h3,rfl⟩:=Lf h2;refine ⟨hb,all,h1,?_⟩;rw [EH he,za,qP,ql (by omega),List.drop_take,CZ];simp [hsub]
 ·rename_i b i m s alt q;obtain ⟨rfl,rfl,hm,h⟩:=h;have e1:∀ n,Nat.beq n n=true:=λ n=>by simp
  have hb1:∀ d m,bound none d m=some d:=λ _ _=>rfl;have hq:=k9 (show q<=m-i by omega);have him:=k9 (show i<=m by omega);refine ⟨.gslice b (i+k) m s (cond (Nat.beq k 0) alt (i*s)) (q-k),by simp only [Op.aJ,arg,jO,je,qj,df,hb1,rN hz hk,e1,him,hq,zu,xf],⟨hlen,rfl,rfl,by omega,?_⟩,.inr rfl⟩;rcases h with h|⟨hb,all,h1,h2⟩
  ·left;omega
  ·right;obtain ⟨h3,rfl⟩:=Lf h2;refine ⟨hb,all,h1,?_⟩;rw [qP,ql (by rw [j4];omega),List.drop_take,CZ,j4];simp [hsub]
 ·rename_i b;obtain ⟨rfl,hb⟩:=h;have:k=0:=by omega
  subst this;have hbn:bound none 0 0=some 0:=rfl;refine ⟨.eslice b,?_,⟨hlen,rfl,hb⟩,.inr rfl⟩;simp [Op.aJ,arg,jO,df,hbn,rN hz (qf 0)]
 ·exact h.elim
section
variable {α:Type} {enc:α->List AV} {size:Nat} {H H':AHeap} {v:AV} {xs:List α}
theorem qpc (hs:∀ x,(enc x).length=size):∀ (xs:List α) (k:Nat),(xs.flatMap enc).drop (k*size)=(xs.drop k).flatMap enc
 | [],k=>by simp
 | x::xs,0=>by simp
 | x::xs,k+1=>by
  rw [zx,show (k+1)*size=(enc x).length+k*size from by rw [hs,yz];omega,List.drop_length_add_append,qpc hs xs k];rfl
theorem du.from (hs:∀ x,(enc x).length=size) (h:du enc size H v xs) {k:Nat} (hk:k<=xs.length) {z:Int} (hz:z=k) (kk:IntKind) :
 ∃ v',Op.aJ size [some 0,none,none] [v,.int kk z]=some v'/\du enc size H v' (xs.drop k)/\(v'=.nils\/aF v'=aF v):=by
 obtain ⟨v',h1,h2,h3⟩:=Sl.from h hk hz kk
 refine ⟨v',h1,?_,h3⟩;unfold du;rw [ju,<-qpc hs];exact h2
def dR (enc:α->List AV) (e size:Nat) (H:AHeap) (v:AV) (xs:List α):Prop:=∃ b,v=.slice b 0 xs.length xs.length/\b<H.next/\H.get b=some (.row (xs.flatMap enc) e (0,0) true)
theorem dR.sl {e:Nat} (hs:∀ x,(enc x).length=size) (h:dR enc e size H v xs):du enc size H v xs:=by
 obtain ⟨b,rfl,h1,h2⟩:=h;refine ⟨zV hs xs,rfl,qf _,.inr ⟨h1,_,qz h2,?_⟩⟩;rw [qP,ql (by rw [zV hs];omega),GP,zj (by rw [zV hs];omega)]
theorem dR.fr {e:Nat} {W:Nat->Prop} (h:dR enc e size H v xs) (f:Fr W H H') (hw:¬ W (aF v)):dR enc e size H' v xs:=by
 obtain ⟨b,rfl,h1,h2⟩:=h;exact ⟨b,rfl,qk h1 f.next,by rw [f.ah b h1 hw];exact h2⟩
theorem dR.lt {e:Nat} (h:dR enc e size H v xs):aF v<H.next:=by
 obtain ⟨b,rfl,h1,h2⟩:=h;exact h1
theorem dR.A8 {e:Nat} (hs:∀ x,(enc x).length=size) (h:dR enc e size H v xs) {i:Nat} {x y:α} (hx:xs[i]? = some x) {j:Nat} (hj:j<size) {u:AV} (hu:aT u=true) (hy:enc y=(enc x).set j u) :
 ∃ H',Op.store 1 [.ptr (aF v) (bI size v i+j),u] H=some (.undef,H')/\dR enc e size H' v (xs.set i y)/\Fr (On (aF v)) H H':=by
 obtain ⟨b,rfl,h1,h2⟩:=h;have hi:=Bz hx;have hl:=zV hs xs;have hb:(i+1)*size<=xs.length*size:=jl _ hi;rw [yz] at hb;have hc:u.cells=[u]:=by cases u<;>first|rfl|cases hu
 have hst:=oS h2 (o:=i*size+j) (n:=1) (v:=u) (by rw [hc];rfl) (by omega) (by rw [hc,oQ];simpa using hu);have ho:bI size (AV.slice b 0 xs.length xs.length) i=i*size:=by simp [bI]
 rw [ho];refine ⟨_,hst,⟨b,?_,h1,?_⟩,(Fr.refl H).set (W:=On b) (.inl rfl) _⟩
 ·rw [qv]
 ·rw [xb,Nr hs xs hx,hy,hc,BP (L:=xs.flatMap enc) (E:=enc x) (hs x) hj (by omega) (λ r hr=>Fc hs xs hx hr),vx,ql (by omega)];simp
end
theorem Ls (e bytes:Nat) (z:List AV) (n:Nat) (k k':IntKind) (h:n*bytes<=140737488355328) (h':n<=140737488355328) :
 Op.mkSlice e bytes z [.int k n,.int k' n]=some (.row (dG n z) e (0,0) true,Op.sliceTo n n):=by
 have h1:nH 0 (n:Int)=true:=by rw [BM];simp
 have h2:nH (n:Int) n=true:=by rw [BM];simp
 have h3:nH ((n:Int)*(bytes:Int)) 140737488355328=true:=by rw [BM];simp;omega
 have h4:nH (n:Int) 140737488355328=true:=by rw [BM];simp;omega
 simp [Op.mkSlice,h1,h2,h3,h4]
end Go.Am
namespace Go.Am
theorem q1d {tm:T AV} {x:ba} {K K':AV->Prop} (h:zY tm x K) (hk:∀ v,K v->K' v):zY tm x K':=by
 obtain ⟨v,h1,h2⟩:=h.elim;cases x with
 | tmp t=>simp only [mY] at h1;simp only [zY,bn,h1];exact hk v h2
 | const c=>injection h1 with h1;subst h1;exact hk _ h2
 | cU c=>injection h1 with h1;subst h1;exact hk _ h2
 | func c=>injection h1 with h1;subst h1;exact hk _ h2
theorem Cy {tm:T AV}:∀ {l:List ba} {K K':List AV->Prop},mb tm l K->(∀ v,K v->K' v)->mb tm l K'
 | [],K,K',h,hk=>hk _ h
 | .tmp t::xs,K,K',h,hk=>by
  simp only [mb] at h ⊢;unfold bn at h ⊢;split at h
  ·exact Cy h λ vs=>hk _
  ·exact h.elim
 | .const v::xs,K,K',h,hk=>Cy (l:=xs) h λ vs=>hk _
 | .cU v::xs,K,K',h,hk=>Cy (l:=xs) h λ vs=>hk _
 | .func v::xs,K,K',h,hk=>Cy (l:=xs) h λ vs=>hk _
theorem Aj {α:Type} {m:Bool} {o:Option α} {K K':α->Prop} (h:bn m o K) (hk:∀ a,K a->K' a):bn m o K':=by
 cases o with
 | none=>exact h
 | some a=>exact hk a h
theorem qur {α β:Type} {m:Bool} {o:Option (α × β)} {K K':α -> β->Prop} (h:fJ m o K) (hk:∀ a b,K a b->K' a b):fJ m o K':=by
 cases o with
 | none=>exact h
 | some a=>exact hk a.1 a.2 h
section
variable {AP:aA}
theorem JY {m:Bool} {f:eR} {vs:List AV} {H:AHeap} {K K':AV->AHeap->Prop} {E E':aw->AHeap->Prop} (h:iL AP m f vs H K E) (hk:∀ v H,K v H->K' v H) (he:∀ c H,E c H->E' c H):iL AP m f vs H K' E':=by
 obtain ⟨e,H',h1,h2⟩:=h;refine ⟨e,H',h1,?_⟩;cases e with
 | ret v=>exact hk _ _ h2
 | panic c=>exact he _ _ h2
theorem Ir {ps:Option (List Nat)} {tm:T AV} {aM:List aD} {up:Option aw} {Q Q':bP} (hq:∀ e st,Q e st->Q' e st) (c:aw) (H:AHeap) (h:zZ ps tm aM up Q c H):zZ ps tm aM up Q' c H:=by
 cases ps with
 | none=>exact h
 | some ds=>exact hq _ _ h
theorem q1f {ctx:Ctx} {dst:Option Nat} {ps:Option (List Nat)} {st:St} {Q Q':bP} {K K':St->Prop} {vs:List AV} {op:dN} (h:mf AP ctx dst ps st Q K vs op) (hq:∀ e st,Q e st->Q' e st) (hk:∀ st,K st->K' st):mf AP ctx dst ps st Q' K' vs op:=by
 cases op with
 | pure f=>exact Aj (m:=av) h λ _=>hk _
 | read f=>exact Aj (m:=av) h λ _=>hk _
 | alloc f=>simp only [mf] at h ⊢;exact qur h λ _ _=>hk _
 | eQ f=>simp only [mf] at h ⊢;exact qur h λ _ _=>hk _
 | eH f=>exact JY (m:=av) h (λ _ _=>hk _) (Ir hq)
 | eK =>
  simp only [mf,Du] at h ⊢;split at h
  ·exact JY h (λ _ _=>hk _) (Ir hq)
  ·exact JY h (λ _ _=>hk _) (Ir hq)
  ·exact h.elim
 | invoke n =>
  simp only [mf,Ee] at h ⊢;split at h
  ·exact Aj h λ _ q=>JY q (λ _ _=>hk _) (Ir hq)
  ·exact h.elim
 | recover =>
  simp only [mf,pw] at h ⊢;split at h
  ·refine ⟨h.1,?_⟩;have h2:=h.2;split at h2<;>exact hk _ h2
  ·exact h.elim
 | defer =>
  simp only [mf,uV] at h ⊢;refine ⟨h.1,?_⟩;have h2:=h.2;split at h2
  ·exact hk _ h2
  ·exact h2.elim
 | panic =>
  simp only [mf,dU] at h ⊢;split at h
  ·exact Ir hq _ _ h
  ·exact h.elim
theorem q41 {ctx:Ctx} {s:aL} {st:St} {Q Q':bP} {K K':St->Prop} (h:qG AP ctx s st Q K) (hq:∀ e st,Q e st->Q' e st) (hk:∀ st,K st->K' st):qG AP ctx s st Q' K':=by
 obtain ⟨eO,dst,guard,args,op,ps⟩:=s;cases eO with
 | false =>
  cases guard with
  | none=>exact Cy h λ _ q=>q1f q hq hk
  | some g =>
   refine Aj (m:=av) h λ w q=>?_;cases w with
   | true=>exact Cy (K:=_) q λ _ q=>q1f q hq hk
   | false=>exact hk _ q
 | true =>
  cases guard with
  | none=>exact Cy h λ _ q=>⟨q.1,hk _ q.2⟩
  | some g =>
   refine Aj (m:=av) h λ w q=>?_;cases w with
   | true=>exact Cy (K:=_) q λ _ q=>⟨q.1,hk _ q.2⟩
   | false=>exact ⟨q.1,hk _ q.2⟩
theorem q1g {ctx:Ctx}:∀ {l:List aL} {st:St} {Q Q':bP},nu AP ctx l st Q->(∀ e st,Q e st->Q' e st)->nu AP ctx l st Q'
 | [],st,Q,Q',h,hq=>hq _ _ h
 | s::rest,st,Q,Q',h,hq=>q41 h hq λ st' h'=>q1g h' hq
theorem FF {ctx:Ctx} {st:St} {k:Nat} {H0:AHeap} {aM:List aD} {d:Nat} {Q Q':bP} {v:AV} (h:iN AP ctx st k H0 aM d Q v) (hq:∀ e st,Q e st->Q' e st):iN AP ctx st k H0 aM d Q' v:=by
 unfold iN at h ⊢;split at h
 ·obtain ⟨e,H',h1,h2⟩:=h;refine ⟨e,H',h1,?_⟩;cases e with
  | panic c=>exact hq _ _ h2
  | ret v=>obtain ⟨s,p,f,k,tm,d,q1,q2,q3⟩:=h2;exact ⟨s,p,f,k,tm,d,q1,q2,hq _ _ q3⟩
 ·exact h.elim
theorem nI {ctx:Ctx}:∀ {c:aj} {st:St} {Q Q':bP},WP AP ctx c st Q->(∀ e st,Q e st->Q' e st)->WP AP ctx c st Q'
 | .skip,st,Q,Q',h,hq=>hq _ _ h
 | .label _,st,Q,Q',h,hq=>hq _ _ h
 | .exit _,st,Q,Q',h,hq=>hq _ _ h
 | .goto _,st,Q,Q',h,hq=>hq _ _ h
 | .ret,st,Q,Q',h,hq=>hq _ _ h
 | .stuck,st,Q,Q',h,hq=>h.elim
 | .region l,st,Q,Q',h,hq=>q1g h hq
 | .seq a b,st,Q,Q',h,hq=>nI (c:=a) h λ e st' h'=>by
  cases e with
  | normal=>exact nI (c:=b) h' hq
  | exit _=>exact hq _ _ h'
  | goto _=>exact hq _ _ h'
  | ret=>exact hq _ _ h'
  | panic _=>exact hq _ _ h'
 | .cond c a b,st,Q,Q',h,hq=>q1d h λ v q=>Aj (m:=av) q λ w q=>by
  cases w with
  | true=>exact nI (c:=a) q hq
  | false=>exact nI (c:=b) q hq
 | .block id b,st,Q,Q',h,hq=>nI (c:=b) h λ e st' h'=>by cases e<;>exact hq _ _ h'
 | .scope b,st,Q,Q',h,hq=>nI (c:=b) h λ e st' h'=>by
  cases e with
  | goto l=>exact ⟨h'.1,hq _ _ h'.2⟩
  | normal=>exact hq _ _ h'
  | exit _=>exact hq _ _ h'
  | ret=>exact hq _ _ h'
  | panic _=>exact hq _ _ h'
 | .loop ah b,st,Q,Q',⟨I,h0,h⟩,hq=>⟨I,h0,λ n st hi=>nI (c:=b) (h n st hi) λ e st' h'=>by cases e<;>first|exact h'|exact hq _ _ h'⟩
 | .rangeFunc f k,st,Q,Q',h,hq=>q1d h λ v q=>by
  unfold C7 at q ⊢;split at q
  ·exact FF q hq
  ·exact Aj (m:=av) q λ d q=>FF q hq
def d8:aC->Prop
 | .exit _=>True
 | .goto _=>True
 | .ret=>True
 | _=>False
end
end Go.Am
namespace Go.Am
noncomputable section
abbrev au:=aC->Env->List aD->AHeap->Prop
def lk (E:Env) (t:Nat):Option AV:=List.rec (motive:=λ _=>Option AV) none (λ p _ ih=>cond (Nat.beq p.1 t) (some p.2) ih) E
theorem vM (t:Nat):lk [] t=none:=rfl
theorem qE (k t:Nat) (v:AV) (E:Env):lk ((k,v)::E) t=if k=t then some v else lk E t:=by
 show cond (Nat.beq k t) (some v) (lk E t)=_;cases hb:Nat.beq k t with
 | true=>rw [ql (yk hb)];rfl
 | false=>rw [qg (Jv hb)];rfl
def aV (t:Nat) (l:List Nat):Bool:=List.rec (motive:=λ _=>Bool) false (λ x _ ih=>cond (Nat.beq x t) true ih) l
def dP (ks:List Nat) (E:Env) (tm:T AV):Prop:=∀ t v,lk E t=some v->tm.get t=some v/\aV t ks=true
def kW:Env->Env->Prop
 | [],_=>True
 | (k,v)::r,E=>lk E k=some v/\kW r E
theorem AU (E:Env):kW [] E=True:=rfl
theorem tJ (k:Nat) (v:AV) (r E:Env):kW ((k,v)::r) E=(lk E k=some v/\kW r E):=rfl
theorem kW.look:∀ {A E:Env},kW A E -> ∀ {t:Nat} {v:AV},lk A t=some v->lk E t=some v
 | [],E,_,t,v,h=>by cases h
 | (k,w)::r,E,h,t,v,hl=>by
  rw [qE] at hl;split at hl
  ·rename_i e;subst e;injection hl with hl;subst hl;exact h.1
  ·exact kW.look h.2 hl
theorem kW.sub {ks:List Nat} {A E:Env} (h:kW A E) {tm:T AV} (he:dP ks E tm):dP ks A tm:=λ t v hl=>he t v (h.look hl)
def SS (A E:Env):Prop:=∀ t v,lk A t=some v->lk E t=some v
theorem kW.ss {A E:Env} (h:kW A E):SS A E:=λ t v hl=>h.look hl
theorem SS.sub {ks:List Nat} {A E:Env} (h:SS A E) {tm:T AV} (he:dP ks E tm):dP ks A tm:=λ t v hl=>he t v (h t v hl)
theorem SS.refl (E:Env):SS E E:=λ _ _ h=>h
def B3 {α:Type} (m:Bool) (o:Option α) (K:Bool -> α->Prop):Prop:=match o with
 | some a=>K m a
 | none=>False
def gn {α β:Type} (m:Bool) (o:Option (α × β)) (K:Bool -> α -> β->Prop):Prop:=match o with
 | some a=>K m a.1 a.2
 | none=>False
def i9 (m:Bool) (v:AV) (A B:Bool->Prop):Prop:=match v with
 | .bool q=>match q with
  | true=>A m
  | false=>B m
 | _=>False
def sS (m:Bool) (q:Bool) (A B:Bool->Prop):Prop:=match q with
 | true=>A m
 | false=>B m
def Ds (m:Bool) (o o':Option AV) (K:Bool->Prop):Prop:=(∃ v,o=some v/\o'=some v)/\K m
def A3 (m:Bool) (e:Nat) (z:List AV) (H:AHeap) (K:Bool->AV->AHeap->Prop):Prop:=K m (.ptr H.next 0) (H.alloc (.row z e (0,0) true))
def JN {α:Type} (F:α->Prop) (K:α):Prop:=F K
def oJ (m:Bool) (Q:au) (e:aC) (E:Env) (D:List aD) (H:AHeap):Prop:=Q e E D H
theorem AF {α:Type} (a:α) (K:Bool -> α->Prop):B3 true (some a) K=K true a:=propext ji
theorem xZ {α β:Type} (a:α) (b:β) (K:Bool -> α -> β->Prop):gn true (some (a,b)) K=K true a b:=propext ji
theorem vY (A B:Bool->Prop):i9 true (.bool true) A B=A true:=propext ji
theorem q4r (A B:Bool->Prop):i9 true (.bool false) A B=B true:=propext ji
theorem xM (A B:Bool->Prop):sS true true A B=A true:=propext ji
theorem q4s (A B:Bool->Prop):sS true false A B=B true:=propext ji
theorem Ld (v:AV) (K:Bool->Prop):Ds true (some v) (some v) K=K true:=propext ⟨λ h=>h.2,λ h=>⟨⟨v,rfl,rfl⟩,h⟩⟩
theorem G0 (e:Nat) (z:List AV) (H:AHeap) (K:Bool->AV->AHeap->Prop):A3 true e z H K=K true (.ptr H.next 0) (H.alloc (.row z e (0,0) true)):=propext ji
theorem qd {α:Type} (F:α->Prop) (K:α):JN F K=F K:=propext ji
theorem xL (Q:au) (e:aC) (E:Env) (D:List aD) (H:AHeap):oJ true Q e E D H=Q e E D H:=propext ji
@[congr] theorem HN {α:Type} {m m':Bool} {o o':Option α} {K:Bool -> α->Prop} (hm:m=m') (h:o=o'):B3 m o K=B3 m' o' K:=by subst hm;subst h;rfl
@[congr] theorem GK {α β:Type} {m m':Bool} {o o':Option (α × β)} {K:Bool -> α -> β->Prop} (hm:m=m') (h:o=o'):gn m o K=gn m' o' K:=by subst hm;subst h;rfl
@[congr] theorem GU {m m':Bool} {v v':AV} {A B:Bool->Prop} (hm:m=m') (h:v=v'):i9 m v A B=i9 m' v' A B:=by subst hm;subst h;rfl
@[congr] theorem Gi {m m':Bool} {v v':Bool} {A B:Bool->Prop} (hm:m=m') (h:v=v'):sS m v A B=sS m' v' A B:=by subst hm;subst h;rfl
@[congr] theorem GA {m m':Bool} {o o' p p':Option AV} {K:Bool->Prop} (hm:m=m') (h:o=o') (h':p=p'):Ds m o p K=Ds m' o' p' K:=by subst hm;subst h;subst h';rfl
@[congr] theorem JM {m m':Bool} {e:Nat} {z z':List AV} {H H':AHeap} {K:Bool->AV->AHeap->Prop} (hm:m=m') (h:z=z') (h':H=H'):A3 m e z H K=A3 m' e z' H' K:=by subst hm;subst h;subst h';rfl
theorem B3.elim {α:Type} {m:Bool} {o:Option α} {K:Bool -> α->Prop} (h:B3 m o K):∃ a,o=some a/\K m a:=by
 cases o with
 | none=>exact False.elim h
 | some a=>exact ⟨a,rfl,h⟩
theorem gn.elim {α β:Type} {m:Bool} {o:Option (α × β)} {K:Bool -> α -> β->Prop} (h:gn m o K):∃ a b,o=some (a,b)/\K m a b:=by
 cases o with
 | none=>exact False.elim h
 | some a=>exact ⟨a.1,a.2,rfl,h⟩
theorem LK.elim {α:Type} {m:Bool} {o:Option α} {K:Bool -> α->Prop} (h:LK m o K):∃ a,o=some a/\K m a:=by
 cases o with
 | none=>exact False.elim h
 | some a=>exact ⟨a,rfl,h⟩
theorem B3.intro {α:Type} {m:Bool} {o:Option α} {K:Bool -> α->Prop} {a:α} (h:o=some a) (hk:K m a):B3 m o K:=by subst h;exact hk
theorem gn.intro {α β:Type} {m:Bool} {o:Option (α × β)} {K:Bool -> α -> β->Prop} {a:α} {b:β} (h:o=some (a,b)) (hk:K m a b):gn m o K:=by subst h;exact hk
theorem i9.cases {m:Bool} {q:Bool} {A B:Bool->Prop} (h1:q=true->A m) (h2:q=false->B m):i9 m (.bool q) A B:=by
 cases q with
 | true=>exact h1 rfl
 | false=>exact h2 rfl
theorem sS.cases {m:Bool} {q:Bool} {A B:Bool->Prop} (h1:q=true->A m) (h2:q=false->B m):sS m q A B:=by
 cases q with
 | true=>exact h1 rfl
 | false=>exact h2 rfl
theorem i9.elim {m:Bool} {v:AV} {A B:Bool->Prop} (h:i9 m v A B):∃ q,v=.bool q/\(match q with|true=>A m|false=>B m):=by
 unfold i9 at h;split at h
 ·exact ⟨_,rfl,h⟩
 ·exact h.elim
section
variable (M:aA)
structure Kp where
 ah:List Nat
 bO:Bool
 named:List Nat
def cz (K:List Nat) (E L:Env):Env:=List.rec (motive:=λ _=>Env) E (λ p _ ih=>cond (aV p.1 K) (p::ih) ih) L
def nC (ds:List Nat) (E:Env):Env:=List.rec (motive:=λ _=>Env) [] (λ p _ ih=>cond (aV p.1 ds) ih (p::ih)) E
def ic (L:Env):List Nat:=List.rec (motive:=λ _=>List Nat) [] (λ p _ ih=>p.1::ih) L
abbrev KR:=Bool->Env->Env->AHeap->Prop
def TV (E L R:Env) (t:Nat) (g:Bool) (K:Bool->Env->AV->Prop):Prop :=
 Option.rec (motive:=λ _=>Prop) (Option.rec (motive:=λ _=>Prop) (LK g (lk E t) λ g v=>K g ((t,v)::R) v) (λ v=>K g R v) (lk R t)) (λ v=>K g R v) (lk L t)
def rP (E L:Env) (l:List ba):Bool->Env->(Bool->Env->List AV->Prop)->Prop:=List.rec (motive:=λ _=>Bool->Env->(Bool->Env->List AV->Prop)->Prop) (λ g R K=>K g R [])
 (λ x _ ih g R K=>ba.casesOn x (λ t=>TV E L R t g λ g R v=>ih g R λ g R vs=>K g R (v::vs)) (λ v=>ih g R λ g R vs=>K g R (v::vs)) (λ b=>ih g R λ g R vs=>K g R (.ptr b 0::vs)) (λ f=>ih g R λ g R vs=>K g R (.fn (.func f) [] []::vs))) l
def C3 (m:Bool) (f:eR) (vs:List AV) (H:AHeap) (K:Bool->AV->AHeap->Prop):Prop:=∃ v H',pF M f vs H (.ret v) H'/\K m v H'
def P3 (m:Bool) (X:aw->AHeap->Prop) (f:eR) (vs:List AV) (H:AHeap) (K:Bool->AV->AHeap->Prop):Prop:=∃ e H',pF M f vs H e H'/\match e with
 | .ret v=>K m v H'
 | .panic c=>X c H'
@[congr] theorem HK {M:aA} {m m':Bool} {f f':eR} {vs vs':List AV} {H H':AHeap} {K:Bool->AV->AHeap->Prop} (hm:m=m') (hf:f=f') (h:vs=vs') (h':H=H'):C3 M m f vs H K=C3 M m' f' vs' H' K:=by subst hm;subst h;subst hf;subst h';rfl
@[congr] theorem Hi {M:aA} {m m':Bool} {X:aw->AHeap->Prop} {f f':eR} {vs vs':List AV} {H H':AHeap} {K:Bool->AV->AHeap->Prop} (hm:m=m') (hf:f=f') (h:vs=vs') (h':H=H'):P3 M m X f vs H K=P3 M m' X f' vs' H' K:=by subst hm;subst h;subst hf;subst h';rfl
def V3 (m:Bool) (vs:List AV) (K:Bool->eR->List AV->Prop):Prop:=match vs with
 | .fn (.func g) first cap::args=>K m (.func g) (first++(args++cap))
 | .fn (.yield l) first []::args=>K m (.yield l) (first++args)
 | _=>False
@[congr] theorem HQ {m m':Bool} {vs vs':List AV} {K:Bool->eR->List AV->Prop} (hm:m=m') (h:vs=vs'):V3 m vs K=V3 m' vs' K:=by subst hm;subst h;rfl
theorem Cm (g:Nat) (first cap args:List AV) (K:Bool->eR->List AV->Prop):V3 true (.fn (.func g) first cap::args) K=K true (.func g) (first++(args++cap)):=propext ji
theorem wM (l:Nat) (first args:List AV) (K:Bool->eR->List AV->Prop):V3 true (.fn (.yield l) first []::args) K=K true (.yield l) (first++args):=propext ji
def N3 (m:Bool) (name:String) (vs:List AV) (K:Bool->eR->List AV->Prop):Prop:=match vs with
 | .iface t v::args=>B3 m (M.nA t name) λ m g=>K m (.func g) (v::args)
 | _=>False
@[congr] theorem Ho {M:aA} {m m':Bool} {name:String} {vs vs':List AV} {K:Bool->eR->List AV->Prop} (hm:m=m') (h:vs=vs'):N3 M m name vs K=N3 M m' name vs' K:=by subst hm;subst h;rfl
theorem uk (name:String) (t:Nat) (v:AV) (args:List AV) (K:Bool->eR->List AV->Prop):N3 M true name (.iface t v::args) K=B3 true (M.nA t name) λ m g=>K m (.func g) (v::args):=propext ji
def PX (ps:Option (List Nat)) (ks:List Nat) (Q:au) (E:Env) (D:List aD) (c:aw) (H:AHeap):Prop:=match ps with
 | some ds=>Q (.panic c) (nC ds (nC ks E)) D H
 | none=>False
def zB (bO:Bool) (ps:Option (List Nat)) (L:Env) (Q:au) (E:Env) (D:List aD) (g:Bool) (f:eR) (vs:List AV) (H:AHeap) (K:Bool->AV->AHeap->Prop):Prop :=
 cond bO (P3 M g (PX ps (ic L) Q E D) f vs H K) (C3 M g f vs H K)
def pL (bO:Bool) (dst:Option Nat) (ps:Option (List Nat)) (Q:au) (E:Env) (D:List aD) (L R:Env) (H:AHeap) (K:KR) (g:Bool) (vs:List AV):dN->Prop
 | .pure f=>B3 g (f vs) λ g v=>K g (ie dst v L) R H
 | .read f=>B3 g (f vs H) λ g v=>K g (ie dst v L) R H
 | .alloc f=>gn g (f vs) λ g o mk=>K g (ie dst (mk H.next) L) R (H.alloc o)
 | .eQ f=>gn g (f vs H) λ g v H=>K g (ie dst v L) R H
 | .eH f=>zB M bO ps L Q E D g (.func f) vs H (λ g v H=>K g (ie dst v L) R H)
 | .eK=>V3 g vs λ g f vs=>zB M bO ps L Q E D g f vs H (λ g v H=>K g (ie dst v L) R H)
 | .invoke name=>N3 M g name vs λ g f vs=>zB M bO ps L Q E D g f vs H (λ g v H=>K g (ie dst v L) R H)
 | .panic=>cond bO (dU vs H (PX ps (ic L) Q E D)) False
 | _=>False
def Mk (L E:Env) (d:Nat):Option AV:=Option.rec (motive:=λ _=>Option AV) (lk E d) (λ v=>some v) (lk L d)
def KX (dst:Option Nat) (E L R:Env) (H:AHeap) (K:KR) (g:Bool) (vs:List AV):dN->Prop
 | .read f=>match dst with
  | some d=>Ds g (f vs H) (Mk L E d) λ g=>K g L R H
  | none=>False
 | _=>False
def Ad (bO:Bool) (s:aL) (Q:au) (E:Env) (D:List aD) (K:KR):KR:=λ g L R H =>
 rP E L s.args g R λ g R vs=>match s.eO with
  | false=>pL M bO s.dst s.bG Q E D L R H K g vs s.op
  | true=>KX s.dst E L R H K g vs s.op
def lR (bO:Bool) (Q:au) (E:Env) (D:List aD) (K:KR) (l:List aL):KR:=List.rec (motive:=λ _=>KR) K (λ s _ ih=>Ad M bO s Q E D ih) l
abbrev Ao:=Option (Nat × Bool) × List aL
def nO:Option (Nat × Bool)->Option (Nat × Bool)->Bool
 | none,none=>true
 | some (t,b),some (u,c)=>cond (Nat.beq t u) (cond b c (!c)) false
 | _,_=>false
def Dp (l:List aL):List Ao:=List.rec (motive:=λ _=>List Ao) [] (λ s _ ih=>List.casesOn (motive:=λ _=>List Ao) ih [(s.guard,[s])] λ g r=>cond (nO g.1 s.guard) ((g.1,s::g.2)::r) ((s.guard,[s])::g::r)) l
def DU (o:Option Nat) (t:Nat):Bool:=Option.rec (motive:=λ _=>Bool) false (λ d=>Nat.beq d t) o
def pS (t:Nat) (l:List aL):Bool:=List.rec (motive:=λ _=>Bool) true (λ s _ ih=>cond (DU s.dst t) false (cond s.eO (cond s.dst.isSome ih false) ih)) l
def CT (n:Nat):Type:=Nat.rec (motive:=λ _=>Type) (AHeap->Prop) (λ _ T=>AV->T) n
def mO (n:Nat):(List AV->AHeap->Prop)->CT n:=Nat.rec (motive:=λ n=>(List AV->AHeap->Prop)->CT n) (λ f=>f []) (λ _ ih f v=>ih λ l=>f (v::l)) n
def lQ (n:Nat):CT n->List AV->AHeap->Prop:=Nat.rec (motive:=λ n=>CT n->List AV->AHeap->Prop) (λ k _=>k) (λ _ ih k l=>List.casesOn (motive:=λ _=>AHeap->Prop) l (λ _=>False) λ v l=>ih (k v) l) n
def aS (l:List aL):List Nat->List Nat:=List.rec (motive:=λ _=>List Nat->List Nat) (λ acc=>acc) (λ s _ ih acc=>ih (cond s.eO acc (Option.rec (motive:=λ _=>List Nat) acc (λ d=>d::acc) s.dst))) l
def gZ (ks:List Nat) (L:Env):List AV->Env:=List.rec (motive:=λ _=>List AV->Env) (λ _=>L) (λ k _ ih l=>List.casesOn (motive:=λ _=>Env) l L λ v l=>(k,v)::ih l) ks
def my (n:Nat):Env->List AV:=Nat.rec (motive:=λ _=>Env->List AV) (λ _=>[]) (λ _ ih L=>List.casesOn (motive:=λ _=>List AV) L [] λ p L=>p.2::ih L) n
def m8 (n:Nat):List AV:=Nat.rec (motive:=λ _=>List AV) [] (λ _ ih=>.undef::ih) n
def JQ (bO:Bool) (Q:au) (E:Env) (D:List aD) (x:Ao) (K:KR):KR:=λ g L R H=>match x.1 with
 | none=>lR M bO Q E D K x.2 g L R H
 | some q=>cond (pS q.1 x.2) (TV E L R q.1 g λ g R v=>JN (α:=Bool->CT (bL (aS x.2 [])))
  (λ k=>B3 g (cB q.2 (some v)) λ g w=>sS g w (λ g=>lR M bO Q E D (λ g L _ H=>lQ (bL (aS x.2 [])) (k g) (my (bL (aS x.2 [])) L) H) x.2 g L R H) (λ g=>lQ (bL (aS x.2 [])) (k g) (m8 (bL (aS x.2 []))) H))
  (λ g=>mO (bL (aS x.2 [])) λ vs H=>K g (gZ (aS x.2 []) L vs) R H)) False
def rU (bO:Bool) (Q:au) (E:Env) (D:List aD) (K:KR) (l:List Ao):KR:=List.rec (motive:=λ _=>KR) K (λ x _ ih=>JQ M bO Q E D x ih) l
def mS (bO:Bool) (Q:au) (E:Env) (D:List aD) (l:List aL) (g:Bool) (H:AHeap) (K:KR):Prop:=rU M bO Q E D K (Dp l) g [] [] H
abbrev WX:=Bool->au->Env->List aD->AHeap->Prop
def cT (X:WX) (Q:au):au:=λ e E D H=>match e with
 | .normal=>X true Q E D H
 | e=>Q e E D H
def cw (id:Nat) (Q:au):au:=λ e E D H=>match e with
 | .exit id'=>Q (cond (Nat.beq id id') .normal (.exit id')) E D H
 | e=>Q e E D H
def kQ (b:aj) (Q:au):au:=λ e E D H=>match e with
 | .goto l=>Al b l=false/\Q (.goto l) E D H
 | e=>Q e E D H
abbrev Dz:=Nat->Env->List aD->AHeap->Prop
def LP3 (I:Dz) (n:Nat) (Q:au):au:=λ e E D H=>match e with
 | .normal=>∃ m E',I m E' D H/\SS E' E/\m<n
 | e=>Q e E D H
def aR (X:WX) (Q:au) (E:Env) (D:List aD) (H:AHeap):Prop :=
 ∃ I:Dz,(∃ n E0,I n E0 D H/\SS E0 E) /\ ∀ n E D H,I n E D H->X true (LP3 I n Q) E D H
def gN (ks:List Nat) (ctx:Ctx) (k:Nat) (E:Env) (D:List aD) (H:AHeap) (Q:au) (v:AV):Prop :=
 ∀ tm up,dP ks E tm->C7 M ctx k ⟨tm,D,up,H⟩ (λ e st=>st.up=up/\st.tm=tm/\Q e E st.aM st.H) v
def OV (E:Env) (x:ba) (g:Bool) (K:Bool->AV->Prop):Prop:=match x with
 | .tmp t=>LK g (lk E t) K
 | .const v=>K g v
 | .cU b=>K g (.ptr b 0)
 | .func f=>K g (.fn (.func f) [] [])
def CV (E L R:Env) (x:ba) (g:Bool) (K:Bool->AV->Prop):Prop:=match x with
 | .tmp t=>TV E L R t g λ g _ v=>K g v
 | .const v=>K g v
 | .cU b=>K g (.ptr b 0)
 | .func f=>K g (.fn (.func f) [] [])
def W3 (ctx:Ctx) (K:Kp):aj->Bool->au->Env->List aD->AHeap->Prop
 | .skip,g,Q,E,D,H=>oJ g Q .normal E D H
 | .label _,g,Q,E,D,H=>oJ g Q .normal E D H
 | .exit id,g,Q,E,D,H=>oJ g Q (.exit id) E D H
 | .goto l,g,Q,E,D,H=>oJ g Q (.goto l) E D H
 | .ret,g,Q,E,D,H=>oJ g Q .ret E D H
 | .stuck,_,_,_,_,_=>False
 | .region l,g,Q,E,D,H=>mS M K.bO Q E D l g H λ g L _ H=>oJ g Q .normal (cz K.ah E L) D H
 | .seq a b,g,Q,E,D,H=>match a,b with
  | .region l,.cond c x y=>mS M K.bO Q E D l g H λ g L R H=>CV E L R c g λ g v=>i9 g v (λ g=>W3 ctx K x g Q (cz K.ah E L) D H) (λ g=>W3 ctx K y g Q (cz K.ah E L) D H)
  | .region l,.seq (.cond c x y) r=>mS M K.bO Q E D l g H λ g L R H=>CV E L R c g λ g v=>i9 g v (λ g=>W3 ctx K x g (cT (W3 ctx K r) Q) (cz K.ah E L) D H) (λ g=>W3 ctx K y g (cT (W3 ctx K r) Q) (cz K.ah E L) D H)
  | .region l,b=>mS M K.bO Q E D l g H λ g L _ H=>W3 ctx K b g Q (cz K.ah E L) D H
  | a,b=>W3 ctx K a g (cT (W3 ctx K b) Q) E D H
 | .cond c x y,g,Q,E,D,H=>OV E c g λ g v=>i9 g v (λ g=>W3 ctx K x g Q E D H) (λ g=>W3 ctx K y g Q E D H)
 | .block id b,g,Q,E,D,H=>W3 ctx K b g (cw id Q) E D H
 | .scope b,g,Q,E,D,H=>W3 ctx K b g (kQ b Q) E D H
 | .loop (some _) _,_,_,_,_,_=>False
 | .loop none b,g,Q,E,D,H=>aR (W3 ctx K b) Q E D H
 | .rangeFunc f k,g,Q,E,D,H=>OV E f g λ g v=>gN M K.ah ctx k E D H Q v
end
structure iv (E L R:Env) (tm:T AV):Prop where
 l:∀ t v,lk L t=some v->tm.get t=some v
 r:∀ t v,lk L t=none->lk R t=some v->tm.get t=some v
 e:∀ t v,lk L t=none->lk E t=some v->tm.get t=some v
theorem iv.first {ks:List Nat} {E:Env} {tm:T AV} (h:dP ks E tm):iv E [] [] tm:=⟨λ _ _ h=>(by cases h),λ _ _ _ h=>(by cases h),λ t v _ hv=>(h t v hv).1⟩
theorem iv.put {E L R:Env} {tm:T AV} (h:iv E L R tm) (dst:Option Nat) (v:AV):iv E (ie dst v L) R (c5 dst v tm):=by
 cases dst with
 | none=>exact h
 | some d =>
  show iv E ((d,v)::L) R (tm.set d v);refine ⟨λ t w hw=>?_,λ t w hn hw=>?_,λ t w hn hw=>?_⟩
  ·rw [qE] at hw;rw [T.aE];split at hw
   ·rename_i e;rw [ql e];exact hw
   ·rename_i e;rw [qg e];exact h.l t w hw
  ·rw [qE] at hn;rw [T.aE];split at hn
   ·cases hn
   ·rename_i e;rw [qg e];exact h.r t w hn hw
  ·rw [qE] at hn;rw [T.aE];split at hn
   ·cases hn
   ·rename_i e;rw [qg e];exact h.e t w hn hw
theorem TV.elim {E L R:Env} {t:Nat} {g:Bool} {K:Bool->Env->AV->Prop} {tm:T AV} (hr:iv E L R tm) (h:TV E L R t g K):∃ v R',tm.get t=some v/\iv E L R' tm/\K g R' v:=by
 unfold TV at h;cases hl:lk L t with
 | some v=>rw [hl] at h;exact ⟨v,R,hr.l t v hl,hr,h⟩
 | none =>
  rw [hl] at h;cases hq:lk R t with
  | some v=>rw [hq] at h;exact ⟨v,R,hr.r t v hl hq,hr,h⟩
  | none =>
   rw [hq] at h;obtain ⟨v,hv,h⟩:=LK.elim h;refine ⟨v,_,hr.e t v hl hv,⟨hr.l,λ u w hn hw=>?_,hr.e⟩,h⟩;rw [qE] at hw;split at hw
   ·rename_i e;subst e;injection hw with hw;subst hw;exact hr.e t v hl hv
   ·exact hr.r u w hn hw
theorem FR {tm:T AV}:∀ {l:List ba} {vs:List AV} {K:List AV->Prop},iI tm l=some vs->K vs->mb tm l K
 | [],vs,K,h,hk=>by injection h with h;subst h;exact hk
 | x::xs,vs,K,h,hk=>by
  simp only [iI,qb] at h;obtain ⟨v,h1,ws,h2,h3⟩:=h;injection h3 with h3;subst h3
  cases x with
  | tmp t=>exact bn.intro (m:=av) h1 (FR h2 hk)
  | const c=>injection h1 with h1;subst h1;exact FR (K:=λ vs=>K (c::vs)) h2 hk
  | cU c=>injection h1 with h1;subst h1;exact FR (K:=λ vs=>K (_::vs)) h2 hk
  | func c=>injection h1 with h1;subst h1;exact FR (K:=λ vs=>K (_::vs)) h2 hk
theorem rP.elim {E L:Env} {tm:T AV} {g:Bool}:∀ {l:List ba} {R:Env} {K:Bool->Env->List AV->Prop},iv E L R tm->rP E L l g R K -> ∃ vs R',iI tm l=some vs/\iv E L R' tm/\K g R' vs
 | [],R,K,hr,h=>⟨[],R,rfl,hr,h⟩
 | .tmp t::xs,R,K,hr,h=>by
  obtain ⟨v,R1,h1,hr1,h⟩:=TV.elim hr (show TV E L R t g (λ g R v=>rP E L xs g R λ g R vs=>K g R (v::vs)) from h);obtain ⟨vs,R2,h2,hr2,h⟩:=rP.elim hr1 h;exact ⟨v::vs,R2,by simp [iI,mY,h1,h2],hr2,h⟩
 | .const v::xs,R,K,hr,h=>by
  obtain ⟨vs,R2,h2,hr2,h⟩:=rP.elim (l:=xs) hr h;exact ⟨v::vs,R2,by simp [iI,mY,h2],hr2,h⟩
 | .cU v::xs,R,K,hr,h=>by
  obtain ⟨vs,R2,h2,hr2,h⟩:=rP.elim (l:=xs) hr h;exact ⟨_,R2,by simp [iI,mY,h2],hr2,h⟩
 | .func v::xs,R,K,hr,h=>by
  obtain ⟨vs,R2,h2,hr2,h⟩:=rP.elim (l:=xs) hr h;exact ⟨_,R2,by simp [iI,mY,h2],hr2,h⟩
theorem Kf (ds:List Nat):∀ (E:Env) (t:Nat),lk (nC ds E) t=if aV t ds then none else lk E t
 | [],t=>by simp [nC,vM]
 | (k,v)::r,t=>by
  show lk (cond (aV k ds) (nC ds r) ((k,v)::nC ds r)) t=_;cases hm:aV k ds with
  | true =>
   rw [xf,Kf ds r,qE]
   by_cases e:k=t
   ·subst e;rw [hm];rfl
   ·rw [qg e]
  | false =>
   rw [za,qE,Kf ds r,qE]
   by_cases e:k=t
   ·subst e;rw [hm];simp
   ·rw [qg e,qg e]
theorem qyp:∀ (L:Env) (t:Nat),aV t (ic L)=false->lk L t=none
 | [],t,_=>rfl
 | (k,v)::r,t,h=>by
  have h:cond (Nat.beq k t) true (aV t (ic r))=false:=h;rw [qE];cases hb:Nat.beq k t with
  | true=>rw [hb] at h;cases h
  | false=>rw [hb,za] at h;rw [qg (Jv hb)];exact qyp r t h
theorem q16 {t:Nat}:∀ {l:List Nat},t ∈ l->aV t l=true
 | x::r,h=>by
  show cond (Nat.beq x t) true (aV t r)=true;cases hb:Nat.beq x t with
  | true=>rfl
  | false =>
   rw [za];rcases zr.1 h with e|h
   ·exact (Jv hb e.symm).elim
   ·exact q16 h
theorem qsj:∀ (ds:List Nat) (tm:T AV) (t:Nat),t ∉ ds->(forget ds tm).get t=tm.get t
 | [],tm,t,_=>rfl
 | d::ds,tm,t,h=>by
  show (forget ds (tm.put d none)).get t=_;rw [qsj ds _ t (λ q=>h (yx _ q)),T.gJ,qg (λ e=>h (by rw [e];exact vv ..))]
def QQ (ks:List Nat) (Q:au) (up:Option aw):bP:=λ e st=>st.up=up /\ ∃ E',dP ks E' st.tm/\Q e E' st.aM st.H
section
variable {M:aA} {ctx:Ctx} {bO:Bool} {Q:au} {E:Env} {D:List aD} {up:Option aw}
theorem PX.Dd {Z:bP} (hp:∀ c tm H E',(∀ t v,lk E' t=some v->tm.get t=some v/\lk E t=some v)->Q (.panic c) E' D H->Z (.panic c) ⟨tm,D,up,H⟩) {ps:Option (List Nat)} {L R:Env} {tm:T AV} (hr:iv E L R tm) {c:aw} {H:AHeap} (h:PX ps (ic L) Q E D c H):zZ ps tm D up Z c H:=by
 cases ps with
 | none=>exact h
 | some ds =>
  refine hp _ _ _ _ (λ t v hv=>?_) h;rw [Kf,Kf] at hv;split at hv
  ·cases hv
  ·rename_i h1;split at hv
   ·cases hv
   ·rename_i h2;rw [qsj ds tm t (λ q=>h1 (q16 q))];exact ⟨hr.e t v (qyp L t (by simpa using h2)) hv,hv⟩
theorem zB.rD {Z:bP} (hp:∀ c tm H E',(∀ t v,lk E' t=some v->tm.get t=some v/\lk E t=some v)->Q (.panic c) E' D H->Z (.panic c) ⟨tm,D,up,H⟩) {ps:Option (List Nat)} {L R:Env} {tm:T AV} (hr:iv E L R tm) {g:Bool} {f:eR} {vs:List AV} {H:AHeap} {K:Bool->AV->AHeap->Prop} {K':AV->AHeap->Prop}
 (h:zB M bO ps L Q E D g f vs H K) (hk:∀ v H,K g v H->K' v H):iL M av f vs H K' (zZ ps tm D up Z):=by
 cases bO with
 | false =>
  obtain ⟨v,H',h1,h2⟩:=(show C3 M g f vs H K from h)
  exact ⟨_,H',h1,hk _ _ h2⟩
 | true =>
  obtain ⟨e,H',h1,h2⟩:=(show P3 M g (PX ps (ic L) Q E D) f vs H K from h)
  refine ⟨_,H',h1,?_⟩;cases e with
  | ret v=>exact hk _ _ h2
  | panic c=>exact PX.Dd hp hr h2
theorem Ad.body {Z:bP} (hp:∀ c tm H E',(∀ t v,lk E' t=some v->tm.get t=some v/\lk E t=some v)->Q (.panic c) E' D H->Z (.panic c) ⟨tm,D,up,H⟩) {s:aL} {K:KR} {g:Bool} {L R R0:Env} {tm:T AV} {H:AHeap} (hr:iv E L R tm) (hr0:iv E L R0 tm) (h:Ad M bO s Q E D K g L R H) {KK:St->Prop}
 (hK:∀ L' R' tm' H',(s.eO=true/\L'=L/\tm'=tm \/ ∃ v,s.eO=false/\L'=ie s.dst v L/\tm'=c5 s.dst v tm)->iv E L' R' tm'->iv E L' R0 tm'->K g L' R' H'->KK ⟨tm',D,up,H'⟩) :
 match s.eO with
 | false=>mb tm s.args λ vs=>mf M ctx s.dst s.bG ⟨tm,D,up,H⟩ Z KK vs s.op
 | true=>mb tm s.args λ vs=>G3 s.dst ⟨tm,D,up,H⟩ vs s.op/\KK ⟨tm,D,up,H⟩:=by
 obtain ⟨eO,dst,guard,args,op,ps⟩:=s;obtain ⟨vs,R1,h1,hr1,h⟩:=rP.elim hr h;cases eO with
 | true =>
  refine FR h1 ?_;have h:KX dst E L R1 H K g vs op:=h;cases op with
  | read f =>
   cases dst with
   | none=>exact h.elim
   | some d =>
    have h:Ds g (f vs H) (Mk L E d) (λ g=>K g L R1 H):=h;obtain ⟨⟨v,e1,e2⟩,h⟩:=h;refine ⟨?_,hK L R1 tm H (.inl ⟨rfl,rfl,rfl⟩) hr1 hr0 h⟩;refine bn.intro (m:=av) e1 (bn.intro (m:=av) (a:=v) ?_ rfl);unfold Mk at e2;cases hl:lk L d with
    | some w=>rw [hl] at e2;injection e2 with e2;subst e2;exact hr.l d w hl
    | none=>rw [hl] at e2;exact hr.e d v hl e2
  | _=>exact h.elim
 | false =>
  have put:∀ v H',K g (ie dst v L) R1 H'->KK ⟨c5 dst v tm,D,up,H'⟩:=λ v H' hk=>hK _ R1 _ H' (.inr ⟨v,rfl,rfl,rfl⟩) (hr1.put dst v) (hr0.put dst v) hk;refine FR h1 ?_;have h:pL M bO dst ps Q E D L R1 H K g vs op:=h;cases op with
  | pure f=>simp only [pL] at h;obtain ⟨v,e,h⟩:=B3.elim h;exact bn.intro (m:=av) e (put _ _ h)
  | read f=>simp only [pL] at h;obtain ⟨v,e,h⟩:=B3.elim h;exact bn.intro (m:=av) e (put _ _ h)
  | alloc f=>simp only [pL] at h;simp only [mf];obtain ⟨o,mk,e,h⟩:=gn.elim h;exact fJ.intro (m:=av) e (put _ _ h)
  | eQ f=>simp only [pL] at h;simp only [mf];obtain ⟨v,H',e,h⟩:=gn.elim h;exact fJ.intro (m:=av) e (put _ _ h)
  | eH f=>exact zB.rD hp hr1 h λ v H' hk=>put v H' hk
  | eK =>
   simp only [pL,V3] at h;simp only [mf,Du];split at h
   ·exact zB.rD hp hr1 h λ v H' hk=>put v H' hk
   ·exact zB.rD hp hr1 h λ v H' hk=>put v H' hk
   ·exact h.elim
  | invoke n =>
   simp only [pL,N3] at h;simp only [mf,Ee];split at h
   ·obtain ⟨f,e,h⟩:=B3.elim h;exact bn.intro (m:=av) e (zB.rD hp hr1 h λ v H' hk=>put v H' hk)
   ·exact h.elim
  | recover=>exact False.elim h
  | defer=>exact False.elim h
  | panic =>
   cases bO with
   | false=>exact False.elim h
   | true =>
    have h:dU vs H (PX ps (ic L) Q E D):=h;show dU vs H (zZ ps tm D up Z);unfold dU at h ⊢;split at h
    ·exact PX.Dd hp hr1 h
    ·exact h.elim
def GG (g:Option (Nat × Bool)) (l:List aL):Prop:=∀ s ∈ l,s.guard=g
theorem lR.free {Z:bP} (hp:∀ c tm H E',(∀ t v,lk E' t=some v->tm.get t=some v/\lk E t=some v)->Q (.panic c) E' D H->Z (.panic c) ⟨tm,D,up,H⟩) {K:KR} {g:Bool} {R0:Env} {rest:List aL} (hK:∀ L R tm H,iv E L R tm->iv E L R0 tm->K g L R H->nu M ctx rest ⟨tm,D,up,H⟩ Z) :
 ∀ {l:List aL} {L R:Env} {tm:T AV} {H:AHeap},GG none l->iv E L R tm->iv E L R0 tm->lR M bO Q E D K l g L R H->nu M ctx (l++rest) ⟨tm,D,up,H⟩ Z
 | [],L,R,tm,H,_,hr,hr0,h=>hK _ _ _ _ hr hr0 h
 | s::l,L,R,tm,H,hg,hr,hr0,h=>by
  rw [Ep,PJ];have hs:s.guard=none:=hg s (vv ..);have:=Ad.body hp (ctx:=ctx) (up:=up) (KK:=λ st'=>nu M ctx (l++rest) st' Z) hr hr0 (show Ad M bO s Q E D (lR M bO Q E D K l) g L R H from h)
   λ L' R' tm' H' _ q1 q2 q3=>lR.free hp hK (λ x hx=>hg x (yx _ hx)) q1 q2 q3
  obtain ⟨eO,dst,guard,args,op,ps⟩:=s;subst hs;cases eO<;>exact this
theorem Mp:∀ (n:Nat) (f:List AV->AHeap->Prop) (l:List AV) (H:AHeap),l.length=n->lQ n (mO n f) l H=f l H
 | 0,f,[],H,_=>rfl
 | n+1,f,v::l,H,h=>Mp n (λ l=>f (v::l)) l H (by simpa using h)
 | 0,f,_::_,H,h=>by cases h
 | n+1,f,[],H,h=>by cases h
theorem zG {α:Type} (l:List α):bL l=l.length:=by
 induction l with
 | nil=>rfl
 | cons x l ih=>show bL l+1=_;rw [ih];rfl
theorem q2p:∀ (ks:List Nat) (L:Env) (vs:List AV),vs.length=ks.length->my ks.length (gZ ks L vs)=vs
 | [],L,[],_=>rfl
 | k::ks,L,v::vs,h=>by
  show v::my ks.length (gZ ks L vs)=_;rw [q2p ks L vs (by simpa using h)]
 | [],L,_::_,h=>by cases h
 | _::_,L,[],h=>by cases h
theorem q7s:∀ n,(m8 n).length=n
 | 0=>rfl
 | n+1=>by show (m8 n).length+1=_;rw [q7s n]
theorem lR.under {Z:bP} (hp:∀ c tm H E',(∀ t v,lk E' t=some v->tm.get t=some v/\lk E t=some v)->Q (.panic c) E' D H->Z (.panic c) ⟨tm,D,up,H⟩) {K:KR} {g:Bool} {R0:Env} {rest:List aL} {t:Nat} {b:Bool} {v:AV} (hw:cB b (some v)=some true) {kf:List Nat} {L0:Env} (hK:∀ vs R tm H,vs.length=kf.length->iv E (gZ kf L0 vs) R tm->iv E (gZ kf L0 vs) R0 tm->K g (gZ kf L0 vs) R H->nu M ctx rest ⟨tm,D,up,H⟩ Z) :
 ∀ {l:List aL} {acc:List Nat} {us:List AV} {L R:Env} {tm:T AV} {H:AHeap},aS l acc=kf->us.length=acc.length->L=gZ acc L0 us->GG (some (t,b)) l->pS t l=true->tm.get t=some v->iv E L R tm->iv E L R0 tm->lR M bO Q E D K l g L R H->nu M ctx (l++rest) ⟨tm,D,up,H⟩ Z
 | [],acc,us,L,R,tm,H,e1,e2,e3,_,_,_,hr,hr0,h=>by
  have e1:acc=kf:=e1;subst e1;subst e3;exact hK _ _ _ _ e2 hr hr0 h
 | s::l,acc,us,L,R,tm,H,e1,e2,e3,hg,ho,ht,hr,hr0,h=>by
  rw [Ep,PJ];have hs:s.guard=some (t,b):=hg s (vv ..);have ho:cond (DU s.dst t) false (cond s.eO (cond s.dst.isSome (pS t l) false) (pS t l))=true:=ho;have hd:DU s.dst t=false:=by cases q:DU s.dst t with
   | true=>rw [q] at ho;cases ho
   | false=>rfl
  rw [hd,za] at ho;have ho':pS t l=true:=by
   cases hc:s.eO with
   | false=>rw [hc] at ho;exact ho
   | true=>rw [hc] at ho;cases hd:s.dst.isSome with
    | true=>rw [hd] at ho;exact ho
    | false=>rw [hd] at ho;cases ho
  have:=Ad.body hp (ctx:=ctx) (up:=up) (KK:=λ st'=>nu M ctx (l++rest) st' Z) hr hr0 (show Ad M bO s Q E D (lR M bO Q E D K l) g L R H from h)
   λ L' R' tm' H' hq q1 q2 q3=>by
    have e1:aS l (cond s.eO acc (Option.rec (motive:=λ _=>List Nat) acc (λ d=>d::acc) s.dst))=kf:=e1;obtain ⟨us',e2',e3'⟩:∃ us',us'.length=(cond s.eO acc (Option.rec (motive:=λ _=>List Nat) acc (λ d=>d::acc) s.dst)).length/\L'=gZ (cond s.eO acc (Option.rec (motive:=λ _=>List Nat) acc (λ d=>d::acc) s.dst)) L0 us':=by
     rcases hq with ⟨hc,rfl,_⟩|⟨w,hc,rfl,_⟩
     ·rw [hc];exact ⟨us,e2,e3⟩
     ·rw [hc];cases s.dst with
      | none=>exact ⟨us,e2,e3⟩
      | some d=>exact ⟨w::us,by simpa using e2,by rw [e3];rfl⟩
    exact lR.under hp hw hK e1 e2' e3' (λ x hx=>hg x (yx _ hx)) ho' (by
     rcases hq with ⟨_,_,rfl⟩|⟨w,_,_,rfl⟩
     ·exact ht
     ·cases hdd:s.dst with
      | none=>exact ht
      | some d =>
       rw [hdd] at hd;show (tm.set d w).get t=_;rw [T.aE,qg (Jv hd)];exact ht) q1 q2 q3
  obtain ⟨eO,dst,guard,args,op,ps⟩:=s;subst hs;have e:cB b (tm.get t)=some true:=by rw [ht];exact hw
  cases eO with
  | false=>exact bn.intro (m:=av) e this
  | true=>exact bn.intro (m:=av) e this
theorem lR.over {Z:bP} {R0:Env} {rest:List aL} {t:Nat} {b:Bool} {v:AV} (hw:cB b (some v)=some false) {kf:List Nat} {L0:Env} {H:AHeap} (hK:∀ tm,iv E (gZ kf L0 (m8 kf.length)) R0 tm->nu M ctx rest ⟨tm,D,up,H⟩ Z) :
 ∀ {l:List aL} {acc:List Nat} {tm:T AV},aS l acc=kf->GG (some (t,b)) l->pS t l=true->tm.get t=some v->iv E (gZ acc L0 (m8 acc.length)) R0 tm->nu M ctx (l++rest) ⟨tm,D,up,H⟩ Z
 | [],acc,tm,e1,_,_,_,hr0=>by
  have e1:acc=kf:=e1;subst e1;exact hK _ hr0
 | s::l,acc,tm,e1,hg,ho,ht,hr0=>by
  rw [Ep,PJ];have hs:s.guard=some (t,b):=hg s (vv ..);have ho:cond (DU s.dst t) false (cond s.eO (cond s.dst.isSome (pS t l) false) (pS t l))=true:=ho;have hd:DU s.dst t=false:=by cases q:DU s.dst t with
   | true=>rw [q] at ho;cases ho
   | false=>rfl
  rw [hd,za] at ho;have e:cB b (tm.get t)=some false:=by rw [ht];exact hw
  have hg':GG (some (t,b)) l:=λ x hx=>hg x (yx _ hx);have e1:aS l (cond s.eO acc (Option.rec (motive:=λ _=>List Nat) acc (λ d=>d::acc) s.dst))=kf:=e1;cases hc:s.eO with
  | true =>
   rw [hc] at ho e1;cases hds:s.dst.isSome with
   | false=>rw [hds] at ho;cases ho
   | true =>
    rw [hds] at ho;have:=lR.over hw hK e1 hg' ho ht hr0;obtain ⟨eO,dst,guard,args,op,ps⟩:=s;subst hs;subst hc;exact bn.intro (m:=av) e ⟨hds,this⟩
  | false =>
   rw [hc] at ho e1;have:=lR.over hw hK (tm:=c5 s.dst .undef tm) e1 hg' ho (by
    cases hdd:s.dst with
     | none=>exact ht
     | some d =>
      rw [hdd] at hd;show (tm.set d _).get t=_;rw [T.aE,qg (Jv hd)];exact ht) (by
    have:=hr0.put s.dst .undef;cases hdd:s.dst with
     | none=>rw [hdd] at this;exact this
     | some d=>rw [hdd] at this;exact this)
   obtain ⟨eO,dst,guard,args,op,ps⟩:=s;subst hs;subst hc;exact bn.intro (m:=av) e this
theorem wT {a b:Option (Nat × Bool)} (h:nO a b=true):a=b:=by
 cases a with
 | none=>cases b with
  | none=>rfl
  | some _=>cases h
 | some p=>cases b with
  | none=>cases h
  | some q =>
   obtain ⟨t,x⟩:=p;obtain ⟨u,y⟩:=q;have h:cond (Nat.beq t u) (cond x y (!y)) false=true:=h;cases hb:Nat.beq t u with
   | false=>rw [hb] at h;cases h
   | true =>
    rw [hb] at h;rw [yk hb];cases x<;>cases y<;>first|rfl|cases h
theorem yT:∀ (l:List aL),(Dp l).flatMap (·.2)=l /\ ∀ x ∈ Dp l,GG x.1 x.2
 | []=>⟨rfl,λ x hx=>by cases hx⟩
 | s::l=>by
  obtain ⟨h1,h2⟩:=yT l;have e:Dp (s::l)=List.casesOn (motive:=λ _=>List Ao) (Dp l) [(s.guard,[s])] λ g r=>cond (nO g.1 s.guard) ((g.1,s::g.2)::r) ((s.guard,[s])::g::r):=rfl;rw [e];cases hg:Dp l with
  | nil =>
   rw [hg] at h1;exact ⟨by simpa using h1,λ x hx=>by simp at hx;subst hx;intro y hy;simp at hy;subst hy;rfl⟩
  | cons g r =>
   rw [hg] at h1 h2;show (cond (nO g.1 s.guard) ((g.1,s::g.2)::r) ((s.guard,[s])::g::r)).flatMap _=_ /\ ∀ x ∈ cond (nO g.1 s.guard) ((g.1,s::g.2)::r) ((s.guard,[s])::g::r),_;cases hs:nO g.1 s.guard with
   | true =>
    refine ⟨by simpa using h1,λ x hx=>?_⟩;rcases zr.1 hx with rfl|hx
    ·intro y hy;rcases zr.1 hy with rfl|hy
     ·exact (wT hs).symm
     ·exact h2 g (vv ..) y hy
    ·exact h2 x (yx _ hx)
   | false =>
    refine ⟨by simpa using h1,λ x hx=>?_⟩;rcases zr.1 hx with rfl|hx
    ·intro y hy;simp at hy;subst hy;rfl
    ·exact h2 x hx
theorem rU.G4 {Z:bP} (hp:∀ c tm H E',(∀ t v,lk E' t=some v->tm.get t=some v/\lk E t=some v)->Q (.panic c) E' D H->Z (.panic c) ⟨tm,D,up,H⟩) {K:KR} {g:Bool} (hK:∀ L R tm H,iv E L R tm->K g L R H->Z .normal ⟨tm,D,up,H⟩):∀ {gs:List Ao} {L R:Env} {tm:T AV} {H:AHeap},(∀ x ∈ gs,GG x.1 x.2)->iv E L R tm->rU M bO Q E D K gs g L R H ->
 nu M ctx (gs.flatMap (·.2)) ⟨tm,D,up,H⟩ Z
 | [],L,R,tm,H,_,hr,h=>hK _ _ _ _ hr h
 | x::gs,L,R,tm,H,hg,hr,h=>by
  rw [zx];have ih:∀ L R tm H,iv E L R tm->rU M bO Q E D K gs g L R H->nu M ctx (gs.flatMap (·.2)) ⟨tm,D,up,H⟩ Z:=λ L R tm H hr h=>rU.G4 hp hK (λ x hx=>hg x (yx _ hx)) hr h;have hx:=hg x (vv ..);obtain ⟨q,l⟩:=x;cases q with
  | none=>exact lR.free hp (R0:=R) (λ L R tm H q1 _ q2=>ih L R tm H q1 q2) hx hr hr (show lR M bO Q E D (rU M bO Q E D K gs) l g L R H from h)
  | some q =>
   obtain ⟨t,b⟩:=q;cases ho:pS t l with
   | false =>
    have h:cond (pS t l) _ False:=h;rw [ho] at h;exact h.elim
   | true =>
    have h:cond (pS t l) _ False:=h;rw [ho,xf] at h;obtain ⟨v,R1,ht,hr1,h⟩:=TV.elim hr h;have kl:bL (aS l [])=(aS l []).length:=zG _;have h:B3 g (cB b (some v)) λ g w=>sS g w (λ g=>lR M bO Q E D (λ g L' _ H=>lQ (bL (aS l [])) (mO (bL (aS l [])) λ vs H=>rU M bO Q E D K gs g (gZ (aS l []) L vs) R1 H) (my (bL (aS l [])) L') H) l g L R1 H)
     (λ g=>lQ (bL (aS l [])) (mO (bL (aS l [])) λ vs H=>rU M bO Q E D K gs g (gZ (aS l []) L vs) R1 H) (m8 (bL (aS l []))) H):=h
    obtain ⟨w,hw,h⟩:=B3.elim h;cases w with
    | true =>
     refine lR.under hp (R0:=R1) hw (kf:=aS l []) (L0:=L) (λ vs R tm H q q1 q0 q2=>?_) (acc:=[]) (us:=[]) rfl rfl rfl hx ho ht hr1 hr1 h;rw [kl,q2p _ _ _ q,Mp _ _ _ _ q] at q2;exact ih _ R1 tm H q0 q2
    | false =>
     have h:lQ (bL (aS l [])) (mO (bL (aS l [])) λ vs H=>rU M bO Q E D K gs g (gZ (aS l []) L vs) R1 H) (m8 (bL (aS l []))) H:=h;rw [kl,Mp _ _ _ _ (q7s _)] at h;exact lR.over hw (kf:=aS l []) (L0:=L) (λ tm hq=>ih _ R1 tm H hq h) (acc:=[]) rfl hx ho ht hr1
theorem mS.G4 {Z:bP} (hp:∀ c tm H E',(∀ t v,lk E' t=some v->tm.get t=some v/\lk E t=some v)->Q (.panic c) E' D H->Z (.panic c) ⟨tm,D,up,H⟩) {l:List aL} {g:Bool} {H:AHeap} {K:KR} {tm:T AV} {ks:List Nat} (he:dP ks E tm) (h:mS M bO Q E D l g H K) (hK:∀ L R tm H,iv E L R tm->K g L R H->Z .normal ⟨tm,D,up,H⟩):nu M ctx l ⟨tm,D,up,H⟩ Z:=by
 obtain ⟨h1,h2⟩:=yT l;have:=rU.G4 hp (ctx:=ctx) hK h2 (iv.first he) h
 rwa [h1] at this
end
end
end Go.Am
namespace Go.Am
noncomputable section
variable {M:aA} {ctx:Ctx} {K:Kp}
theorem Ma (ks:List Nat) (E:Env):∀ (L:Env) (t:Nat) (v:AV),aV t ks=true->lk (cz ks E L) t=some v->lk L t=some v\/lk L t=none/\lk E t=some v
 | [],t,v,_,h=>.inr ⟨rfl,h⟩
 | (k,w)::r,t,v,ht,h=>by
  have h:lk (cond (aV k ks) ((k,w)::cz ks E r) (cz ks E r)) t=some v:=h;rw [qE];cases hm:aV k ks with
  | true =>
   rw [hm,xf,qE] at h;split at h
   ·rename_i e;rw [ql e];exact .inl h
   ·rename_i e;rw [qg e];exact Ma ks E r t v ht h
  | false =>
   rw [hm,za] at h
   by_cases e:k=t
   ·subst e;rw [hm] at ht;cases ht
   ·rw [qg e];exact Ma ks E r t v ht h
theorem NF (ks:List Nat) (E:Env) (hE:∀ t v,lk E t=some v->aV t ks=true):∀ (L:Env) (t:Nat) (v:AV),lk (cz ks E L) t=some v->aV t ks=true
 | [],t,v,h=>hE t v h
 | (k,w)::r,t,v,h=>by
  have h:lk (cond (aV k ks) ((k,w)::cz ks E r) (cz ks E r)) t=some v:=h;cases hm:aV k ks with
  | true =>
   rw [hm,xf,qE] at h;split at h
   ·rename_i e;subst e;exact hm
   ·exact NF ks E hE r t v h
  | false=>rw [hm,za] at h;exact NF ks E hE r t v h
theorem iv.ah {E L R:Env} {tm:T AV} (h:iv E L R tm) {ks:List Nat} (hE:∀ t v,lk E t=some v->aV t ks=true):dP ks (cz ks E L) tm:=λ t v hv=>by
 have hm:=NF ks E hE L t v hv;refine ⟨?_,hm⟩;rcases Ma ks E L t v hm hv with q|⟨q1,q2⟩
 ·exact h.l t v q
 ·exact h.e t v q1 q2
theorem dP.keys {ks:List Nat} {E:Env} {tm:T AV} (h:dP ks E tm):∀ t v,lk E t=some v->aV t ks=true:=λ t v hv=>(h t v hv).2
theorem dP.bO {ks:List Nat} {E E':Env} {tm tm':T AV} (h:dP ks E tm) (h':∀ t v,lk E' t=some v->tm'.get t=some v/\lk E t=some v):dP ks E' tm':=λ t v hv=>⟨(h' t v hv).1,(h t v (h' t v hv).2).2⟩
theorem TV.cv {E L R:Env} {x:ba} {g:Bool} {P:Bool->AV->Prop} {tm:T AV} (hr:iv E L R tm) (h:CV E L R x g P):∃ v,mY tm x=some v/\P g v:=by
 cases x with
 | tmp t=>obtain ⟨v,_,h1,_,h2⟩:=TV.elim hr (show TV E L R t g (λ g _ v=>P g v) from h);exact ⟨v,h1,h2⟩
 | const v=>exact ⟨v,rfl,h⟩
 | cU v=>exact ⟨_,rfl,h⟩
 | func v=>exact ⟨_,rfl,h⟩
theorem OV.elim {ks:List Nat} {E:Env} {x:ba} {g:Bool} {P:Bool->AV->Prop} {tm:T AV} (hr:dP ks E tm) (h:OV E x g P):∃ v,mY tm x=some v/\P g v:=by
 cases x with
 | tmp t=>obtain ⟨v,h1,h2⟩:=LK.elim (show LK g (lk E t) P from h);exact ⟨v,(hr t v h1).1,h2⟩
 | const v=>exact ⟨v,rfl,h⟩
 | cU v=>exact ⟨_,rfl,h⟩
 | func v=>exact ⟨_,rfl,h⟩
theorem qxs {tm:T AV} {x:ba} {v:AV} {P:AV->Prop} (h:mY tm x=some v) (hp:P v):zY tm x P:=by
 cases x with
 | tmp t=>exact bn.intro (m:=av) h hp
 | const c=>injection h with h;subst h;exact hp
 | cU c=>injection h with h;subst h;exact hp
 | func c=>injection h with h;subst h;exact hp
theorem i9.wp {a b:aj} {g:Bool} {v:AV} {A B:Bool->Prop} {tm:T AV} {c:ba} {st:St} {Q:bP} (hv:mY st.tm c=some v) (h:i9 g v A B) (ha:A g->WP M ctx a st Q) (hb:B g->WP M ctx b st Q):WP M ctx (.cond c a b) st Q:=by
 obtain ⟨q,rfl,h⟩:=h.elim;refine qxs hv ?_;cases q with
 | true=>exact ha h
 | false=>exact hb h
def dA:aj->Nat
 | .seq a b=>dA a+dA b+1
 | .cond _ a b=>dA a+dA b+1
 | .block _ b=>dA b+1
 | .loop _ b=>dA b+1
 | .scope b=>dA b+1
 | _=>0
theorem W3.wp:∀ (n:Nat) (c:aj),dA c<=n -> ∀ {g:Bool} {Q:au} {E:Env} {D:List aD} {H:AHeap} {tm:T AV} {up:Option aw},W3 M ctx K c g Q E D H->dP K.ah E tm->WP M ctx c ⟨tm,D,up,H⟩ (QQ K.ah Q up):=by
 intro n
 induction n with
 | zero =>
  intro c hc g Q E D H tm up h he;cases c with
  | skip=>exact ⟨rfl,E,he,h⟩
  | label _=>exact ⟨rfl,E,he,h⟩
  | exit _=>exact ⟨rfl,E,he,h⟩
  | goto _=>exact ⟨rfl,E,he,h⟩
  | ret=>exact ⟨rfl,E,he,h⟩
  | stuck=>exact False.elim h
  | region l=>exact mS.G4 (λ c tm' H' E' h1 h2=>⟨rfl,E',he.bO h1,h2⟩) he (show mS M K.bO Q E D l g H _ from h) λ L R tm H hr hk=>⟨rfl,_,hr.ah he.keys,hk⟩
  | rangeFunc f k =>
   obtain ⟨v,hv,h⟩:=OV.elim he (show OV E f g _ from h);exact qxs hv (by
    have:=h tm up he;unfold C7 at this ⊢;split
    ·rename_i hr;rw [hr] at this;exact FF this λ e st ⟨h1,h2,h3⟩=>⟨h1,E,by rw [h2];exact he,h3⟩
    ·rename_i l hr;rw [hr] at this;exact Aj (m:=av) this λ d q=>FF q λ e st ⟨h1,h2,h3⟩=>⟨h1,E,by rw [h2];exact he,h3⟩)
  | seq _ _=>simp [dA] at hc
  | cond _ _ _=>simp [dA] at hc
  | block _ _=>simp [dA] at hc
  | loop _ _=>simp [dA] at hc
  | scope _=>simp [dA] at hc
 | succ n ih =>
  intro c hc g Q E D H tm up h he;have seqq:∀ {a b:aj} {tm:T AV} {H:AHeap},dA b<=n->WP M ctx a ⟨tm,D,up,H⟩ (QQ K.ah (cT (W3 M ctx K b) Q) up)->WP M ctx a ⟨tm,D,up,H⟩ (PE (WP M ctx b) (QQ K.ah Q up)):=λ {a b tm H} hb h=>nI h λ e st ⟨h1,E',h2,h3⟩=>by
   obtain ⟨tm',D',up',H'⟩:=st;subst h1;cases e with
   | normal=>exact ih b hb h3 h2
   | exit _=>exact ⟨rfl,E',h2,h3⟩
   | goto _=>exact ⟨rfl,E',h2,h3⟩
   | ret=>exact ⟨rfl,E',h2,h3⟩
   | panic _=>exact ⟨rfl,E',h2,h3⟩
  have cnd:∀ {c:ba} {x y:aj} {E:Env} {tm:T AV} {v:AV} {g:Bool} {Q:au} {H:AHeap},dA x<=n->dA y<=n->mY tm c=some v->dP K.ah E tm->i9 g v (λ g=>W3 M ctx K x g Q E D H) (λ g=>W3 M ctx K y g Q E D H)->WP M ctx (.cond c x y) ⟨tm,D,up,H⟩ (QQ K.ah Q up) :=
   λ {c x y E tm v g Q H} hx hy hv he h=>i9.wp (tm:=tm) (st:=⟨tm,D,up,H⟩) hv h (λ h=>ih x hx h he) (λ h=>ih y hy h he)
  cases c with
  | seq a b =>
   have hab:dA a+dA b<=n:=by simp only [dA] at hc;omega
   have gen:W3 M ctx K a g (cT (W3 M ctx K b) Q) E D H->WP M ctx (.seq a b) ⟨tm,D,up,H⟩ (QQ K.ah Q up):=λ h=>seqq (a:=a) (b:=b) (by omega) (ih a (by omega) h he);have reg:∀ (l:List aL) (KF:KR),a=.region l->mS M K.bO Q E D l g H KF->(∀ L R tm H,iv E L R tm->KF g L R H->WP M ctx b ⟨tm,D,up,H⟩ (QQ K.ah Q up))->WP M ctx (.seq a b) ⟨tm,D,up,H⟩ (QQ K.ah Q up):=λ l KF e h' hk=>by
    subst e;exact mS.G4 (Z:=PE (WP M ctx b) (QQ K.ah Q up)) (λ c tm' H' E' h1 h2=>⟨rfl,E',he.bO h1,h2⟩) he h' hk
   cases a with
   | region l =>
    have plain:(mS M K.bO Q E D l g H λ g L _ H=>W3 M ctx K b g Q (cz K.ah E L) D H)->WP M ctx (.seq (.region l) b) ⟨tm,D,up,H⟩ (QQ K.ah Q up):=λ h=>reg l _ rfl h λ L R tm H hr hk=>ih b (by omega) hk (hr.ah he.keys);cases b with
    | cond c x y =>
     have hxy:dA x+dA y+1<=n:=by simp only [dA] at hab;omega
     refine reg l _ rfl h λ L R tm H hr hk=>?_;obtain ⟨v,hv,hk⟩:=TV.cv hr hk;exact cnd (by omega) (by omega) hv (hr.ah he.keys) hk
    | seq b1 r =>
     cases b1 with
     | cond c x y =>
      have hxy:dA x+dA y+1+dA r+1<=n:=by simp only [dA] at hab;omega
      refine reg l _ rfl h λ L R tm H hr hk=>?_;obtain ⟨v,hv,hk⟩:=TV.cv hr hk;exact seqq (by omega) (cnd (by omega) (by omega) hv (hr.ah he.keys) hk)
     | _=>exact plain h
    | _=>exact plain h
   | _=>exact gen h
  | cond c x y =>
   have hab:dA x+dA y<=n:=by simp only [dA] at hc;omega
   obtain ⟨v,hv,h⟩:=OV.elim he (show OV E c g _ from h);exact cnd (by omega) (by omega) hv he h
  | block id b =>
   have hb:dA b<=n:=by simp only [dA] at hc;omega
   exact nI (c:=b) (ih b hb (show W3 M ctx K b g (cw id Q) E D H from h) he) λ e st ⟨h1,E',h2,h3⟩=>by cases e<;>exact ⟨h1,E',h2,h3⟩
  | scope b =>
   have hb:dA b<=n:=by simp only [dA] at hc;omega
   refine nI (c:=b) (ih b hb (show W3 M ctx K b g (kQ b Q) E D H from h) he) λ e st ⟨h1,E',h2,h3⟩=>?_;cases e with
   | goto l=>exact ⟨h3.1,h1,E',h2,h3.2⟩
   | normal=>exact ⟨h1,E',h2,h3⟩
   | exit _=>exact ⟨h1,E',h2,h3⟩
   | ret=>exact ⟨h1,E',h2,h3⟩
   | panic _=>exact ⟨h1,E',h2,h3⟩
  | loop ah b =>
   have hb:dA b<=n:=by simp only [dA] at hc;omega
   cases ah with
   | some _=>exact False.elim h
   | none =>
    obtain ⟨I,⟨n0,E0,h0,hs⟩,hstep⟩:=(show aR (W3 M ctx K b) Q E D H from h)
    refine ⟨λ n st=>st.up=up /\ ∃ E',dP K.ah E' st.tm/\I n E' st.aM st.H,⟨n0,rfl,E0,hs.sub he,h0⟩,λ n st ⟨h1,E',h2,h3⟩=>?_⟩;obtain ⟨tm',D',up',H'⟩:=st;subst h1;refine nI (c:=b) (ih b hb (hstep n E' D' H' h3) h2) λ e st ⟨k1,E2,k2,k3⟩=>?_;cases e with
    | normal=>obtain ⟨m,E3,q1,q2,q3⟩:=k3;exact ⟨m,q3,k1,E3,q2.sub k2,q1⟩
    | exit _=>exact ⟨k1,E2,k2,k3⟩
    | goto _=>exact ⟨k1,E2,k2,k3⟩
    | ret=>exact ⟨k1,E2,k2,k3⟩
    | panic _=>exact ⟨k1,E2,k2,k3⟩
  | skip=>exact ⟨rfl,E,he,h⟩
  | label _=>exact ⟨rfl,E,he,h⟩
  | exit _=>exact ⟨rfl,E,he,h⟩
  | goto _=>exact ⟨rfl,E,he,h⟩
  | ret=>exact ⟨rfl,E,he,h⟩
  | stuck=>exact False.elim h
  | region l=>exact ih _ (xx _) h he
  | rangeFunc f k=>exact ih _ (xx _) h he
def dF (E:Env) (H:AHeap):List cu->(List AV->Prop)->Prop
 | [],P=>P []
 | .tmp t::rs,P=>LK true (lk E t) λ _ v=>dF E H rs λ vs=>P (v::vs)
 | .gf a::rs,P=>LK true (lk E a) λ _ v=>B3 true (Op.ae [v] H) λ _ v=>dF E H rs λ vs=>P (v::vs)
 | .dB n a::rs,P=>LK true (lk E a) λ _ v=>B3 true (Op.aG n [v] H) λ _ v=>dF E H rs λ vs=>P (v::vs)
def lP (M:aA) (rs:List cu) (E:Env) (Q:bg->AHeap->Prop):List aD->Option aw->AHeap->Prop
 | [],none,H=>dF E H rs λ l=>Q (.ret (dq l)) H
 | [],some c,H=>Q (.panic c) H
 | .fT b::ds,m,H=>H.get b=some (.deferred (some []))/\lP M rs E Q ds m (H.set b (.deferred none))
 | .fn (.func f) args::ds,m,H=>∃ v up' H',oV M f args (some (m.getD [])) H (.ret v) (some up') H'/\bn av (jU m up') λ m'=>lP M rs E Q ds m' H'
 | .fn (.yield _) _::_,_,_=>False
theorem dF.elim {ks:List Nat} {E:Env} {tm:T AV} (he:dP ks E tm) {H:AHeap}:∀ {rs:List cu} {P:List AV->Prop},dF E H rs P -> ∃ l,cG H tm rs=some l/\P l
 | [],P,h=>⟨[],rfl,h⟩
 | .tmp t::rs,P,h=>by
  obtain ⟨v,h1,h⟩:=LK.elim (show LK true (lk E t) _ from h);obtain ⟨l,h2,h⟩:=dF.elim he h;exact ⟨v::l,by rw [Bo,(he t v h1).1,h2];rfl,h⟩
 | .gf t::rs,P,h=>by
  obtain ⟨v,h1,h⟩:=LK.elim (show LK true (lk E t) _ from h);obtain ⟨w,h2,h⟩:=B3.elim h;obtain ⟨l,h3,h⟩:=dF.elim he h;exact ⟨w::l,by rw [q66,(he t v h1).1,qj,h2,qj,h3];rfl,h⟩
 | .dB n t::rs,P,h=>by
  obtain ⟨v,h1,h⟩:=LK.elim (show LK true (lk E t) _ from h);obtain ⟨w,h2,h⟩:=B3.elim h;obtain ⟨l,h3,h⟩:=dF.elim he h;exact ⟨w::l,by rw [q67,(he t v h1).1,qj,h2,qj,h3];rfl,h⟩
theorem lP.MQ {ks:List Nat} {E:Env} {tm:T AV} (he:dP ks E tm) {rs:List cu} {Q:bg->AHeap->Prop}:∀ {D:List aD} {m:Option aw} {H:AHeap},lP M rs E Q D m H->tc M rs tm Q D m H
 | [],none,H,h=>by obtain ⟨l,h1,h2⟩:=dF.elim he h;exact bn.intro (m:=av) h1 h2
 | [],some c,H,h=>h
 | .fT b::ds,m,H,⟨h1,h2⟩=>⟨h1,lP.MQ he h2⟩
 | .fn (.func f) args::ds,m,H,⟨v,up',H',h1,h2⟩=>⟨v,up',H',h1,Aj h2 λ m' h=>lP.MQ he h⟩
 | .fn (.yield _) _::_,_,_,h=>h
def c6 (M:aA) (rs:List cu) (Q:bg->AHeap->Prop):au:=λ e E D H=>match e with
 | .normal=>lP M rs E Q D none H
 | .ret=>lP M rs E Q D none H
 | .panic c=>lP M rs E Q D (some c) H
 | _=>False
def FO (M:aA) (f:Nat) (vs:List AV) (H:AHeap) (Q:bg->AHeap->Prop):Prop:=∃ e H',kB M f vs H e H'/\Q e H'
def kO (Q:AV->AHeap->Prop) (e:bg) (H:AHeap):Prop:=match e with
 | .ret v=>Q v H
 | .panic _=>False
def zq (M:aA) (f:Nat) (vs:List AV) (H:AHeap) (Q:AV->AHeap->Prop):Prop:=FO M f vs H (kO Q)
theorem zq.elim {f:Nat} {vs:List AV} {H:AHeap} {Q:AV->AHeap->Prop} (h:zq M f vs H Q):∃ v H',kB M f vs H (.ret v) H'/\Q v H':=by
 obtain ⟨e,H',h1,h2⟩:=h;cases e with
 | ret v=>exact ⟨v,H',h1,h2⟩
 | panic _=>exact h2.elim
theorem zq.intro {f:Nat} {vs:List AV} {H:AHeap} {Q:AV->AHeap->Prop} {v:AV} {H':AHeap} (h:kB M f vs H (.ret v) H') (hq:Q v H'):zq M f vs H Q:=⟨_,H',h,hq⟩
theorem zq.mono {f:Nat} {vs:List AV} {H:AHeap} {Q Q':AV->AHeap->Prop} (h:zq M f vs H Q) (hq:∀ v H',Q v H'->Q' v H'):zq M f vs H Q':=by
 obtain ⟨v,H',h1,h2⟩:=h.elim;exact ⟨_,H',h1,hq _ _ h2⟩
theorem C3.q {m:Bool} {f:Nat} {vs:List AV} {H:AHeap} {R:AV->AHeap->Prop} {P:Bool->AV->AHeap->Prop} (h:zq M f vs H R) (hk:∀ v H',R v H'->P m v H'):C3 M m (.func f) vs H P:=by
 obtain ⟨v,H',h1,h2⟩:=h.elim;exact ⟨v,H',h1,hk v H' h2⟩
theorem C3.ret {m:Bool} {f:Nat} {vs:List AV} {H:AHeap} {P:Bool->AV->AHeap->Prop} {v:AV} {H':AHeap} (h:kB M f vs H (.ret v) H') (hk:P m v H'):C3 M m (.func f) vs H P:=⟨v,H',h,hk⟩
theorem C3.B9 {m:Bool} {l:Nat} {vs:List AV} {H:AHeap} {P:Bool->AV->AHeap->Prop} {v:AV} {H':AHeap} (h:nN M l vs H (.ret v) H') (hk:P m v H'):C3 M m (.yield l) vs H P:=⟨v,H',h,hk⟩
theorem P3.q {m:Bool} {X:aw->AHeap->Prop} {f:Nat} {vs:List AV} {H:AHeap} {R:bg->AHeap->Prop} {P:Bool->AV->AHeap->Prop} (h:FO M f vs H R) (hk:∀ v H',R (.ret v) H'->P m v H') (hx:∀ c H',R (.panic c) H'->X c H'):P3 M m X (.func f) vs H P:=by
 obtain ⟨e,H',h1,h2⟩:=h;refine ⟨e,H',h1,?_⟩;cases e with
 | ret v=>exact hk _ _ h2
 | panic c=>exact hx _ _ h2
def kR:Nat->List AV->Env
 | _,[]=>[]
 | i,v::vs=>(i,v)::kR (i+1) vs
def kG:Nat->Nat->List Nat->Bool
 | _,0,_=>true
 | i,n+1,ks=>aV i ks && kG (i+1) n ks
theorem qut:∀ (vs:List AV) (i t:Nat) (tm:T AV),(gg i vs tm).get t=if i<=t then (match vs[t-i]? with|some v=>some v|none=>tm.get t) else tm.get t
 | [],i,t,tm=>by simp [gg]
 | v::vs,i,t,tm=>by
  rw [gg,qut vs (i+1) t,T.aE]
  by_cases h:i=t
  ·subst h;simp;intro h;omega
  ·by_cases h2:i<=t
   ·have e:t-i=(t-(i+1))+1:=by omega
    rw [ql (show i+1<=t by omega),ql h2,qg h,e,zk]
   ·rw [qg (by omega),qg h2,qg h]
theorem q6c:∀ (vs:List AV) (i t:Nat) (v:AV),lk (kR i vs) t=some v->i<=t/\vs[t-i]? = some v
 | [],i,t,v,h=>by cases h
 | w::vs,i,t,v,h=>by
  rw [kR,qE] at h;split at h
  ·rename_i e;subst e;injection h with h;subst h;simp
  ·obtain ⟨h1,h2⟩:=q6c vs (i+1) t v h;refine ⟨by omega,?_⟩;have e:t-i=(t-(i+1))+1:=by omega
   rw [e,zk,h2]
theorem qyj:∀ (n i:Nat) (ks:List Nat),kG i n ks=true -> ∀ t,i<=t->t<i+n->aV t ks=true
 | 0,i,ks,_,t,h1,h2=>by omega
 | n+1,i,ks,h,t,h1,h2=>by
  simp only [kG,xh] at h
  by_cases e:i=t
  ·subst e;exact h.1
  ·exact qyj n (i+1) ks h.2 t (by omega) (by omega)
theorem uM {ks:List Nat} {vs:List AV} (h:kG 0 vs.length ks=true):dP ks (kR 0 vs) (gg 0 vs .nil):=λ t v hv=>by
 obtain ⟨_,h2⟩:=q6c vs 0 t v hv;rw [E5] at h2;refine ⟨by rw [qut,ql (xx _),E5,h2],qyj _ 0 ks h t (xx _) ?_⟩;rw [jy];exact (qe.1 h2).1
structure Fn3 where
 n:Nat
 F:cm
 K:Kp
def pre:aj->List aj
 | .seq a b=>.seq a b::gK (pre a) (pre b)
 | .cond c a b=>.cond c a b::gK (pre a) (pre b)
 | .block i b=>.block i b::pre b
 | .loop k b=>.loop k b::pre b
 | .scope b=>.scope b::pre b
 | c=>[c]
def part (c:aj) (k:Nat):aj:=Option.rec (motive:=λ _=>aj) .stuck (λ c=>c) (nth (pre c) k)
def cd:aj->Nat
 | .seq a b=>cd a+cd b+1
 | .cond _ a b=>cd a+cd b+1
 | .block _ b=>cd b+1
 | .loop _ b=>cd b+1
 | .scope b=>cd b+1
 | _=>1
theorem Bk:∀ (c:aj),(pre c).length=cd c
 | .seq a b=>by simp [pre,cd,lG,Bk a,Bk b]
 | .cond _ a b=>by simp [pre,cd,lG,Bk a,Bk b]
 | .block _ b=>by simp [pre,cd,Bk b]
 | .loop _ b=>by simp [pre,cd,Bk b]
 | .scope b=>by simp [pre,cd,Bk b]
 | .skip=>rfl
 | .label _=>rfl
 | .exit _=>rfl
 | .goto _=>rfl
 | .ret=>rfl
 | .stuck=>rfl
 | .region _=>rfl
 | .rangeFunc _ _=>rfl
theorem L9 (c:aj):∃ l,pre c=c::l:=by cases c<;>exact ⟨_,rfl⟩
theorem Nt {α:Type}:∀ (l:List α) (i:Nat),nth l i=l[i]?
 | [],i=>rfl
 | x::l,0=>rfl
 | x::l,i+1=>by rw [zk,<-Nt l i];rfl
theorem E4:∀ (r:aj) (k:Nat) (c:aj),(pre r)[k]? = some c -> ∃ l,(pre r).drop k=pre c++l:=by
 intro r
 induction r with
 | seq a b iha ihb =>
  intro k c h;cases k with
  | zero=>simp [pre] at h;subst h;exact ⟨[],by simp⟩
  | succ k =>
   simp only [pre,lG,zk] at h;simp only [pre,lG,JV]
   by_cases hk:k<(pre a).length
   ·rw [j7 hk] at h;obtain ⟨l,hl⟩:=iha k c h;exact ⟨l++pre b,by rw [kn (by omega),hl,zf]⟩
   ·rw [jg (by omega)] at h;obtain ⟨l,hl⟩:=ihb _ c h;refine ⟨l,?_⟩;rw [yp,jh (by omega),zn,hl]
 | cond x a b iha ihb =>
  intro k c h;cases k with
  | zero=>simp [pre] at h;subst h;exact ⟨[],by simp⟩
  | succ k =>
   simp only [pre,lG,zk] at h;simp only [pre,lG,JV]
   by_cases hk:k<(pre a).length
   ·rw [j7 hk] at h;obtain ⟨l,hl⟩:=iha k c h;exact ⟨l++pre b,by rw [kn (by omega),hl,zf]⟩
   ·rw [jg (by omega)] at h;obtain ⟨l,hl⟩:=ihb _ c h;refine ⟨l,?_⟩;rw [yp,jh (by omega),zn,hl]
 | block i b ih =>
  intro k c h;cases k with
  | zero=>simp [pre] at h;subst h;exact ⟨[],by simp⟩
  | succ k=>simp only [pre,zk] at h;simpa only [pre,JV] using ih k c h
 | loop i b ih =>
  intro k c h;cases k with
  | zero=>simp [pre] at h;subst h;exact ⟨[],by simp⟩
  | succ k=>simp only [pre,zk] at h;simpa only [pre,JV] using ih k c h
 | scope b ih =>
  intro k c h;cases k with
  | zero=>simp [pre] at h;subst h;exact ⟨[],by simp⟩
  | succ k=>simp only [pre,zk] at h;simpa only [pre,JV] using ih k c h
 | _ =>
  intro k c h;cases k with
  | zero=>simp [pre] at h;subst h;exact ⟨[],by simp [pre]⟩
  | succ k=>simp [pre] at h
theorem qyz {r:aj} {k:Nat} {c:aj} (h:(pre r)[k]? = some c):part r k=c:=by
 unfold part;rw [Nt,h]
theorem qyy {r:aj} {k:Nat} {c:aj} (h:part r k=c) (hc:c ≠ .stuck):∀ (j:Nat) (d:aj),(pre c)[j]? = some d->part r (k+j)=d:=λ j d hd=>by
 have h1:(pre r)[k]? = some c:=by
  unfold part at h;rw [Nt] at h;cases hq:(pre r)[k]? with
  | none=>rw [hq] at h;exact (hc h.symm).elim
  | some x=>rw [hq] at h;exact congrArg some h
 obtain ⟨l,hl⟩:=E4 r k c h1;refine qyz ?_;rw [<-kq,hl,j7 (qe.1 hd).1,hd]
theorem vJ (c:aj):(pre c)[0]? = some c:=by obtain ⟨l,h⟩:=L9 c;rw [h];rfl
theorem Cd {r:aj} {k:Nat} {c a b:aj} (h:part r k=c) (hc:c ≠ .stuck) (e:∃ x l,pre c=x::(pre a++l)):part r (k+1)=a:=by
 obtain ⟨x,l,e⟩:=e;obtain ⟨l',e'⟩:=L9 a;exact qyy h hc 1 a (by rw [e,e'];rfl)
theorem F1 {r:aj} {k:Nat} {c a b:aj} (h:part r k=c) (hc:c ≠ .stuck) (e:∃ x,pre c=x::(pre a++pre b)):part r (k+1+cd a)=b:=by
 obtain ⟨x,e⟩:=e;obtain ⟨l',e'⟩:=L9 b;rw [kx];exact qyy h hc (1+cd a) b (by rw [e,Nat.add_comm,zk,jg (by rw [Bk];exact qf _),Bk,Nat.sub_self,e'];rfl)
def U (M:aA) (ctx:Ctx) (K:Kp) (X:Nat->WX):aj->Nat->WX
 | .skip,_,g,Q,E,D,H=>oJ g Q .normal E D H
 | .label _,_,g,Q,E,D,H=>oJ g Q .normal E D H
 | .exit id,_,g,Q,E,D,H=>oJ g Q (.exit id) E D H
 | .goto l,_,g,Q,E,D,H=>oJ g Q (.goto l) E D H
 | .ret,_,g,Q,E,D,H=>oJ g Q .ret E D H
 | .stuck,_,_,_,_,_,_=>False
 | .region l,_,g,Q,E,D,H=>mS M K.bO Q E D l g H λ g L _ H=>oJ g Q .normal (cz K.ah E L) D H
 | .seq a b,k,g,Q,E,D,H=>match a,b with
  | .region l,.cond c x y=>mS M K.bO Q E D l g H λ g L R H=>CV E L R c g λ g v=>i9 g v (λ g=>(Bool.rec (motive:=λ _=>WX) (U M ctx K X x (k+3)) (X (k+3)) (aV (k+3) K.named)) g Q (cz K.ah E L) D H) (λ g=>(Bool.rec (motive:=λ _=>WX) (U M ctx K X y (k+3+cd x)) (X (k+3+cd x)) (aV (k+3+cd x) K.named)) g Q (cz K.ah E L) D H)
  | .region l,.seq (.cond c x y) r=>mS M K.bO Q E D l g H λ g L R H=>CV E L R c g λ g v=>i9 g v (λ g=>(Bool.rec (motive:=λ _=>WX) (U M ctx K X x (k+4)) (X (k+4)) (aV (k+4) K.named)) g (cT (Bool.rec (motive:=λ _=>WX) (U M ctx K X r (k+4+cd x+cd y)) (X (k+4+cd x+cd y)) (aV (k+4+cd x+cd y) K.named)) Q) (cz K.ah E L) D H)
   (λ g=>(Bool.rec (motive:=λ _=>WX) (U M ctx K X y (k+4+cd x)) (X (k+4+cd x)) (aV (k+4+cd x) K.named)) g (cT (Bool.rec (motive:=λ _=>WX) (U M ctx K X r (k+4+cd x+cd y)) (X (k+4+cd x+cd y)) (aV (k+4+cd x+cd y) K.named)) Q) (cz K.ah E L) D H)
  | .region l,b=>mS M K.bO Q E D l g H λ g L _ H=>(Bool.rec (motive:=λ _=>WX) (U M ctx K X b (k+2)) (X (k+2)) (aV (k+2) K.named)) g Q (cz K.ah E L) D H
  | a,b=>(Bool.rec (motive:=λ _=>WX) (U M ctx K X a (k+1)) (X (k+1)) (aV (k+1) K.named)) g (cT (Bool.rec (motive:=λ _=>WX) (U M ctx K X b (k+1+cd a)) (X (k+1+cd a)) (aV (k+1+cd a) K.named)) Q) E D H
 | .cond c x y,k,g,Q,E,D,H=>OV E c g λ g v=>i9 g v (λ g=>(Bool.rec (motive:=λ _=>WX) (U M ctx K X x (k+1)) (X (k+1)) (aV (k+1) K.named)) g Q E D H) (λ g=>(Bool.rec (motive:=λ _=>WX) (U M ctx K X y (k+1+cd x)) (X (k+1+cd x)) (aV (k+1+cd x) K.named)) g Q E D H)
 | .block id b,k,g,Q,E,D,H=>(Bool.rec (motive:=λ _=>WX) (U M ctx K X b (k+1)) (X (k+1)) (aV (k+1) K.named)) g (cw id Q) E D H
 | .scope b,k,g,Q,E,D,H=>(Bool.rec (motive:=λ _=>WX) (U M ctx K X b (k+1)) (X (k+1)) (aV (k+1) K.named)) g (kQ b Q) E D H
 | .loop (some _) _,_,_,_,_,_,_=>False
 | .loop none b,k,g,Q,E,D,H=>aR (Bool.rec (motive:=λ _=>WX) (U M ctx K X b (k+1)) (X (k+1)) (aV (k+1) K.named)) Q E D H
 | .rangeFunc f n,_,g,Q,E,D,H=>OV E f g λ g v=>gN M K.ah ctx n E D H Q v
theorem MS (r:aj):∀ (n:Nat) (c:aj),cd c<=n -> ∀ k,part r k=c->U M ctx K (λ j=>W3 M ctx K (part r j)) c k=W3 M ctx K c:=by
 intro n
 induction n with
 | zero=>intro c hc;cases c<;>simp [cd] at hc
 | succ n ih =>
  intro c hc k hk;have sub:∀ (d:aj) (j:Nat),cd d<=n->part r j=d->Bool.rec (motive:=λ _=>WX) (U M ctx K (λ j=>W3 M ctx K (part r j)) d j) (W3 M ctx K (part r j)) (aV j K.named)=W3 M ctx K d:=λ d j h1 h2=>by
   cases aV j K.named with
   | true=>show W3 M ctx K (part r j)=_;rw [h2]
   | false=>exact ih d h1 j h2
  have pl:=@Cd r;have pr:=@F1 r;cases c with
  | seq a b =>
   have e:pre (.seq a b)=.seq a b::(pre a++pre b):=by simp [pre,lG]
   have ha:=Cd (b:=b) hk (by simp) ⟨_,_,e⟩;have hb:=F1 hk (by simp) ⟨_,e⟩;have hs:cd a+cd b<=n:=by simp only [cd] at hc;omega
   have gen:(Bool.rec (motive:=λ _=>WX) (U M ctx K (λ j=>W3 M ctx K (part r j)) a (k+1)) (W3 M ctx K (part r (k+1))) (aV (k+1) K.named))=W3 M ctx K a/\(Bool.rec (motive:=λ _=>WX) (U M ctx K (λ j=>W3 M ctx K (part r j)) b (k+1+cd a)) (W3 M ctx K (part r (k+1+cd a))) (aV (k+1+cd a) K.named))=W3 M ctx K b :=
    ⟨sub a _ (by omega) ha,sub b _ (by omega) hb⟩
   cases a with
   | region l =>
    have plain:(Bool.rec (motive:=λ _=>WX) (U M ctx K (λ j=>W3 M ctx K (part r j)) b (k+2)) (W3 M ctx K (part r (k+2))) (aV (k+2) K.named))=W3 M ctx K b:=sub b _ (by omega) hb;cases b with
    | cond c x y =>
     have e2:pre (.cond c x y)=.cond c x y::(pre x++pre y):=by simp [pre,lG]
     have hx:=Cd (b:=y) hb (by simp) ⟨_,_,e2⟩;have hy:=F1 hb (by simp) ⟨_,e2⟩;have hxy:cd x+cd y+1<=n:=by simp only [cd] at hs;omega
     have s1:=sub x (k+3) (by omega) hx;have s2:=sub y (k+3+cd x) (by omega) hy;funext g Q E D H;simp only [U,W3,s1,s2]
    | seq b1 q =>
     cases b1 with
     | cond c x y =>
      have e1:pre (.seq (.cond c x y) q)=.seq (.cond c x y) q::(pre (.cond c x y)++pre q):=by simp [pre,lG]
      have e2:pre (.cond c x y)=.cond c x y::(pre x++pre y):=by simp [pre,lG]
      have hc2:=Cd (b:=q) hb (by simp) ⟨_,_,e1⟩;have hq:=F1 hb (by simp) ⟨_,e1⟩;have hx:=Cd (b:=y) hc2 (by simp) ⟨_,_,e2⟩;have hy:=F1 hc2 (by simp) ⟨_,e2⟩;have hxy:cd x+cd y+1+cd q+1<=n:=by simp only [cd] at hs;omega
      have s1:=sub x (k+4) (by omega) hx;have s2:=sub y (k+4+cd x) (by omega) hy;have s3:=sub q (k+4+cd x+cd y) (by omega) (by rw [<-hq];simp only [cd];congr 1;omega);funext g Q E D H;simp only [U,W3,s1,s2,s3]
     | _=>funext g Q E D H;simp only [U,W3] at plain ⊢;simp only [plain]
    | _=>funext g Q E D H;simp only [U,W3] at plain ⊢;simp only [plain]
   | _=>funext g Q E D H;simp only [U,W3] at gen ⊢;simp only [gen.1,gen.2]
  | cond c x y =>
   have e2:pre (.cond c x y)=.cond c x y::(pre x++pre y):=by simp [pre,lG]
   have hx:=Cd (b:=y) hk (by simp) ⟨_,_,e2⟩;have hy:=F1 hk (by simp) ⟨_,e2⟩;have hxy:cd x+cd y<=n:=by simp only [cd] at hc;omega
   have s1:=sub x (k+1) (by omega) hx;have s2:=sub y (k+1+cd x) (by omega) hy;funext g Q E D H;simp only [U,W3,s1,s2]
  | block i b =>
   have s1:=sub b (k+1) (by simp only [cd] at hc;omega) (Cd (b:=b) hk (by simp) ⟨.block i b,[],by simp [pre]⟩);funext g Q E D H;simp only [U,W3,s1]
  | scope b =>
   have s1:=sub b (k+1) (by simp only [cd] at hc;omega) (Cd (b:=b) hk (by simp) ⟨.scope b,[],by simp [pre]⟩);funext g Q E D H;simp only [U,W3,s1]
  | loop i b =>
   have s1:=sub b (k+1) (by simp only [cd] at hc;omega) (Cd (b:=b) hk (by simp) ⟨.loop i b,[],by simp [pre]⟩);funext g Q E D H;cases i with
   | none=>simp only [U,W3,s1]
   | some _=>rfl
  | _=>funext g Q E D H;rfl
theorem Jt:∃ F:aA->Ctx->Kp × aj->WX,F=λ M ctx p=>W3 M ctx p.1 p.2:=⟨_,rfl⟩
def W:aA->Ctx->Kp × aj->WX:=Classical.choose Jt
theorem lh (M:aA) (ctx:Ctx) (p:Kp × aj):W M ctx p=W3 M ctx p.1 p.2:=congrFun (congrFun (congrFun (Classical.choose_spec Jt) M) ctx) p
def funcAt (P:Program) (n:Nat):cm:=Option.rec (motive:=λ _=>cm) ⟨[],.stuck,[]⟩ (λ f=>f) ((aP P).func n)
def i4 (F:cm) (i:Nat):db:=Option.rec (motive:=λ _=>db) ⟨[],.stuck,.stuck⟩ (λ l=>l) (nth F.loops i)
theorem Dl {M:aA} {ctx:Ctx} {K:Kp} {r:aj} {k:Nat} {g:Bool} {Q:au} {E:Env} {D:List aD} {H:AHeap} {R:Prop} (h:U M ctx K (λ j=>W M ctx (K,part r j)) (part r k) k g Q E D H=R):W M ctx (K,part r k) g Q E D H=R:=by
 rw [<-h];have e:(λ j=>W M ctx (K,part r j))=λ j=>W3 M ctx K (part r j):=by funext j;exact lh ..
 rw [e,MS (M:=M) (ctx:=ctx) (K:=K) r _ (part r k) (qf _) k rfl,lh]
theorem q6u (c:aj):part c 0=c:=qyz (vJ c)
theorem uR {α β:Type} {a b:α} {x y:β} (h:(a,x)=(b,y)):a=b/\x=y:=by injection h with h1 h2;exact ⟨h1,h2⟩
theorem JH {M:aA} {f:Nat} {fn:cm} (hf:M.func f=some fn) {ks:Kp} {vs:List AV} (hk:kG 0 vs.length ks.ah=true) {H:AHeap} {Q:bg->AHeap->Prop}
 (h:W M ⟨none,f⟩ (ks,part fn.body 0) true (c6 M fn.results Q) (kR 0 vs) [] H):FO M f vs H Q:=by
 rw [lh,q6u] at h;refine q3b hf (nI (W3.wp (dA fn.body) fn.body (qf _) (up:=none) h (uM hk)) λ e st ⟨h1,E',h2,h3⟩=>?_);obtain ⟨tm,D,up,H'⟩:=st;have h1:up=none:=h1;subst h1;have mono:∀ {m:Option aw},lP M fn.results E' Q D m H'->tc M fn.results tm (λ e H=>(none:Option aw)=none/\Q e H) D m H':=λ {m} h=>by
  have h':lP M fn.results E' (λ e H=>(none:Option aw)=none/\Q e H) D m H':=by
   have e:(λ e H=>(none:Option aw)=none/\Q e H)=Q:=by funext e H;simp
   rw [e];exact h
  exact lP.MQ h2 h'
 cases e with
 | normal=>exact mono h3
 | ret=>exact mono h3
 | panic c=>exact mono h3
 | exit _=>exact h3.elim
 | goto _=>exact h3.elim
section
variable (E:Env) (H:AHeap) (K:Bool->AV->Prop) (K2:Bool->AV->AHeap->Prop) (A B:Bool->Prop)
def Lz (E:Env) (n:Nat) (K:Bool->AV->Prop):Prop:=LK true (lk E n) K
def Ly (g:Bool) (E:Env) (n:Nat) (K:Bool->AV->Prop):Prop:=LK g (lk E n) K
def Fl (g:Bool) (i:Nat) (a:AV) (H:AHeap) (K:Bool->AV->Prop):Prop:=B3 g (Op.fieldAddr i [a]) λ g x=>B3 g (Op.ae [x] H) K
def Nf (g:Bool) (i:Nat) (a:AV) (H:AHeap) (K:Bool->AV->Prop):Prop:=B3 g (Op.nilCheck [a]) λ g x=>Fl g i x H K
def Fs (g:Bool) (i:Nat) (a b:AV) (H:AHeap) (K:Bool->AV->AHeap->Prop):Prop:=B3 g (Op.fieldAddr i [a]) λ g x=>gn g (Op.store 1 [x,b] H) K
def Ns (g:Bool) (i:Nat) (a b:AV) (H:AHeap) (K:Bool->AV->AHeap->Prop):Prop:=B3 g (Op.nilCheck [a]) λ g x=>Fs g i x b H K
def Xl (g:Bool) (a b:AV) (H:AHeap) (K:Bool->AV->Prop):Prop:=B3 g (Op.aQ 1 [a,b]) λ g x=>B3 g (Op.ae [x] H) K
def Xs (g:Bool) (a b c:AV) (H:AHeap) (K:Bool->AV->AHeap->Prop):Prop:=B3 g (Op.aQ 1 [a,b]) λ g x=>gn g (Op.store 1 [x,c] H) K
def Bn (g:Bool) (o:BinOp) (a b:AV) (K:Bool->AV->Prop):Prop:=B3 g (Op.bin o [a,b]) K
def Cb (g:Bool) (o:BinOp) (a b:AV) (A B:Bool->Prop):Prop:=B3 g (Op.bin o [a,b]) λ g v=>i9 g v A B
def Gt (g:Bool) (M:aA) (c:Ctx) (p:Kp × aj) (Q:au) (E:Env) (D:List aD) (H:AHeap):Prop:=oJ g (cT (W M c p) Q) .normal E D H
theorem Od (n:Nat):Lz E n K=LK true (lk E n) K:=propext ji
theorem Qh (n:Nat):Ly true E n K=LK true (lk E n) K:=propext ji
theorem Pf (i:Nat) (a:AV):Fl true i a H K=B3 true (Op.fieldAddr i [a]) λ g x=>B3 g (Op.ae [x] H) K:=propext ji
theorem Oo (i:Nat) (a:AV):Nf true i a H K=B3 true (Op.nilCheck [a]) λ g x=>Fl g i x H K:=propext ji
theorem OL (i:Nat) (a b:AV):Fs true i a b H K2=B3 true (Op.fieldAddr i [a]) λ g x=>gn g (Op.store 1 [x,b] H) K2:=propext ji
theorem P2 (i:Nat) (a b:AV):Ns true i a b H K2=B3 true (Op.nilCheck [a]) λ g x=>Fs g i x b H K2:=propext ji
theorem Nx (a b:AV):Xl true a b H K=B3 true (Op.aQ 1 [a,b]) λ g x=>B3 g (Op.ae [x] H) K:=propext ji
theorem O5 (a b c:AV):Xs true a b c H K2=B3 true (Op.aQ 1 [a,b]) λ g x=>gn g (Op.store 1 [x,c] H) K2:=propext ji
theorem MC (o:BinOp) (a b:AV):Bn true o a b K=B3 true (Op.bin o [a,b]) K:=propext ji
theorem PC (o:BinOp) (a b:AV):Cb true o a b A B=B3 true (Op.bin o [a,b]) λ g v=>i9 g v A B:=propext ji
theorem NY (M:aA) (c:Ctx) (p:Kp × aj) (Q:au) (D:List aD):Gt true M c p Q E D H=oJ true (cT (W M c p) Q) .normal E D H:=propext ji
end
end
end Go.Am
namespace Go.Am
def Mv (g:Bool) (a:AV) (K:Bool->AV->Prop):Prop:=B3 g (Op.move [a]) K
theorem kJ (a:AV) (K:Bool->AV->Prop):Mv true a K=K true a:=propext ji
@[congr] theorem HY {g g':Bool} {a a':AV} {K:Bool->AV->Prop} (hg:g=g') (ha:a=a'):Mv g a K=Mv g' a' K:=by subst hg;subst ha;rfl
end Go.Am
namespace Go.Am
section
variable {M:aA} {ctx:Ctx} {bO:Bool} {Q Q':au} {E:Env} {D:List aD}
theorem LA {α:Type} {m:Bool} {o:Option α} {K K':Bool -> α->Prop} (h:B3 m o K) (hk:∀ a,K m a->K' m a):B3 m o K':=by
 cases o with
 | none=>exact h
 | some a=>exact hk a h
theorem q1c {α β:Type} {m:Bool} {o:Option (α × β)} {K K':Bool -> α -> β->Prop} (h:gn m o K) (hk:∀ a b,K m a b->K' m a b):gn m o K':=by
 cases o with
 | none=>exact h
 | some a=>exact hk a.1 a.2 h
theorem q4t {α:Type} {m:Bool} {o:Option α} {K K':Bool -> α->Prop} (h:LK m o K) (hk:∀ a,K m a->K' m a):LK m o K':=by
 cases o with
 | none=>exact h
 | some a=>exact hk a h
theorem q1e {m:Bool} {v:AV} {A B A' B':Bool->Prop} (h:i9 m v A B) (ha:A m->A' m) (hb:B m->B' m):i9 m v A' B':=by
 obtain ⟨q,rfl,h⟩:=h.elim;cases q with
 | true=>exact ha h
 | false=>exact hb h
theorem LW {L R:Env} {t:Nat} {g:Bool} {K K':Bool->Env->AV->Prop} (h:TV E L R t g K) (hk:∀ R v,K g R v->K' g R v):TV E L R t g K':=by
 unfold TV at h ⊢;cases hl:lk L t with
 | some v=>rw [hl] at h;exact hk _ _ h
 | none =>
  rw [hl] at h;cases hq:lk R t with
  | some v=>rw [hq] at h;exact hk _ _ h
  | none=>rw [hq] at h;exact q4t h λ v q=>hk _ _ q
theorem q4w {x:ba} {g:Bool} {K K':Bool->AV->Prop} (h:OV E x g K) (hk:∀ v,K g v->K' g v):OV E x g K':=by
 cases x with
 | tmp t=>simp only [OV] at h ⊢;exact q4t h hk
 | const v=>exact hk _ h
 | cU b=>exact hk _ h
 | func f=>exact hk _ h
theorem A5 {L R:Env} {x:ba} {g:Bool} {K K':Bool->AV->Prop} (h:CV E L R x g K) (hk:∀ v,K g v->K' g v):CV E L R x g K':=by
 cases x with
 | tmp t=>simp only [CV] at h ⊢;exact LW h λ _ v=>hk v
 | const v=>exact hk _ h
 | cU b=>exact hk _ h
 | func f=>exact hk _ h
theorem G2 {L:Env} {g:Bool}:∀ {l:List ba} {R:Env} {K K':Bool->Env->List AV->Prop},rP E L l g R K->(∀ R vs,K g R vs->K' g R vs)->rP E L l g R K'
 | [],R,K,K',h,hk=>hk _ _ h
 | .tmp t::xs,R,K,K',h,hk=>LW (K:=λ g R v=>rP E L xs g R λ g R vs=>K g R (v::vs)) (K':=λ g R v=>rP E L xs g R λ g R vs=>K' g R (v::vs)) h λ R v q=>G2 (K:=λ g R vs=>K g R (v::vs)) (K':=λ g R vs=>K' g R (v::vs)) q λ R vs=>hk _ _
 | .const v::xs,R,K,K',h,hk=>G2 (l:=xs) (K:=λ g R vs=>K g R (v::vs)) (K':=λ g R vs=>K' g R (v::vs)) h λ R vs=>hk _ _
 | .cU v::xs,R,K,K',h,hk=>G2 (l:=xs) (K:=λ g R vs=>K g R (.ptr v 0::vs)) (K':=λ g R vs=>K' g R (.ptr v 0::vs)) h λ R vs=>hk _ _
 | .func v::xs,R,K,K',h,hk=>G2 (l:=xs) (K:=λ g R vs=>K g R (.fn (.func v) [] []::vs)) (K':=λ g R vs=>K' g R (.fn (.func v) [] []::vs)) h λ R vs=>hk _ _
theorem q4y (hq:∀ e E D H,Q e E D H->Q' e E D H) {ps:Option (List Nat)} {ks:List Nat} {c:aw} {H:AHeap} (h:PX ps ks Q E D c H):PX ps ks Q' E D c H:=by
 cases ps with
 | none=>exact h
 | some _=>exact hq _ _ _ _ h
theorem LD (hq:∀ e E D H,Q e E D H->Q' e E D H) {ps:Option (List Nat)} {L:Env} {g:Bool} {f:eR} {vs:List AV} {H:AHeap} {K K':Bool->AV->AHeap->Prop} (h:zB M bO ps L Q E D g f vs H K) (hk:∀ v H,K g v H->K' g v H):zB M bO ps L Q' E D g f vs H K':=by
 cases bO with
 | false=>obtain ⟨v,H',h1,h2⟩:=h;exact ⟨v,H',h1,hk _ _ h2⟩
 | true =>
  obtain ⟨e,H',h1,h2⟩:=h;refine ⟨e,H',h1,?_⟩;cases e with
  | ret v=>exact hk _ _ h2
  | panic c=>exact q4y hq h2
theorem yM (hq:∀ e E D H,Q e E D H->Q' e E D H) {s:aL} {K K':KR} {g:Bool} {L R:Env} {H:AHeap} (h:Ad M bO s Q E D K g L R H) (hk:∀ L R H,K g L R H->K' g L R H):Ad M bO s Q' E D K' g L R H:=by
 refine G2 (show rP E L s.args g R _ from h) λ R vs h=>?_;obtain ⟨eO,dst,guard,args,op,ps⟩:=s;cases eO with
 | true =>
  have h:KX dst E L R H K g vs op:=h;show KX dst E L R H K' g vs op;cases op with
  | read f =>
   cases dst with
   | none=>exact h
   | some d=>exact ⟨h.1,hk _ _ _ h.2⟩
  | _=>exact h
 | false =>
  have h:pL M bO dst ps Q E D L R H K g vs op:=h;show pL M bO dst ps Q' E D L R H K' g vs op;cases op with
  | pure f=>simp only [pL] at h ⊢;exact LA h λ a=>hk _ _ _
  | read f=>simp only [pL] at h ⊢;exact LA h λ a=>hk _ _ _
  | alloc f=>simp only [pL] at h ⊢;exact q1c h λ a b=>hk _ _ _
  | eQ f=>simp only [pL] at h ⊢;exact q1c h λ a b=>hk _ _ _
  | eH f=>exact LD hq h λ v H=>hk _ _ _
  | eK =>
   simp only [pL,V3] at h ⊢;split at h
   ·exact LD hq h λ v H=>hk _ _ _
   ·exact LD hq h λ v H=>hk _ _ _
   ·exact h.elim
  | invoke n =>
   simp only [pL,N3] at h ⊢;split at h
   ·exact LA h λ a q=>LD hq q λ v H=>hk _ _ _
   ·exact h.elim
  | recover=>exact h
  | defer=>exact h
  | panic =>
   cases bO with
   | false=>exact h
   | true =>
    have h:dU vs H (PX ps (ic L) Q E D):=h;show dU vs H (PX ps (ic L) Q' E D);unfold dU at h ⊢;split at h
    ·exact q4y hq h
    ·exact h.elim
theorem M8 (hq:∀ e E D H,Q e E D H->Q' e E D H) {K K':KR} {g:Bool} (hk:∀ L R H,K g L R H->K' g L R H):∀ {l:List aL} {L R:Env} {H:AHeap},lR M bO Q E D K l g L R H->lR M bO Q' E D K' l g L R H
 | [],L,R,H,h=>hk _ _ _ h
 | s::l,L,R,H,h=>yM hq (show Ad M bO s Q E D (lR M bO Q E D K l) g L R H from h) λ L R H=>M8 hq hk
theorem MU:∀ (n:Nat) {f f':List AV->AHeap->Prop},(∀ vs H,f vs H->f' vs H) -> ∀ (l:List AV) (H:AHeap),lQ n (mO n f) l H->lQ n (mO n f') l H
 | 0,f,f',hf,l,H,h=>hf [] H h
 | n+1,f,f',hf,[],H,h=>h
 | n+1,f,f',hf,v::l,H,h=>MU n (f:=λ l=>f (v::l)) (f':=λ l=>f' (v::l)) (λ vs H=>hf _ _) l H h
theorem yL (hq:∀ e E D H,Q e E D H->Q' e E D H) {x:Ao} {K K':KR} {g:Bool} (hk:∀ L R H,K g L R H->K' g L R H) {L R:Env} {H:AHeap} (h:JQ M bO Q E D x K g L R H):JQ M bO Q' E D x K' g L R H:=by
 obtain ⟨q,l⟩:=x;cases q with
 | none=>exact M8 hq hk (show lR M bO Q E D K l g L R H from h)
 | some q =>
  cases ho:pS q.1 l with
  | false =>
   have h:cond (pS q.1 l) _ False:=h;rw [ho] at h;exact h.elim
  | true =>
   have h:cond (pS q.1 l) _ False:=h;rw [ho,xf] at h;show cond (pS q.1 l) _ False;rw [ho,xf];refine LW h λ R1 v h=>?_;have h:B3 g (cB q.2 (some v)) λ g w=>sS g w (λ g=>lR M bO Q E D (λ g L' _ H=>lQ (bL (aS l [])) (mO (bL (aS l [])) λ vs H=>K g (gZ (aS l []) L vs) R1 H) (my (bL (aS l [])) L') H) l g L R1 H)
    (λ g=>lQ (bL (aS l [])) (mO (bL (aS l [])) λ vs H=>K g (gZ (aS l []) L vs) R1 H) (m8 (bL (aS l []))) H):=h
   refine LA (K':=λ g w=>sS g w (λ g=>lR M bO Q' E D (λ g L' _ H=>lQ (bL (aS l [])) (mO (bL (aS l [])) λ vs H=>K' g (gZ (aS l []) L vs) R1 H) (my (bL (aS l [])) L') H) l g L R1 H)
    (λ g=>lQ (bL (aS l [])) (mO (bL (aS l [])) λ vs H=>K' g (gZ (aS l []) L vs) R1 H) (m8 (bL (aS l []))) H)) h λ w h=>?_
   cases w with
   | true=>exact M8 hq (λ L' R H h=>MU _ (λ vs H=>hk _ _ _) _ _ h) (show lR M bO Q E D _ l g L R1 H from h)
   | false=>exact MU _ (λ vs H=>hk _ _ _) _ _ h
theorem Ky (hq:∀ e E D H,Q e E D H->Q' e E D H) {l:List aL} {K K':KR} {g:Bool} (hk:∀ L R H,K g L R H->K' g L R H) {H:AHeap} (h:mS M bO Q E D l g H K):mS M bO Q' E D l g H K':=by
 unfold mS at h ⊢;generalize Dp l=gs at h ⊢;generalize ([]:Env)=L at h ⊢;have key:∀ (gs:List Ao) (L R:Env) (H:AHeap),rU M bO Q E D K gs g L R H->rU M bO Q' E D K' gs g L R H:=by
  intro gs
  induction gs with
  | nil=>exact λ L R H h=>hk _ _ _ h
  | cons x gs ih=>exact λ L R H h=>yL hq ih (show JQ M bO Q E D x (rU M bO Q E D K gs) g L R H from h)
 exact key gs L L H h
theorem Bl {K:Kp}:∀ (n:Nat) (c:aj),dA c<=n -> ∀ {g:Bool} {Q Q':au} {E:Env} {D:List aD} {H:AHeap},(∀ e E D H,Q e E D H->Q' e E D H)->W3 M ctx K c g Q E D H->W3 M ctx K c g Q' E D H:=by
 intro n
 induction n with
 | zero =>
  intro c hc g Q Q' E D H hq h;cases c with
  | region l=>exact Ky hq (λ L R H h=>hq _ _ _ _ h) h
  | rangeFunc f k =>
   have h:OV E f g λ g v=>gN M K.ah ctx k E D H Q v:=h;show OV E f g λ g v=>gN M K.ah ctx k E D H Q' v;have key:∀ v,gN M K.ah ctx k E D H Q v->gN M K.ah ctx k E D H Q' v:=λ v h tm up he=>by
    have:=h tm up he;unfold C7 at this ⊢;split
    ·rename_i hr;rw [hr] at this;exact FF this λ e st ⟨h1,h2,h3⟩=>⟨h1,h2,hq _ _ _ _ h3⟩
    ·rename_i l hr;rw [hr] at this;exact Aj (m:=av) this λ d q=>FF q λ e st ⟨h1,h2,h3⟩=>⟨h1,h2,hq _ _ _ _ h3⟩
   exact q4w h key
  | skip=>exact hq _ _ _ _ h
  | label _=>exact hq _ _ _ _ h
  | exit _=>exact hq _ _ _ _ h
  | goto _=>exact hq _ _ _ _ h
  | ret=>exact hq _ _ _ _ h
  | stuck=>exact h
  | seq _ _=>simp [dA] at hc
  | cond _ _ _=>simp [dA] at hc
  | block _ _=>simp [dA] at hc
  | loop _ _=>simp [dA] at hc
  | scope _=>simp [dA] at hc
 | succ n ih =>
  intro c hc g Q Q' E D H hq h;have sq:∀ {b:aj},dA b<=n -> ∀ e E D H,cT (W3 M ctx K b) Q e E D H->cT (W3 M ctx K b) Q' e E D H:=λ hb e E D H h=>by
   cases e with
   | normal=>exact ih _ hb hq h
   | _=>exact hq _ _ _ _ h
  cases c with
  | seq a b =>
   have hab:dA a+dA b<=n:=by simp only [dA] at hc;omega
   have gen:W3 M ctx K a g (cT (W3 M ctx K b) Q) E D H->W3 M ctx K a g (cT (W3 M ctx K b) Q') E D H:=λ h=>ih a (by omega) (sq (by omega)) h;cases a with
   | region l =>
    have plain:(mS M K.bO Q E D l g H λ g L _ H=>W3 M ctx K b g Q (cz K.ah E L) D H)->mS M K.bO Q' E D l g H λ g L _ H=>W3 M ctx K b g Q' (cz K.ah E L) D H:=λ h=>Ky hq (λ L R H h=>ih b (by omega) hq h) h;have cv:∀ {L R:Env} {c:ba} {A B A' B':Bool->Prop},CV E L R c g (λ g v=>i9 g v A B)->(A g->A' g)->(B g->B' g)->CV E L R c g (λ g v=>i9 g v A' B'):=λ {L R c A B A' B'} h ha hb=>by
     exact A5 h λ v h=>q1e h ha hb
    cases b with
    | cond c x y =>
     have hxy:dA x+dA y+1<=n:=by simp only [dA] at hab;omega
     exact Ky hq (λ L R H h=>cv h (ih x (by omega) hq) (ih y (by omega) hq)) h
    | seq b1 r =>
     cases b1 with
     | cond c x y =>
      have hxy:dA x+dA y+1+dA r+1<=n:=by simp only [dA] at hab;omega
      exact Ky hq (λ L R H h=>cv h (ih x (by omega) (sq (by omega))) (ih y (by omega) (sq (by omega)))) h
     | _=>exact plain h
    | _=>exact plain h
   | _=>exact gen h
  | cond c x y =>
   have hab:dA x+dA y<=n:=by simp only [dA] at hc;omega
   have h:OV E c g λ g v=>i9 g v (λ g=>W3 M ctx K x g Q E D H) (λ g=>W3 M ctx K y g Q E D H):=h;exact q4w (K':=λ g v=>i9 g v (λ g=>W3 M ctx K x g Q' E D H) (λ g=>W3 M ctx K y g Q' E D H)) h λ v h=>q1e h (ih x (by omega) hq) (ih y (by omega) hq)
  | block id b =>
   have hb:dA b<=n:=by simp only [dA] at hc;omega
   exact ih b hb (λ e E D H h=>by cases e<;>exact hq _ _ _ _ h) h
  | scope b =>
   have hb:dA b<=n:=by simp only [dA] at hc;omega
   exact ih b hb (λ e E D H h=>by cases e<;>first|exact hq _ _ _ _ h|exact ⟨h.1,hq _ _ _ _ h.2⟩) h
  | loop ah b =>
   have hb:dA b<=n:=by simp only [dA] at hc;omega
   cases ah with
   | some _=>exact h
   | none =>
    obtain ⟨I,h0,h1⟩:=h;exact ⟨I,h0,λ n E D H hi=>ih b hb (λ e E D H h=>by cases e<;>first|exact h|exact hq _ _ _ _ h) (h1 n E D H hi)⟩
  | _=>exact ih _ (xx _) hq h
end
theorem W.mono {M:aA} {ctx:Ctx} {p:Kp × aj} {g:Bool} {Q Q':au} {E:Env} {D:List aD} {H:AHeap} (h:W M ctx p g Q E D H) (hq:∀ e E D H,Q e E D H->Q' e E D H):W M ctx p g Q' E D H:=by
 rw [lh] at h ⊢;exact Bl _ p.2 (qf _) hq h
end Go.Am
namespace Go.Am
noncomputable section
variable (X:WX) (Q:au) (E:Env) (D:List aD) (H:AHeap) (I:Dz) (n:Nat)
theorem qzu:cT X Q .normal E D H=X true Q E D H:=propext ji
theorem wV:cT X Q .ret E D H=Q .ret E D H:=propext ji
theorem q4z (l:Nat):cT X Q (.exit l) E D H=Q (.exit l) E D H:=propext ji
theorem q40 (l:Nat):cT X Q (.goto l) E D H=Q (.goto l) E D H:=propext ji
theorem q23 (c:aw):cT X Q (.panic c) E D H=Q (.panic c) E D H:=propext ji
theorem qzp (i:Nat):cw i Q .normal E D H=Q .normal E D H:=propext ji
theorem tH (i:Nat):cw i Q .ret E D H=Q .ret E D H:=propext ji
theorem q4l (i l:Nat):cw i Q (.goto l) E D H=Q (.goto l) E D H:=propext ji
theorem q2r (i:Nat) (c:aw):cw i Q (.panic c) E D H=Q (.panic c) E D H:=propext ji
theorem q4k (i l:Nat):cw i Q (.exit l) E D H=if i=l then Q .normal E D H else Q (.exit l) E D H:=by
 show Q (cond (Nat.beq i l) .normal (.exit l)) E D H=_
 by_cases h:i=l
 ·subst h;simp
 ·rw [qg h,EH h];rfl
section
variable (M:aA) (rs:List cu) (Q:bg->AHeap->Prop) (P:List AV->Prop) (R:AV->AHeap->Prop)
theorem wB:c6 M rs Q .ret E [] H=dF E H rs λ l=>Q (.ret (dq l)) H:=propext ji
theorem qzs:c6 M rs Q .normal E [] H=dF E H rs λ l=>Q (.ret (dq l)) H:=propext ji
theorem q2y (c:aw):c6 M rs Q (.panic c) E [] H=Q (.panic c) H:=propext ji
theorem wH:dF E H [] P=P []:=propext ji
theorem vP (t:Nat):dF E H (.tmp t::rs) P=LK true (lk E t) λ _ v=>dF E H rs λ vs=>P (v::vs):=propext ji
theorem q21 (t:Nat):dF E H (.gf t::rs) P=LK true (lk E t) λ _ v=>B3 true (Op.ae [v] H) λ _ v=>dF E H rs λ vs=>P (v::vs):=propext ji
theorem q22 (n t:Nat):dF E H (.dB n t::rs) P=LK true (lk E t) λ _ v=>B3 true (Op.aG n [v] H) λ _ v=>dF E H rs λ vs=>P (v::vs):=propext ji
theorem A6 (v:AV):kO R (.ret v) H=R v H:=propext ji
end
theorem Dh:((0:Nat):Int)=0:=rfl
theorem xk (l:List AV):AV.cells (.agg l)=l:=rfl
theorem q5d (k:IntKind) (n:Int):AV.cells (.int k n)=[.int k n]:=rfl
theorem q3f (b:Bool):AV.cells (.bool b)=[.bool b]:=rfl
theorem q5f (s:List UInt8):AV.cells (.str s)=[.str s]:=rfl
theorem q5e (b o:Nat):AV.cells (.ptr b o)=[.ptr b o]:=rfl
def pY (I:Nat->Env->AHeap->Prop) (D:List aD) (n:Nat) (Q:au):au:=λ e E D' H=>match e with
 | .normal=>D'=D /\ ∃ m E',I m E' H/\kW E' E/\m<n
 | e=>Q e E D' H
theorem aR.intro {M:aA} {ctx:Ctx} {p:Kp × aj} {Q:au} {E:Env} {D:List aD} {H:AHeap} (I:Nat->Env->AHeap->Prop) (h0:∃ n E0,I n E0 H/\kW E0 E) (h:∀ n E H,I n E H->W M ctx p true (pY I D n Q) E D H):aR (W M ctx p) Q E D H:=by
 obtain ⟨n,E0,h1,h2⟩:=h0;refine ⟨λ n E D' H=>D'=D/\I n E H,⟨n,E0,⟨rfl,h1⟩,h2.ss⟩,λ n E D' H ⟨e,hi⟩=>?_⟩;subst e;refine W.mono (h n E H hi) λ e E D'' H hq=>?_;cases e with
 | normal=>obtain ⟨q,m,E',a,b,c⟩:=hq;exact ⟨m,E',⟨q,a⟩,b.ss,c⟩
 | _=>exact hq
def Bv (P:Env->List aD->AHeap->Prop) (Q:au):au:=λ e E D H=>match e with
 | .normal=>P E D H
 | e=>Q e E D H
theorem q2z (P:Env->List aD->AHeap->Prop) (Q:au) (E:Env) (D:List aD) (H:AHeap):Bv P Q .normal E D H=P E D H:=propext ji
theorem AH (P:Env->List aD->AHeap->Prop) (Q:au) (E:Env) (D:List aD) (H:AHeap):Bv P Q .ret E D H=Q .ret E D H:=propext ji
theorem zC (P:Env->List aD->AHeap->Prop) (Q:au) (E:Env) (D:List aD) (H:AHeap) (l:Nat):Bv P Q (.exit l) E D H=Q (.exit l) E D H:=propext ji
def LN (X:WX) (Q:au):Nat->Env->List aD->AHeap->Prop
 | 0,_,_,_=>False
 | n+1,E,D,H=>X true (Bv (LN X Q n) Q) E D H
theorem AZ (X:WX) (Q:au) (n:Nat) (E:Env) (D:List aD) (H:AHeap):LN X Q (n+1) E D H=X true (Bv (LN X Q n) Q) E D H:=propext ji
theorem q20 (I:Nat->Env->AHeap->Prop) (D:List aD) (n:Nat) (Q:au) (E:Env) (H:AHeap):pY I D n Q .normal E D H = ∃ m E',I m E' H/\kW E' E/\m<n:=propext ⟨λ h=>h.2,λ h=>⟨rfl,h⟩⟩
theorem Ax (I:Nat->Env->AHeap->Prop) (D D':List aD) (n:Nat) (Q:au) (E:Env) (H:AHeap):pY I D n Q .ret E D' H=Q .ret E D' H:=propext ji
theorem wE (I:Nat->Env->AHeap->Prop) (D D':List aD) (n:Nat) (Q:au) (E:Env) (H:AHeap) (l:Nat):pY I D n Q (.exit l) E D' H=Q (.exit l) E D' H:=propext ji
theorem uo (I:Nat->Env->AHeap->Prop) (D D':List aD) (n:Nat) (Q:au) (E:Env) (H:AHeap) (l:Nat):pY I D n Q (.goto l) E D' H=Q (.goto l) E D' H:=propext ji
theorem q4u (I:Nat->Env->AHeap->Prop) (D D':List aD) (n:Nat) (Q:au) (E:Env) (H:AHeap) (c:aw):pY I D n Q (.panic c) E D' H=Q (.panic c) E D' H:=propext ji
theorem Jl:(∀ {α:Type} (a:α) (K:Bool -> α->Prop),LK true (some a) K=K true a)/\(∀ {α:Type} (a:α) (K:Bool -> α->Prop),B3 true (some a) K=K true a)/\(∀ {α β:Type} (a:α) (b:β) (K:Bool -> α -> β->Prop),gn true (some (a,b)) K=K true a b)/\(∀ (A B:Bool->Prop),i9 true (AV.bool true) A B=A true)/\(∀ (A B:Bool->Prop),i9 true (AV.bool false) A B=B true)/\(∀ (A B:Bool->Prop),sS true true A B=A true)/\(∀ (A B:Bool->Prop),sS true false A B=B true)/\(∀ (v:AV) (K:Bool->Prop),Ds true (some v) (some v) K=K true)/\(∀ (e:Nat) (z:List AV) (H:AHeap) (K:Bool->AV->AHeap->Prop),A3 true e z H K=K true (AV.ptr H.next 0) (H.alloc (bm.row z e (0,0) true)))/\(∀ {α:Type} (F:α->Prop) (K:α),JN F K=F K)/\(∀ (Q:au) (e:aC) (E:Env) (D:List aD) (H:AHeap),oJ true Q e E D H=Q e E D H)/\(∀ (g:Nat) (first cap args:List AV) (K:Bool->eR->List AV->Prop),V3 true (AV.fn (eR.func g) first cap::args) K=K true (eR.func g) (first++(args++cap)))/\(∀ (l:Nat) (first args:List AV) (K:Bool->eR->List AV->Prop),V3 true (AV.fn (eR.yield l) first []::args) K=K true (eR.yield l) (first++args))/\(∀ (M:aA) (name:String) (t:Nat) (v:AV) (args:List AV) (K:Bool->eR->List AV->Prop),N3 M true name (AV.iface t v::args) K=B3 true (M.nA t name) λ m g=>K m (eR.func g) (v::args))/\(∀ (k t:Nat) (v:AV) (E:Env),lk ((k,v)::E) t=if k=t then some v else lk E t)/\(∀ (t:Nat),lk [] t=none)/\(∀ (k:Nat) (v:AV) (r E:Env),kW ((k,v)::r) E=(lk E k=some v/\kW r E))/\(∀ (E:Env),kW [] E=True)/\(∀ (X:WX) (Q:au) (E:Env) (D:List aD) (H:AHeap),cT X Q aC.normal E D H=X true Q E D H)/\(∀ (X:WX) (Q:au) (E:Env) (D:List aD) (H:AHeap),cT X Q aC.ret E D H=Q aC.ret E D H)/\(∀ (X:WX) (Q:au) (E:Env) (D:List aD) (H:AHeap) (l:Nat),cT X Q (aC.exit l) E D H=Q (aC.exit l) E D H)/\(∀ (X:WX) (Q:au) (E:Env) (D:List aD) (H:AHeap) (l:Nat),cT X Q (aC.goto l) E D H=Q (aC.goto l) E D H)/\(∀ (X:WX) (Q:au) (E:Env) (D:List aD) (H:AHeap) (c:aw),cT X Q (aC.panic c) E D H=Q (aC.panic c) E D H)/\(∀ (Q:au) (E:Env) (D:List aD) (H:AHeap) (i:Nat),cw i Q aC.normal E D H=Q aC.normal E D H)/\(∀ (Q:au) (E:Env) (D:List aD) (H:AHeap) (i:Nat),cw i Q aC.ret E D H=Q aC.ret E D H)/\(∀ (Q:au) (E:Env) (D:List aD) (H:AHeap) (i l:Nat),cw i Q (aC.goto l) E D H=Q (aC.goto l) E D H)/\(∀ (Q:au) (E:Env) (D:List aD) (H:AHeap) (i:Nat) (c:aw),cw i Q (aC.panic c) E D H=Q (aC.panic c) E D H)/\(∀ (Q:au) (E:Env) (D:List aD) (H:AHeap) (i l:Nat),cw i Q (aC.exit l) E D H=if i=l then Q aC.normal E D H else Q (aC.exit l) E D H)/\(∀ (P:Env->List aD->AHeap->Prop) (Q:au) (E:Env) (D:List aD) (H:AHeap),Bv P Q aC.normal E D H=P E D H)/\(∀ (P:Env->List aD->AHeap->Prop) (Q:au) (E:Env) (D:List aD) (H:AHeap),Bv P Q aC.ret E D H=Q aC.ret E D H)/\(∀ (P:Env->List aD->AHeap->Prop) (Q:au) (E:Env) (D:List aD) (H:AHeap) (l:Nat),Bv P Q (aC.exit l) E D H=Q (aC.exit l) E D H)/\(∀ (X:WX) (Q:au) (n:Nat) (E:Env) (D:List aD) (H:AHeap),LN X Q (n+1) E D H=X true (Bv (LN X Q n) Q) E D H)/\(∀ (I:Nat->Env->AHeap->Prop) (D:List aD) (n:Nat) (Q:au) (E:Env) (H:AHeap),pY I D n Q aC.normal E D H = ∃ m E',I m E' H/\kW E' E/\m<n)/\(∀ (I:Nat->Env->AHeap->Prop) (D D':List aD) (n:Nat) (Q:au) (E:Env) (H:AHeap),pY I D n Q aC.ret E D' H=Q aC.ret E D' H)/\(∀ (I:Nat->Env->AHeap->Prop) (D D':List aD) (n:Nat) (Q:au) (E:Env) (H:AHeap) (l:Nat),pY I D n Q (aC.exit l) E D' H=Q (aC.exit l) E D' H)/\(∀ (I:Nat->Env->AHeap->Prop) (D D':List aD) (n:Nat) (Q:au) (E:Env) (H:AHeap) (l:Nat),pY I D n Q (aC.goto l) E D' H=Q (aC.goto l) E D' H)/\(∀ (I:Nat->Env->AHeap->Prop) (D D':List aD) (n:Nat) (Q:au) (E:Env) (H:AHeap) (c:aw),pY I D n Q (aC.panic c) E D' H=Q (aC.panic c) E D' H)/\(∀ (E:Env) (H:AHeap) (M:aA) (rs:List cu) (Q:bg->AHeap->Prop),c6 M rs Q aC.ret E [] H=dF E H rs λ l=>Q (bg.ret (dq l)) H)/\(∀ (E:Env) (H:AHeap) (M:aA) (rs:List cu) (Q:bg->AHeap->Prop),c6 M rs Q aC.normal E [] H=dF E H rs λ l=>Q (bg.ret (dq l)) H)/\(∀ (E:Env) (H:AHeap) (M:aA) (rs:List cu) (Q:bg->AHeap->Prop) (c:aw),c6 M rs Q (aC.panic c) E [] H=Q (bg.panic c) H)/\(∀ (E:Env) (H:AHeap) (P:List AV->Prop),dF E H [] P=P [])/\(∀ (E:Env) (H:AHeap) (rs:List cu) (P:List AV->Prop) (t:Nat),dF E H (cu.tmp t::rs) P=LK true (lk E t) λ x v=>dF E H rs λ vs=>P (v::vs))/\(∀ (E:Env) (H:AHeap) (rs:List cu) (P:List AV->Prop) (t:Nat),dF E H (cu.gf t::rs) P=LK true (lk E t) λ x v=>B3 true (Op.ae [v] H) λ x v=>dF E H rs λ vs=>P (v::vs))/\(∀ (E:Env) (H:AHeap) (rs:List cu) (P:List AV->Prop) (n t:Nat),dF E H (cu.dB n t::rs) P=LK true (lk E t) λ x v=>B3 true (Op.aG n [v] H) λ x v=>dF E H rs λ vs=>P (v::vs))/\(∀ (H:AHeap) (R:AV->AHeap->Prop) (v:AV),kO R (bg.ret v) H=R v H)/\(∀ (E:Env) (K:Bool->AV->Prop) (n:Nat),Lz E n K=LK true (lk E n) K)/\(∀ (E:Env) (K:Bool->AV->Prop) (n:Nat),Ly true E n K=LK true (lk E n) K)/\(∀ (H:AHeap) (K:Bool->AV->Prop) (i:Nat) (a:AV),Fl true i a H K=B3 true (Op.fieldAddr i [a]) λ g x=>B3 g (Op.ae [x] H) K)/\(∀ (H:AHeap) (K:Bool->AV->Prop) (i:Nat) (a:AV),Nf true i a H K=B3 true (Op.nilCheck [a]) λ g x=>Fl g i x H K)/\(∀ (H:AHeap) (K2:Bool->AV->AHeap->Prop) (i:Nat) (a b:AV),Fs true i a b H K2=B3 true (Op.fieldAddr i [a]) λ g x=>gn g (Op.store 1 [x,b] H) K2)/\(∀ (H:AHeap) (K2:Bool->AV->AHeap->Prop) (i:Nat) (a b:AV),Ns true i a b H K2=B3 true (Op.nilCheck [a]) λ g x=>Fs g i x b H K2)/\(∀ (H:AHeap) (K:Bool->AV->Prop) (a b:AV),Xl true a b H K=B3 true (Op.aQ 1 [a,b]) λ g x=>B3 g (Op.ae [x] H) K)/\(∀ (H:AHeap) (K2:Bool->AV->AHeap->Prop) (a b c:AV),Xs true a b c H K2=B3 true (Op.aQ 1 [a,b]) λ g x=>gn g (Op.store 1 [x,c] H) K2)/\(∀ (K:Bool->AV->Prop) (o:BinOp) (a b:AV),Bn true o a b K=B3 true (Op.bin o [a,b]) K)/\(∀ (A B:Bool->Prop) (o:BinOp) (a b:AV),Cb true o a b A B=B3 true (Op.bin o [a,b]) λ g v=>i9 g v A B)/\(∀ (E:Env) (H:AHeap) (M:aA) (c:Ctx) (p:Kp × aj) (Q:au) (D:List aD),Gt true M c p Q E D H=oJ true (cT (W M c p) Q) aC.normal E D H)/\dq []=AV.tuple []/\(∀ (v:AV),dq [v]=v) /\ ∀ (a b:AV) (l:List AV),dq (a::b::l)=AV.tuple (a::b::l) :=
 And.intro @AR<|And.intro @AF<|And.intro @xZ<|And.intro vY<|And.intro q4r<|And.intro xM<|And.intro q4s<|And.intro Ld<|And.intro G0<|And.intro @qd<|And.intro xL <|
 And.intro Cm<|And.intro wM<|And.intro uk<|And.intro qE<|And.intro vM<|And.intro tJ<|And.intro AU <|
 And.intro qzu<|And.intro wV<|And.intro q4z<|And.intro q40<|And.intro q23<|And.intro qzp<|And.intro tH<|And.intro q4l<|And.intro q2r<|And.intro q4k <|
 And.intro q2z<|And.intro AH<|And.intro zC<|And.intro AZ<|And.intro q20<|And.intro Ax<|And.intro wE<|And.intro uo<|And.intro q4u<|And.intro wB<|And.intro qzs<|And.intro q2y<|And.intro wH<|And.intro vP<|And.intro q21<|And.intro q22 <|
 And.intro A6<|And.intro Od<|And.intro Qh<|And.intro Pf<|And.intro Oo<|And.intro OL<|And.intro P2<|And.intro Nx<|And.intro O5<|And.intro MC<|And.intro PC<|And.intro NY<|And.intro Ot<|And.intro OS LZ
theorem HX:(∀ (v:AV),Op.move [v]=some v)/\(∀ (q:Bool) (a b:AV),Op.pick [AV.bool q,a,b]=some (bif q then a else b))/\(∀ (k:IntKind) (a b:Int),Op.bin BinOp.add [AV.int k a,AV.int k b]=some (AV.int k (ak k (a+b))))/\(∀ (k:IntKind) (a b:Int),Op.bin BinOp.sub [AV.int k a,AV.int k b]=some (AV.int k (ak k (a-b))))/\(∀ (k:IntKind) (a b:Int),Op.bin BinOp.mul [AV.int k a,AV.int k b]=some (AV.int k (ak k (a*b))))/\(∀ (k:IntKind) (a b:Int),Op.bin BinOp.eql [AV.int k a,AV.int k b]=some (AV.bool (decide (a=b))))/\(∀ (k:IntKind) (a b:Int),Op.bin BinOp.neq [AV.int k a,AV.int k b]=some (AV.bool (decide (a ≠ b))))/\(∀ (k:IntKind) (a b:Int),Op.bin BinOp.lss [AV.int k a,AV.int k b]=some (AV.bool (decide (a<b))))/\(∀ (k:IntKind) (a b:Int),Op.bin BinOp.leq [AV.int k a,AV.int k b]=some (AV.bool (decide (a<=b))))/\(∀ (k:IntKind) (a b:Int),Op.bin BinOp.gtr [AV.int k a,AV.int k b]=some (AV.bool (decide (b<a))))/\(∀ (k:IntKind) (a b:Int),Op.bin BinOp.geq [AV.int k a,AV.int k b]=some (AV.bool (decide (b<=a))))/\(∀ (k:IntKind) (a:Int) (k':IntKind),Op.wrap k [AV.int k' a]=some (AV.int k (ak k a)))/\(∀ (q:Bool),Op.un UnOp.not [AV.bool q]=some (AV.bool !q))/\(∀ (a b:List UInt8),Op.bin BinOp.eql [AV.str a,AV.str b]=some (AV.bool (decide (a=b))))/\(∀ (a b:List UInt8),Op.bin BinOp.neq [AV.str a,AV.str b]=some (AV.bool (decide (a ≠ b))))/\(∀ (s:List UInt8),Op.fP [AV.str s]=some (AV.int IntKind.i64 ↑s.length))/\(∀ (f n:Nat) (l:List AV),Op.cA f n l=some (AV.fn (eR.func f) (List.take n l) (List.drop n l)))/\(∀ (t:Nat) (v:AV),Op.eN t [v]=some (AV.iface t v))/\(∀ (off b o:Nat),Op.fieldAddr off [AV.ptr b o]=some (AV.ptr b (o+off)))/\(∀ (off:Nat) (l:List AV),Op.field off none [AV.agg l]=l[off]?)/\(∀ (q:Bool),cB true (some (AV.bool q))=some q)/\(∀ (q:Bool),cB false (some (AV.bool q))=some !q)/\(∀ (b:Bool),cB b (some AV.undef)=some false)/\(∀ (b:Nat),Op.ptrTo b=AV.ptr b 0)/\(∀ (l:List AV),(AV.agg l).cells=l)/\(∀ (k:IntKind) (n:Int),(AV.int k n).cells=[AV.int k n])/\(∀ (b:Bool),(AV.bool b).cells=[AV.bool b])/\(∀ (s:List UInt8),(AV.str s).cells=[AV.str s])/\(∀ (b o:Nat),(AV.ptr b o).cells=[AV.ptr b o])/\(∀ (h:Decidable True),decide True=true)/\(∀ (h:Decidable False),decide False=false)/\(!true)=false/\(!false)=true/\(¬True)=False/\(¬False)=True/\(∀ {α:Type} (a b:α),(a ≠ b) = ¬a=b)/\(∀ (p:Prop),(True/\p)=p)/\(∀ (p:Prop),(p/\True)=p)/\(∀ (p:Prop),(False/\p)=False)/\(∀ (p:Prop),(p/\False)=False)/\(∀ {α:Type} (a b:α),(bif true then a else b)=a)/\(∀ {α:Type} (a b:α),(bif false then a else b)=b)/\(∀ {α:Type} {β:Type} (a:α) (f:α->Option β),(some a).bind f=f a)/\(∀ (n:Nat),n+0=n)/\(∀ (n:Nat),0+n=n)/\(∀ {α:Type} {a:α} {l:List α},(a::l)[0]? = some a)/\(∀ {α:Type} {a:α} {i:Nat} {l:List α},(a::l)[i+1]? = l[i]?)/\(∀ {α:Type} (as:List α),[]++as=as) /\ ∀ {α:Type} {a:α} {as bs:List α},a::as++bs=a::(as++bs) :=
 And.intro Ft<|And.intro Ej<|And.intro @IY<|And.intro @Hu<|And.intro @Jp<|And.intro @Js<|And.intro @JI<|And.intro @IX<|And.intro @GY<|And.intro @HD<|And.intro @G6<|And.intro @DB<|And.intro HE <|
 And.intro DN<|And.intro Dv<|And.intro xW<|And.intro xR<|And.intro q6q<|And.intro q0u<|And.intro vA<|And.intro Fx<|And.intro AM<|And.intro Cs<|And.intro HC <|
 And.intro xk<|And.intro q5d<|And.intro q3f<|And.intro q5f<|And.intro q5e<|And.intro @decide_true<|And.intro @decide_false<|And.intro Bool.not_true<|And.intro Bool.not_false<|And.intro not_true_eq_false<|And.intro not_false_eq_true<|And.intro @ne_eq<|And.intro sy<|And.intro od<|And.intro false_and<|And.intro and_false <|
 And.intro @xf<|And.intro @za<|And.intro @qj<|And.intro qh<|And.intro jy<|And.intro @je<|And.intro @zk<|And.intro @zn @Ep
theorem qp:type_of% Dh/\type_of% Jl/\type_of% HX:=⟨Dh,Jl,HX⟩
section
variable {α:Type} {enc:α->List AV} {e size:Nat} {H0 H H':AHeap} {v:AV} {xs:List α}
theorem og.to3 {α β:Type} {m g:Bool} {o:Option (α × β)} {K:Bool -> α -> β->Prop} (h:og m o λ _ a b=>K g a b):gn g o K:=by
 cases o with
 | none=>exact False.elim h
 | some a=>exact h
theorem q1h {H:AHeap} {e size bytes:Nat} {v:AV} {n:Nat} {cells:List AV} (h:Own H e size v n cells) {x:AV} {k:Nat} {new:List AV} (hx:Sl H size x k new) (hnew:aO new=true) (hs:0<size)
 (hf:(n+k)*bytes<=140737488355328) (hf':n+k<=140737488355328) {K:Bool->AV->AHeap->Prop} {m:Bool}
 (hk:∀ v' H',Own H' e size v' (n+k) (cells++new)->Fr (aI v) H H'->(∀ b,aI v' b->aI v b\/H.next<=b)->K m v' H'):gn m (Op.append e size bytes [v,x] H) K :=
 og.to3 (m:=m) (qus h hx hnew hs hf hf' hk)
theorem gE {H:AHeap} {e size bytes:Nat} {v:AV} {n:Nat} {cells:List AV} (h:Own H e size v n cells) {zero:List AV} {x:AV} (hz:zero.length=size) (hx:x.cells.length=size) (hnew:aO x.cells=true) (hs:0<size)
 (hf:(n+1)*bytes<=140737488355328) (hf':n+1<=140737488355328) {K:bm->(Nat->AV)->Bool->AV->AHeap->Prop} {m:Bool}
 (hk:∀ v' H',Own H' e size v' (n+1) (cells++x.cells)->Fr (aI v) H H'->(∀ b,aI v' b->aI v b\/H.next<=b)->K (.row x.cells e (0,0) true) (Op.sliceTo 1 1) m v' H') :
 gn m (Op.buildSlice e 1 zero [(0,size)] [x]) λ g o mk=>gn g (Op.append e size bytes [v,mk H.next] (H.alloc o)) (K o mk):=by
 have:=Aw (m:=m) h hz hx hnew hs hf hf' (K:=λ o mk _ v H=>K o mk m v H) hk;obtain ⟨o,mk,h1,h2⟩:∃ o mk,Op.buildSlice e 1 zero [(0,size)] [x]=some (o,mk)/\og true (Op.append e size bytes [v,mk H.next] (H.alloc o)) (λ _ v H=>K o mk m v H):=by
  unfold og at this;split at this
  ·rename_i a ha;exact ⟨a.1,a.2,ha,this⟩
  ·exact this.elim
 refine gn.intro h1 ?_;unfold og at h2;split at h2
 ·rename_i a ha;exact gn.intro (a:=a.1) (b:=a.2) ha h2
 ·exact h2.elim
end
end
end Go.Am
namespace Go.Am
abbrev OR (c:List AV) (e:Nat):bm:=.row c e (0,0) true
theorem qi (b o:Nat):Op.nilCheck [.ptr b o]=some (.ptr b o):=rfl
theorem qn (i:Nat) (l:List AV):Op.extract i [.tuple l]=l[i]?:=q6p i l
abbrev WE (M:aA) (c:Ctx) (p:Kp × aj) (R:au->Env->List aD->AHeap->Prop):Prop:=∀ Q E D H,W M c p true Q E D H=R Q E D H
end Go.Am
