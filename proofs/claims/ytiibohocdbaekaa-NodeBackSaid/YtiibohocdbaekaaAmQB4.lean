/- B4: Logic Logic2 Val Sim Val2 Val3 Iter Logic3 Logic4 Mono3 Sim3 Mem3. -/
import Derived.Test.YtiibohocdbaekaaAmQB2
import Derived.Test.YtiibohocdbaekaaAmQB1
set_option linter.unusedVariables false
set_option linter.unusedSimpArgs false
namespace Go.Am
def dirty:Bool:=true
def BIND {α:Type} (m:Bool) (o:Option α) (K:α->Prop):Prop:=match o with
 | some a=>K a
 | none=>False
def BIND2 {α β:Type} (m:Bool) (o:Option (α × β)) (K:α -> β->Prop):Prop:=match o with
 | some a=>K a.1 a.2
 | none=>False
def IFB (m:Bool) (q:Bool) (A B:Prop):Prop:=match q with
 | true=>A
 | false=>B
@[congr] theorem BIND_congr {α:Type} {m m':Bool} {o o':Option α} {K:α->Prop} (hm:m=m') (h:o=o'):BIND m o K=BIND m' o' K:=by rw [h,hm]
@[congr] theorem BIND2_congr {α β:Type} {m m':Bool} {o o':Option (α × β)} {K:α -> β->Prop} (hm:m=m') (h:o=o'):BIND2 m o K=BIND2 m' o' K:=by rw [h,hm]
@[congr] theorem IFB_congr {m m' q q':Bool} {A B:Prop} (hm:m=m') (h:q=q'):IFB m q A B=IFB m' q' A B:=by rw [h,hm]
theorem BIND.elim {α:Type} {m:Bool} {o:Option α} {K:α->Prop} (h:BIND m o K):∃ a,o=some a/\K a:=by
 cases o with
 | none=>exact False.elim h
 | some a=>exact ⟨a,rfl,h⟩
theorem BIND2.elim {α β:Type} {m:Bool} {o:Option (α × β)} {K:α -> β->Prop} (h:BIND2 m o K):∃ a b,o=some (a,b)/\K a b:=by
 cases o with
 | none=>exact False.elim h
 | some a=>exact ⟨a.1,a.2,rfl,h⟩
theorem BIND.intro {α:Type} {m:Bool} {o:Option α} {K:α->Prop} {a:α} (h:o=some a) (hk:K a):BIND m o K:=by subst h;exact hk
theorem BIND2.intro {α β:Type} {m:Bool} {o:Option (α × β)} {K:α -> β->Prop} {a:α} {b:β} (h:o=some (a,b)) (hk:K a b):BIND2 m o K:=by subst h;exact hk
theorem IFB.dec {m:Bool} {p:Prop} [Decidable p] {A B:Prop} (h1:p->A) (h2:¬ p->B):IFB m (decide p) A B:=by
 by_cases h:p
 ·rw [qew h];exact h1 h
 ·rw [qe7 h];exact h2 h
theorem IFB.cases {m:Bool} {q:Bool} {A B:Prop} (h1:q=true->A) (h2:q=false->B):IFB m q A B:=by
 cases q with
 | true=>exact h1 rfl
 | false=>exact h2 rfl
def asBool:AV->Option Bool
 | .bool q=>some q
 | _=>none
noncomputable section
structure Mac where
 prog:AProg
 told:CallFn
 mute:Nat->Bool
 ok:∀ f vs up H,mute f=false->told f vs up H=none
def Mac.call (M:Mac) (n:Nat):CallFn:=acallT M.prog M.told n
def Mac.func (M:Mac) (f:Nat):Option AFunc:=cond (M.mute f) none (M.prog.func f)
def Mac.meth (M:Mac):Nat->String->Option Nat:=M.prog.meth
theorem Mac.func_eq {M:Mac} {f:Nat} {fn:AFunc} (h:M.func f=some fn):M.mute f=false/\M.prog.func f=some fn:=by
 unfold Mac.func at h
 cases hm:M.mute f with
 | true=>rw [hm] at h;cases h
 | false=>rw [hm] at h;exact ⟨rfl,h⟩
theorem Mac.call_succ {M:Mac} {f:Nat} (h:M.mute f=false) (n:Nat) (vs:List AV) (up:Option Chain) (H:AHeap):M.call (n+1) f vs up H=qim M.prog (M.call n) n f vs up H:=by
 show (match M.told f vs up H with|some r=>some r|none=>qim M.prog (acallT M.prog M.told n) n f vs up H)=_
 rw [M.ok f vs up H h];rfl
variable (AP:Mac)
def RTn (n k:Nat) (ctx:Ctx):RT:=⟨AP.prog,AP.call n,rounds AP.prog (AP.call n) n k,n,ctx⟩
def CALLU (f:Nat) (vs:List AV) (up:Option Chain) (H:AHeap) (e:AEnd) (up':Option Chain) (H':AHeap):Prop:=∃ n0,∀ n,n0<=n->AP.call n f vs up H=some (e,up',H')
def CALL (f:Nat) (vs:List AV) (H:AHeap) (e:AEnd) (H':AHeap):Prop:=CALLU AP f vs none H e none H'
def ROUND (l:Nat) (vs:List AV) (H:AHeap) (e:AEnd) (H':AHeap):Prop:=∃ n0,∀ n k,n0<=n->n0<=k->rounds AP.prog (AP.call n) n k vs l H=some (e,H')
def ENTER:AFn->List AV->AHeap->AEnd->AHeap->Prop
 | .func g=>CALL AP g
 | .yield l=>ROUND AP l
def CALLK (m:Bool) (f:AFn) (vs:List AV) (H:AHeap) (K:AV->AHeap->Prop) (E:Chain->AHeap->Prop):Prop :=
 ∃ e H',ENTER AP f vs H e H'/\match e with
  | .ret v=>K v H'
  | .panic c=>E c H'
@[congr] theorem CALLK_congr {AP:Mac} {m m':Bool} {f:AFn} {vs vs':List AV} {H:AHeap} {K:AV->AHeap->Prop} {E:Chain->AHeap->Prop} (hm:m=m') (h:vs=vs'):CALLK AP m f vs H K E=CALLK AP m' f vs' H K E:=by rw [h,hm]
def VIA (m:Bool) (vs:List AV) (K:AFn->List AV->Prop):Prop:=match vs with
 | .fn (.func g) first cap::args=>K (.func g) (first++(args++cap))
 | .fn (.yield l) first []::args=>K (.yield l) (first++args)
 | _=>False
@[congr] theorem VIA_congr {m m':Bool} {vs vs':List AV} {K:AFn->List AV->Prop} (hm:m=m') (h:vs=vs'):VIA m vs K=VIA m' vs' K:=by rw [h,hm]
def INV (m:Bool) (name:String) (vs:List AV) (K:AFn->List AV->Prop):Prop:=match vs with
 | .iface t v::args=>BIND dirty (AP.meth t name) fun g=>K (.func g) (v::args)
 | _=>False
@[congr] theorem INV_congr {AP:Mac} {m m':Bool} {name:String} {vs vs':List AV} {K:AFn->List AV->Prop} (hm:m=m') (h:vs=vs'):INV AP m name vs K=INV AP m' name vs' K:=by rw [h,hm]
def EVL (tm:T AV):List AOpd->(List AV->Prop)->Prop
 | [],K=>K []
 | .tmp t::xs,K=>BIND dirty (tm.get t) fun v=>EVL tm xs fun vs=>K (v::vs)
 | .const v::xs,K=>EVL tm xs fun vs=>K (v::vs)
 | .glob g::xs,K=>EVL tm xs fun vs=>K (.ptr g 0::vs)
 | .func f::xs,K=>EVL tm xs fun vs=>K (.fn (.func f) [] []::vs)
theorem EVL.elim {tm:T AV}:∀ {l:List AOpd} {K:List AV->Prop},EVL tm l K -> ∃ vs,evL tm l=some vs/\K vs
 | [],K,h=>⟨[],rfl,h⟩
 | .tmp t::xs,K,h=>by
  obtain ⟨v,hv,h⟩:=BIND.elim (m:=dirty) h
  obtain ⟨vs,h1,h2⟩:=EVL.elim h
  exact ⟨v::vs,by simp [evL,evO,hv,h1],h2⟩
 | .const v::xs,K,h=>by
  obtain ⟨vs,h1,h2⟩:=EVL.elim (l:=xs) h
  exact ⟨v::vs,by simp [evL,evO,h1],h2⟩
 | .glob v::xs,K,h=>by
  obtain ⟨vs,h1,h2⟩:=EVL.elim (l:=xs) h
  exact ⟨_,by simp [evL,evO,h1],h2⟩
 | .func v::xs,K,h=>by
  obtain ⟨vs,h1,h2⟩:=EVL.elim (l:=xs) h
  exact ⟨_,by simp [evL,evO,h1],h2⟩
def EVO (tm:T AV) (x:AOpd) (K:AV->Prop):Prop:=match x with
 | .tmp t=>BIND dirty (tm.get t) K
 | .const v=>K v
 | .glob g=>K (.ptr g 0)
 | .func f=>K (.fn (.func f) [] [])
theorem EVO.elim {tm:T AV} {x:AOpd} {K:AV->Prop} (h:EVO tm x K):∃ v,evO tm x=some v/\K v:=by
 cases x with
 | tmp t=>exact BIND.elim (m:=dirty) h
 | const v=>exact ⟨v,rfl,h⟩
 | glob v=>exact ⟨_,rfl,h⟩
 | func v=>exact ⟨_,rfl,h⟩
abbrev Post:=AExit->St->Prop
def PAN (ps:Option (List Nat)) (tm:T AV) (dfs:List ADef) (up:Option Chain) (Q:Post) (c:Chain) (H:AHeap):Prop:=match ps with
 | some ds=>Q (.panic c) ⟨forget ds tm,dfs,up,H⟩
 | none=>False
def RECOV (m:Bool) (ctx:Ctx) (up:Option Chain) (K:AV->Option Chain->Prop):Prop:=ctx.round=none/\match up with
 | some ((v,false)::older)=>K v (some ((v,true)::older))
 | _=>K .nili up
@[congr] theorem RECOV_congr {m m':Bool} {ctx:Ctx} {up up':Option Chain} {K:AV->Option Chain->Prop} (hm:m=m') (h:up=up'):RECOV m ctx up K=RECOV m' ctx up' K:=by rw [h,hm]
def DEFR (m:Bool) (ctx:Ctx) (vs:List AV) (dfs:List ADef) (K:List ADef->Prop):Prop:=ctx.round=none/\match vs with
 | .fn (.func f) first cap::args=>K (.fn (.func f) (first++(args++cap))::dfs)
 | _=>False
@[congr] theorem DEFR_congr {m m':Bool} {ctx:Ctx} {vs vs':List AV} {dfs:List ADef} {K:List ADef->Prop} (hm:m=m') (h:vs=vs'):DEFR m ctx vs dfs K=DEFR m' ctx vs' dfs K:=by rw [h,hm]
def PANICK (vs:List AV) (H:AHeap) (E:Chain->AHeap->Prop):Prop:=match vs with
 | [.iface t v]=>E [(.iface t v,false)] H
 | _=>False
@[congr] theorem PANICK_congr {vs vs':List AV} {H:AHeap} {E:Chain->AHeap->Prop} (h:vs=vs'):PANICK vs H E=PANICK vs' H E:=by rw [h]
def OPK (ctx:Ctx) (dst:Option Nat) (ps:Option (List Nat)) (st:St) (Q:Post) (K:St->Prop) (vs:List AV):AOp->Prop
 | .pure f=>BIND dirty (f vs) fun v=>K ⟨putD dst v st.tm,st.dfs,st.up,st.H⟩
 | .read f=>BIND dirty (f vs st.H) fun v=>K ⟨putD dst v st.tm,st.dfs,st.up,st.H⟩
 | .alloc f=>BIND2 dirty (f vs) fun o mk=>K ⟨putD dst (mk st.H.next) st.tm,st.dfs,st.up,st.H.alloc o⟩
 | .eff f=>BIND2 dirty (f vs st.H) fun v H=>K ⟨putD dst v st.tm,st.dfs,st.up,H⟩
 | .callF g=>CALLK AP dirty (.func g) vs st.H (fun v H=>K ⟨putD dst v st.tm,st.dfs,st.up,H⟩) (PAN ps st.tm st.dfs st.up Q)
 | .callV=>VIA dirty vs fun f vs=>CALLK AP dirty f vs st.H (fun v H=>K ⟨putD dst v st.tm,st.dfs,st.up,H⟩) (PAN ps st.tm st.dfs st.up Q)
 | .invoke name=>INV AP dirty name vs fun f vs=>CALLK AP dirty f vs st.H (fun v H=>K ⟨putD dst v st.tm,st.dfs,st.up,H⟩) (PAN ps st.tm st.dfs st.up Q)
 | .recover=>match vs with
  | []=>RECOV dirty ctx st.up fun v up=>K ⟨putD dst v st.tm,st.dfs,up,st.H⟩
  | _=>False
 | .defer=>DEFR dirty ctx vs st.dfs fun dfs=>K ⟨putD dst .undef st.tm,dfs,st.up,st.H⟩
 | .panic=>PANICK vs st.H (PAN ps st.tm st.dfs st.up Q)
def CHK (dst:Option Nat) (st:St) (vs:List AV):AOp->Prop
 | .read f=>match dst with
  | some d=>BIND dirty (f vs st.H) fun v=>BIND dirty (st.tm.get d) fun v'=>v=v'
  | none=>False
 | _=>False
def STEP (ctx:Ctx) (s:AStep) (st:St) (Q:Post) (K:St->Prop):Prop :=
 match s.chk with
 | false=>match s.guard with
  | none=>EVL st.tm s.args fun vs=>OPK AP ctx s.dst s.psafe st Q K vs s.op
  | some g=>BIND dirty (wantV g.2 (st.tm.get g.1)) fun w=>IFB dirty w (EVL st.tm s.args fun vs=>OPK AP ctx s.dst s.psafe st Q K vs s.op) (K ⟨putD s.dst .undef st.tm,st.dfs,st.up,st.H⟩)
 | true=>match s.guard with
  | none=>EVL st.tm s.args fun vs=>CHK s.dst st vs s.op/\K st
  | some g=>BIND dirty (wantV g.2 (st.tm.get g.1)) fun w=>IFB dirty w (EVL st.tm s.args fun vs=>CHK s.dst st vs s.op/\K st) (s.dst.isSome=true/\K st)
def WPS (ctx:Ctx):List AStep->St->Post->Prop
 | [],st,Q=>Q .normal st
 | s::rest,st,Q=>STEP AP ctx s st Q fun st'=>WPS ctx rest st' Q
def SEQ (W:St->Post->Prop) (Q:Post):Post:=fun e st=>match e with
 | .normal=>W st Q
 | e=>Q e st
def BLK (id:Nat) (Q:Post):Post:=fun e st=>match e with
 | .exit id'=>Q (cond (Nat.beq id id') .normal (.exit id')) st
 | e=>Q e st
def SCP (b:ACode) (Q:Post):Post:=fun e st=>match e with
 | .goto l=>qhy b l=false/\Q (.goto l) st
 | e=>Q e st
def keepT (keep:Option (List Nat)) (st:St):St:=match keep with
 | none=>st
 | some ks=>{ st with tm:=qyl st.tm ks .nil }
def LOOP (W:St->Post->Prop) (keep:Option (List Nat)) (st:St) (Q:Post):Prop :=
 ∃ I:Nat->St->Prop,(∃ n,I n st) /\ ∀ n st,I n st->W (keepT keep st) fun e st'=>match e with
  | .normal=>∃ m,m<n/\I m st'
  | e=>Q e st'
def ENDL (st:St) (dfs:List ADef) (l:Nat) (Q:Post) (e:AEnd) (H:AHeap):Prop:=match e with
 | .panic c=>Q (.panic c) { st with dfs:=dfs,H:=H }
 | .ret _=>∃ s p f k tm d,H.get l=some (.loop s p f k tm d)/\s ≠ .busy/\Q (exitOf p) { st with dfs:=dfs,H:=H.set l (.loop .exhausted p f k tm d) }
def RANGE (ctx:Ctx) (st:St) (k:Nat) (H0:AHeap) (dfs:List ADef) (d:Nat) (Q:Post):AV->Prop
 | .fn (.func g) first cap=>∃ e H',CALL AP g (first++(.fn (.yield H0.next) [] []::cap)) (H0.alloc (.loop .ready none ctx.fn k st.tm d)) e H'/\ENDL st dfs H0.next Q e H'
 | _=>False
def RNG (ctx:Ctx) (k:Nat) (st:St) (Q:Post) (v:AV):Prop:=match ctx.round with
 | none=>RANGE AP ctx st k (st.H.alloc (.deferred (some []))) (.coll st.H.next::st.dfs) st.H.next Q v
 | some l=>BIND dirty (loopD st.H l) fun d=>RANGE AP ctx st k st.H st.dfs d Q v
def WP (ctx:Ctx):ACode->St->Post->Prop
 | .skip,st,Q=>Q .normal st
 | .label _,st,Q=>Q .normal st
 | .region steps,st,Q=>WPS AP ctx steps st Q
 | .seq a b,st,Q=>WP ctx a st (SEQ (WP ctx b) Q)
 | .cond c a b,st,Q=>EVO st.tm c fun v=>BIND dirty (asBool v) fun q=>IFB dirty q (WP ctx a st Q) (WP ctx b st Q)
 | .block id b,st,Q=>WP ctx b st (BLK id Q)
 | .loop keep b,st,Q=>LOOP (WP ctx b) keep st Q
 | .exit id,st,Q=>Q (.exit id) st
 | .goto l,st,Q=>Q (.goto l) st
 | .ret,st,Q=>Q .ret st
 | .stuck,_,_=>False
 | .scope b,st,Q=>WP ctx b st (SCP b Q)
 | .rangeFunc f k,st,Q=>EVO st.tm f fun v=>RNG AP ctx k st Q v
section
variable (ctx:Ctx) (st:St) (Q:Post)
theorem qw8 (s:AStep) (l:List AStep):WPS AP ctx (s::l) st Q=STEP AP ctx s st Q fun st'=>WPS AP ctx l st' Q:=propext j8
end
def EX (ctx:Ctx) (c:ACode) (st:St) (r:AExit × St):Prop:=∃ n0,∀ n k,n0<=n->n0<=k->(codeC c).run (RTn AP n k ctx) st=some r
def EXS (ctx:Ctx) (l:List AStep) (st:St) (r:AExit × St):Prop:=∃ n0,∀ n k,n0<=n->n0<=k->(stepsC l).run (RTn AP n k ctx) st=some r
theorem ENTER.run {AP:Mac} {f:AFn} {vs:List AV} {H:AHeap} {e:AEnd} {H':AHeap} (h:ENTER AP f vs H e H') :
 ∃ n0,∀ n k,n0<=n->n0<=k->enterA (AP.call n) (rounds AP.prog (AP.call n) n k) f vs H=some (e,H'):=by
 cases f with
 | func g=>obtain ⟨n0,h⟩:=h;exact ⟨n0,fun n k hn _=>by simp [enterA,h n hn]⟩
 | yield l=>obtain ⟨n0,h⟩:=h;exact ⟨n0,fun n k hn hk=>by simp [enterA,h n k hn hk]⟩
theorem qv6:(∀ v,sameV v v=true)/\(∀ l,sameL l l=true):=by
 have e1:∀ n,Nat.beq n n=true:=fun n=>by simp
 have e2:∀ k,eqK k k=true:=fun k=>by cases k<;>rfl
 have e3:∀ i,eqI i i=true:=fun i=>by rw [qkh];simp
 have e4:∀ s,eqS s s=true:=fun s=>by rw [qtf];simp
 refine ⟨fun v=>?_,fun l=>?_⟩
 ·refine AV.rec (motive_1:=fun v=>sameV v v=true) (motive_2:=fun l=>sameL l l=true) ?_ ?_ ?_ ?_ ?_ ?_ ?_ ?_ ?_ ?_ ?_ ?_ ?_ ?_ ?_ ?_ ?_ ?_ ?_ v
  all_goals (intros;first|rfl|(simp only [sameV,sameL,e1,e2,e3,e4,ko,beq_self_eq_true, *];done) | (rename_i f _ _ _ _;cases f<;>simp only [sameV,sameL,e1,ko, *]))
 ·refine AV.rec_1 (motive_1:=fun v=>sameV v v=true) (motive_2:=fun l=>sameL l l=true) ?_ ?_ ?_ ?_ ?_ ?_ ?_ ?_ ?_ ?_ ?_ ?_ ?_ ?_ ?_ ?_ ?_ ?_ ?_ l
  all_goals (intros;first|rfl|(simp only [sameV,sameL,e1,e2,e3,e4,ko,beq_self_eq_true, *];done) | (rename_i f _ _ _ _;cases f<;>simp only [sameV,sameL,e1,ko, *]))
theorem q4o (v:AV):sameV v v=true:=qv6.1 v
theorem CHK.run {d:Option Nat} {st:St} {vs:List AV} {op:AOp} (h:CHK d st vs op):∃ t,d=some t/\chkOp (T.getC (T.path t)).run st vs op=true:=by
 cases op with
 | read f =>
  cases d with
  | none=>exact False.elim h
  | some t =>
   refine ⟨t,rfl,?_⟩
   obtain ⟨v,h1,h⟩:=BIND.elim (m:=dirty) h
   obtain ⟨v',h2,h⟩:=BIND.elim (m:=dirty) h
   subst h
   have h2':(T.getC (T.path t)).run st.tm=some v:=by rw [T.getC_run];exact h2
   simp [chkOp,h1,h2',q4o]
 | _=>exact False.elim h
theorem OPK.run {AP:Mac} {ctx:Ctx} {dst:Option Nat} {ps:Option (List Nat)} {st:St} {Q:Post} {K:St->Prop} {vs:List AV} {op:AOp} (h:OPK AP ctx dst ps st Q K vs op)
 {kk:Nat->Nat->St->Res} (hK:∀ st,K st -> ∃ e st',Q e st' /\ ∃ n0,∀ n k,n0<=n->n0<=k->kk n k st=some (e,st')) :
 ∃ e st',Q e st' /\ ∃ n0,∀ n k,n0<=n->n0<=k->(opC (putDC dst).run ps op).run (RTn AP n k ctx) st (kk n k) vs=some (e,st'):=by
 have hp:∀ v tm,(putDC dst).run v tm=putD dst v tm:=qu6 dst
 have call:∀ {f vs},CALLK AP dirty f vs st.H (fun v H=>K ⟨putD dst v st.tm,st.dfs,st.up,H⟩) (PAN ps st.tm st.dfs st.up Q) ->
  ∃ e st',Q e st' /\ ∃ n0,∀ n k,n0<=n->n0<=k->((enterA (AP.call n) (rounds AP.prog (AP.call n) n k) f vs st.H).bind fun r=>stepEnd (putDC dst).run ps st (kk n k) r)=some (e,st'):=by
  rintro f vs ⟨e,H',h1,h⟩
  obtain ⟨n0,h1⟩:=h1.run
  cases e with
  | ret v =>
   obtain ⟨e,st',hq,n1,h2⟩:=hK _ h
   refine ⟨e,st',hq,max n0 n1,fun n k hn hk=>?_⟩
   rw [h1 n k (by omega) (by omega)]
   simpa [stepEnd,hp] using h2 n k (by omega) (by omega)
  | panic c =>
   cases ps with
   | none=>exact False.elim h
   | some ds =>
    refine ⟨_,_,h,n0,fun n k hn hk=>?_⟩
    rw [h1 n k (by omega) (by omega)]
    simp [stepEnd]
 cases op with
 | pure f =>
  obtain ⟨v,h1,h⟩:=BIND.elim (m:=dirty) h
  obtain ⟨e,st',hq,n1,h2⟩:=hK _ h
  exact ⟨e,st',hq,n1,fun n k hn hk=>by simp [opC,kPure,h1,hp,h2 n k hn hk]⟩
 | read f =>
  obtain ⟨v,h1,h⟩:=BIND.elim (m:=dirty) h
  obtain ⟨e,st',hq,n1,h2⟩:=hK _ h
  exact ⟨e,st',hq,n1,fun n k hn hk=>by simp [opC,kRead,h1,hp,h2 n k hn hk]⟩
 | alloc f =>
  simp only [OPK] at h
  obtain ⟨o,mk,h1,h⟩:=BIND2.elim (m:=dirty) h
  obtain ⟨e,st',hq,n1,h2⟩:=hK _ h
  exact ⟨e,st',hq,n1,fun n k hn hk=>by simp [opC,kAlloc,h1,hp,h2 n k hn hk]⟩
 | eff f =>
  simp only [OPK] at h
  obtain ⟨o,mk,h1,h⟩:=BIND2.elim (m:=dirty) h
  obtain ⟨e,st',hq,n1,h2⟩:=hK _ h
  exact ⟨e,st',hq,n1,fun n k hn hk=>by simp [opC,kEff,h1,hp,h2 n k hn hk]⟩
 | callF f=>exact call h
 | callV =>
  simp only [OPK,VIA] at h
  split at h
  ·exact call h
  ·exact call h
  ·exact False.elim h
 | invoke name =>
  simp only [OPK,INV] at h
  split at h
  ·obtain ⟨g,hg,h⟩:=BIND.elim (m:=dirty) h
   obtain ⟨e,st',hq,n1,h2⟩:=call h
   exact ⟨e,st',hq,n1,fun n k hn hk=>by simpa [opC,kInvoke,RTn,(show AP.prog.meth _ name=some g from hg)] using h2 n k hn hk⟩
  ·exact False.elim h
 | recover =>
  simp only [OPK] at h
  split at h
  ·obtain ⟨hr,h⟩:=h
   split at h
   ·rename_i v older hup
    obtain ⟨e,st',hq,n1,h2⟩:=hK _ h
    exact ⟨e,st',hq,n1,fun n k hn hk=>by simpa [opC,qss,RTn,hr,qpp,hup,hp] using h2 n k hn hk⟩
   ·rename_i hup
    obtain ⟨e,st',hq,n1,h2⟩:=hK _ h
    refine ⟨e,st',hq,n1,fun n k hn hk=>?_⟩
    have:qpp (putDC dst).run st=⟨putD dst .nili st.tm,st.dfs,st.up,st.H⟩:=by
     unfold qpp
     split
     ·rename_i v older hu;exact (hup _ _ hu).elim
     ·rw [hp]
    simpa [opC,qss,RTn,hr,this] using h2 n k hn hk
  ·exact False.elim h
 | defer =>
  obtain ⟨hr,h⟩:=h
  split at h
  ·obtain ⟨e,st',hq,n1,h2⟩:=hK _ h
   exact ⟨e,st',hq,n1,fun n k hn hk=>by simpa [opC,kDefer,RTn,hr,hp] using h2 n k hn hk⟩
  ·exact False.elim h
 | panic =>
  simp only [OPK,PANICK] at h
  split at h
  ·cases ps with
   | none=>exact False.elim h
   | some ds=>exact ⟨_,_,h,0,fun n k hn hk=>by simp [opC,kPanic,stepEnd]⟩
  ·exact False.elim h
theorem STEP.run {AP:Mac} {ctx:Ctx} {s:AStep} {st:St} {Q:Post} {K:St->Prop} (h:STEP AP ctx s st Q K)
 {kk:Nat->Nat->St->Res} (hK:∀ st,K st -> ∃ e st',Q e st' /\ ∃ n0,∀ n k,n0<=n->n0<=k->kk n k st=some (e,st')) :
 ∃ e st',Q e st' /\ ∃ n0,∀ n k,n0<=n->n0<=k->(stepC s).run (RTn AP n k ctx) (kk n k) st=some (e,st'):=by
 obtain ⟨chk,dst,guard,args,op,ps⟩:=s
 have hp:∀ v tm,(putDC dst).run v tm=putD dst v tm:=qu6 dst
 have hc:∀ g,(T.getC (T.path g)).run st.tm=st.tm.get g:=fun g=>by rw [T.getC_run];rfl
 cases chk with
 | false =>
  cases guard with
  | none =>
   obtain ⟨vs,h1,h⟩:=EVL.elim h
   obtain ⟨e,st',hq,n0,h2⟩:=h.run hK
   exact ⟨e,st',hq,n0,fun n k hn hk=>by simpa [stepC,qih,h1] using h2 n k hn hk⟩
  | some g =>
   obtain ⟨w,hw,h⟩:=BIND.elim (m:=dirty) h
   cases w with
   | true =>
    obtain ⟨vs,h1,h⟩:=EVL.elim h
    obtain ⟨e,st',hq,n0,h2⟩:=h.run hK
    exact ⟨e,st',hq,n0,fun n k hn hk=>by simpa [stepC,hc,hw,qih,h1] using h2 n k hn hk⟩
   | false =>
    obtain ⟨e,st',hq,n0,h2⟩:=hK _ h
    exact ⟨e,st',hq,n0,fun n k hn hk=>by simpa [stepC,hc,hw,hp] using h2 n k hn hk⟩
 | true =>
  cases guard with
  | none =>
   obtain ⟨vs,h1,hk,h'⟩:=EVL.elim h
   obtain ⟨t,rfl,hk⟩:=hk.run
   obtain ⟨e,st',hq,n0,h2⟩:=hK _ h'
   exact ⟨e,st',hq,n0,fun n k hn hkk=>by simpa [stepC,qih,h1,hk] using h2 n k hn hkk⟩
  | some g =>
   obtain ⟨w,hw,h⟩:=BIND.elim (m:=dirty) h
   cases w with
   | true =>
    obtain ⟨vs,h1,hk,h'⟩:=EVL.elim h
    obtain ⟨t,rfl,hk⟩:=hk.run
    obtain ⟨e,st',hq,n0,h2⟩:=hK _ h'
    exact ⟨e,st',hq,n0,fun n k hn hkk=>by simpa [stepC,hc,hw,qih,h1,hk] using h2 n k hn hkk⟩
   | false =>
    obtain ⟨hd,h⟩:=h
    obtain ⟨e,st',hq,n0,h2⟩:=hK _ h
    cases dst with
    | none=>cases hd
    | some d=>exact ⟨e,st',hq,n0,fun n k hn hkk=>by simpa [stepC,hc,hw] using h2 n k hn hkk⟩
theorem WPS.run {AP:Mac} {ctx:Ctx}:∀ {l:List AStep} {st:St} {Q:Post},WPS AP ctx l st Q -> ∃ e st',Q e st'/\EXS AP ctx l st (e,st')
 | [],st,Q,h=>⟨_,_,h,0,fun _ _ _ _=>rfl⟩
 | s::rest,st,Q,h=>by
  obtain ⟨e,st',hq,n0,h⟩:=STEP.run (kk:=fun n k=>(stepsC rest).run (RTn AP n k ctx)) h fun st' hs=>WPS.run hs
  exact ⟨e,st',hq,n0,h⟩
theorem loop_run {AP:Mac} {ctx:Ctx} {keep:Option (List Nat)} {b:ACode} {Q:Post} {I:Nat->St->Prop}
 (hb:∀ n st,I n st -> ∃ e st',(match e with | .normal=>∃ m,m<n/\I m st'|e=>Q e st')/\EX AP ctx b (keepT keep st) (e,st')) :
 ∀ m n,n<=m -> ∀ st,I n st -> ∃ e st',Q e st' /\ ∃ n0 c,∀ n k,n0<=n->n0<=k -> ∀ c',c<=c'->loopN keep ((codeC b).run (RTn AP n k ctx)) c' st=some (e,st'):=by
 intro m
 induction m with
 | zero =>
  intro n hn st hi
  obtain ⟨e,st',h,n0,hx⟩:=hb n st hi
  cases e with
  | normal=>obtain ⟨j,hj,_⟩:=h;omega
  | exit id=>exact ⟨_,_,h,n0,1,fun n k hn hk c' hc=>by obtain ⟨c,rfl⟩:∃ c,c'=c+1:=⟨c'-1,by omega⟩;have:=hx n k hn hk;cases keep<;>simp [loopN,keepT] at this ⊢<;>simp [this]⟩
  | goto l=>exact ⟨_,_,h,n0,1,fun n k hn hk c' hc=>by obtain ⟨c,rfl⟩:∃ c,c'=c+1:=⟨c'-1,by omega⟩;have:=hx n k hn hk;cases keep<;>simp [loopN,keepT] at this ⊢<;>simp [this]⟩
  | ret=>exact ⟨_,_,h,n0,1,fun n k hn hk c' hc=>by obtain ⟨c,rfl⟩:∃ c,c'=c+1:=⟨c'-1,by omega⟩;have:=hx n k hn hk;cases keep<;>simp [loopN,keepT] at this ⊢<;>simp [this]⟩
  | panic p=>exact ⟨_,_,h,n0,1,fun n k hn hk c' hc=>by obtain ⟨c,rfl⟩:∃ c,c'=c+1:=⟨c'-1,by omega⟩;have:=hx n k hn hk;cases keep<;>simp [loopN,keepT] at this ⊢<;>simp [this]⟩
 | succ m ih =>
  intro n hn st hi
  obtain ⟨e,st',h,n0,hx⟩:=hb n st hi
  cases e with
  | normal =>
   obtain ⟨j,hj,hi'⟩:=h
   obtain ⟨e,st2,hq,n1,c,h2⟩:=ih j (by omega) st' hi'
   refine ⟨e,st2,hq,max n0 n1,c+1,fun n k hn hk c' hc=>?_⟩
   obtain ⟨c'',rfl⟩:∃ c,c'=c+1:=⟨c'-1,by omega⟩
   have:=hx n k (by omega) (by omega)
   have h3:=h2 n k (by omega) (by omega) c'' (by omega)
   cases keep<;>simp [loopN,keepT] at this ⊢<;>simp [this,h3]
  | exit id=>exact ⟨_,_,h,n0,1,fun n k hn hk c' hc=>by obtain ⟨c,rfl⟩:∃ c,c'=c+1:=⟨c'-1,by omega⟩;have:=hx n k hn hk;cases keep<;>simp [loopN,keepT] at this ⊢<;>simp [this]⟩
  | goto l=>exact ⟨_,_,h,n0,1,fun n k hn hk c' hc=>by obtain ⟨c,rfl⟩:∃ c,c'=c+1:=⟨c'-1,by omega⟩;have:=hx n k hn hk;cases keep<;>simp [loopN,keepT] at this ⊢<;>simp [this]⟩
  | ret=>exact ⟨_,_,h,n0,1,fun n k hn hk c' hc=>by obtain ⟨c,rfl⟩:∃ c,c'=c+1:=⟨c'-1,by omega⟩;have:=hx n k hn hk;cases keep<;>simp [loopN,keepT] at this ⊢<;>simp [this]⟩
  | panic p=>exact ⟨_,_,h,n0,1,fun n k hn hk c' hc=>by obtain ⟨c,rfl⟩:∃ c,c'=c+1:=⟨c'-1,by omega⟩;have:=hx n k hn hk;cases keep<;>simp [loopN,keepT] at this ⊢<;>simp [this]⟩
theorem RANGE.run {AP:Mac} {ctx:Ctx} {st:St} {k0:Nat} {H0:AHeap} {dfs:List ADef} {d:Nat} {Q:Post} {v:AV} (h:RANGE AP ctx st k0 H0 dfs d Q v) :
 ∃ e st',Q e st' /\ ∃ n0,∀ n k,n0<=n->n0<=k->rangeA (AP.call n) (rounds AP.prog (AP.call n) n k) ctx st k0 H0 dfs d v=some (e,st'):=by
 unfold RANGE at h
 split at h
 ·obtain ⟨e,H',⟨n0,hc⟩,h⟩:=h
  cases e with
  | panic c=>exact ⟨_,_,h,n0,fun n k hn hk=>by simp [rangeA,enterA,hc n hn,qnr]⟩
  | ret v =>
   obtain ⟨s,p,f,k,tm,d,hg,hs,h⟩:=h
   refine ⟨_,_,h,n0,fun n k hn hk=>?_⟩
   simp only [rangeA,enterA,hc n hn,qnr,qf,hg]
 ·exact False.elim h
theorem WP.run {AP:Mac} {ctx:Ctx}:∀ {c:ACode} {st:St} {Q:Post},WP AP ctx c st Q -> ∃ e st',Q e st'/\EX AP ctx c st (e,st')
 | .skip,st,Q,h=>⟨_,_,h,0,fun _ _ _ _=>rfl⟩
 | .label _,st,Q,h=>⟨_,_,h,0,fun _ _ _ _=>rfl⟩
 | .exit _,st,Q,h=>⟨_,_,h,0,fun _ _ _ _=>rfl⟩
 | .goto _,st,Q,h=>⟨_,_,h,0,fun _ _ _ _=>rfl⟩
 | .ret,st,Q,h=>⟨_,_,h,0,fun _ _ _ _=>rfl⟩
 | .stuck,st,Q,h=>False.elim h
 | .region steps,st,Q,h=>WPS.run h
 | .seq a b,st,Q,h=>by
  obtain ⟨e,st1,h1,n0,hx⟩:=WP.run (c:=a) h
  cases e with
  | normal =>
   obtain ⟨e,st2,hq,n1,hy⟩:=WP.run (c:=b) h1
   exact ⟨e,st2,hq,max n0 n1,fun n k hn hk=>by simp [codeC,hx n k (by omega) (by omega),seqK,hy n k (by omega) (by omega)]⟩
  | exit id=>exact ⟨_,_,h1,n0,fun n k hn hk=>by simp [codeC,hx n k hn hk,seqK]⟩
  | goto id=>exact ⟨_,_,h1,n0,fun n k hn hk=>by simp [codeC,hx n k hn hk,seqK]⟩
  | ret=>exact ⟨_,_,h1,n0,fun n k hn hk=>by simp [codeC,hx n k hn hk,seqK]⟩
  | panic p=>exact ⟨_,_,h1,n0,fun n k hn hk=>by simp [codeC,hx n k hn hk,seqK]⟩
 | .cond c a b,st,Q,h=>by
  obtain ⟨v,hv,h⟩:=EVO.elim h
  obtain ⟨q,hq,h⟩:=BIND.elim (m:=dirty) h
  have hv':v=.bool q:=by
   unfold asBool at hq
   split at hq
   ·injection hq with hq;rw [hq]
   ·cases hq
  subst hv'
  cases q with
  | true =>
   obtain ⟨e,st1,h1,n0,hx⟩:=WP.run (c:=a) h
   exact ⟨e,st1,h1,n0,fun n k hn hk=>by simp [codeC,qmp,hv,condK,hx n k hn hk]⟩
  | false =>
   obtain ⟨e,st1,h1,n0,hx⟩:=WP.run (c:=b) h
   exact ⟨e,st1,h1,n0,fun n k hn hk=>by simp [codeC,qmp,hv,condK,hx n k hn hk]⟩
 | .block id b,st,Q,h=>by
  obtain ⟨e,st1,h1,n0,hx⟩:=WP.run (c:=b) h
  cases e with
  | exit id'=>exact ⟨_,_,h1,n0,fun n k hn hk=>by simp [codeC,hx n k hn hk,blockK]⟩
  | normal=>exact ⟨_,_,h1,n0,fun n k hn hk=>by simp [codeC,hx n k hn hk,blockK]⟩
  | goto id=>exact ⟨_,_,h1,n0,fun n k hn hk=>by simp [codeC,hx n k hn hk,blockK]⟩
  | ret=>exact ⟨_,_,h1,n0,fun n k hn hk=>by simp [codeC,hx n k hn hk,blockK]⟩
  | panic p=>exact ⟨_,_,h1,n0,fun n k hn hk=>by simp [codeC,hx n k hn hk,blockK]⟩
 | .scope b,st,Q,h=>by
  obtain ⟨e,st1,h1,n0,hx⟩:=WP.run (c:=b) h
  cases e with
  | exit id'=>exact ⟨_,_,h1,n0,fun n k hn hk=>by simp [codeC,hx n k hn hk,scopeK]⟩
  | normal=>exact ⟨_,_,h1,n0,fun n k hn hk=>by simp [codeC,hx n k hn hk,scopeK]⟩
  | goto id=>exact ⟨_,_,h1.2,n0,fun n k hn hk=>by simp [codeC,hx n k hn hk,scopeK,h1.1]⟩
  | ret=>exact ⟨_,_,h1,n0,fun n k hn hk=>by simp [codeC,hx n k hn hk,scopeK]⟩
  | panic p=>exact ⟨_,_,h1,n0,fun n k hn hk=>by simp [codeC,hx n k hn hk,scopeK]⟩
 | .loop keep b,st,Q,⟨I,⟨n,hi⟩,h⟩=>by
  obtain ⟨e,st',hq,n0,c,hx⟩:=loop_run (AP:=AP) (ctx:=ctx) (keep:=keep) (b:=b) (Q:=Q) (I:=I) (fun n st hi=>by
   obtain ⟨e,st',h1,h2⟩:=WP.run (c:=b) (h n st hi)
   exact ⟨e,st',h1,h2⟩) n n (qe n) st hi
  exact ⟨e,st',hq,max n0 c,fun n k hn hk=>hx n k (by omega) (by omega) n (by omega)⟩
 | .rangeFunc f k0,st,Q,h=>by
  obtain ⟨v,hv,h⟩:=EVO.elim h
  unfold RNG at h
  cases hr:ctx.round with
  | none =>
   rw [hr] at h
   obtain ⟨e,st',hq,n0,hx⟩:=RANGE.run h
   exact ⟨e,st',hq,n0,fun n k hn hk=>by simpa [codeC,qmp,hv,rangeK,RTn,hr] using hx n k hn hk⟩
  | some l =>
   rw [hr] at h
   obtain ⟨d,hd,h⟩:=BIND.elim (m:=dirty) h
   obtain ⟨e,st',hq,n0,hx⟩:=RANGE.run h
   exact ⟨e,st',hq,n0,fun n k hn hk=>by simpa [codeC,qmp,hv,rangeK,RTn,hr,hd] using hx n k hn hk⟩
def UNW (AP:Mac) (rs:List ARes) (tm:T AV) (Q:AEnd->AHeap->Prop):List ADef->Option Chain->AHeap->Prop
 | [],none,H=>BIND dirty (readRes H tm rs) fun l=>Q (.ret (tupled l)) H
 | [],some c,H=>Q (.panic c) H
 | .coll b::ds,m,H=>H.get b=some (.deferred (some []))/\UNW AP rs tm Q ds m (H.set b (.deferred none))
 | .fn (.func f) args::ds,m,H=>∃ v up' H',CALLU AP f args (some (m.getD [])) H (.ret v) (some up') H'/\BIND dirty (settleA m up') fun m'=>UNW AP rs tm Q ds m' H'
 | .fn (.yield _) _::_,_,_=>False
theorem UNW.run {AP:Mac} {rs:List ARes} {tm:T AV} {Q:AEnd->AHeap->Prop}:∀ {ds:List ADef} {m:Option Chain} {H:AHeap},UNW AP rs tm Q ds m H ->
 ∃ e H',Q e H' /\ ∃ n0,∀ n,n0<=n->unwindA (AP.call n) rs tm ds m H=some (e,H')
 | [],none,H,h=>by
  obtain ⟨l,hl,h⟩:=BIND.elim (m:=dirty) h
  exact ⟨_,_,h,0,fun n _=>by simp [unwindA,hl]⟩
 | [],some c,H,h=>⟨_,_,h,0,fun n _=>by simp [unwindA]⟩
 | .coll b::ds,m,H,⟨hb,h⟩=>by
  obtain ⟨e,H',hq,n0,hx⟩:=UNW.run h
  exact ⟨e,H',hq,n0,fun n hn=>by simp [unwindA,hb,hx n hn]⟩
 | .fn (.func f) args::ds,m,H,⟨v,up',H',⟨n0,hc⟩,h⟩=>by
  obtain ⟨m',hm,h⟩:=BIND.elim (m:=dirty) h
  obtain ⟨e,H2,hq,n1,hx⟩:=UNW.run h
  exact ⟨e,H2,hq,max n0 n1,fun n hn=>by simp [unwindA,hc n (by omega),hm,hx n (by omega)]⟩
 | .fn (.yield _) _::_,_,_,h=>False.elim h
def FIN (AP:Mac) (rs:List ARes) (Q:AEnd->Option Chain->AHeap->Prop):Post:=fun e st=>match e with
 | .normal=>UNW AP rs st.tm (fun e H=>Q e st.up H) st.dfs none st.H
 | .ret=>UNW AP rs st.tm (fun e H=>Q e st.up H) st.dfs none st.H
 | .panic c=>UNW AP rs st.tm (fun e H=>Q e st.up H) st.dfs (some c) st.H
 | _=>False
theorem q00 {AP:Mac} {f:Nat} {fn:AFunc} (hf:AP.func f=some fn) {vs:List AV} {up:Option Chain} {H:AHeap} {Q:AEnd->Option Chain->AHeap->Prop}
 (h:WP AP ⟨none,f⟩ fn.body ⟨argsT 0 vs .nil,[],up,H⟩ (FIN AP fn.results Q)):∃ e up' H',CALLU AP f vs up H e up' H'/\Q e up' H':=by
 obtain ⟨hmu,hf⟩:=Mac.func_eq hf
 obtain ⟨e,st,h1,n0,hx⟩:=h.run
 have key:∀ m,UNW AP fn.results st.tm (fun e H=>Q e st.up H) st.dfs m st.H->(∀ call,endCall call fn (e,st)=(unwindA call fn.results st.tm st.dfs m st.H).bind fun q=>some (q.1,st.up,q.2)) ->
  ∃ e up' H',CALLU AP f vs up H e up' H'/\Q e up' H':=by
  intro m h1 he
  obtain ⟨e',H',hq,n1,hy⟩:=h1.run
  refine ⟨e',st.up,H',⟨max n0 n1+1,fun n hn=>?_⟩,hq⟩
  obtain ⟨n,rfl⟩:∃ j,n=j+1:=⟨n-1,by omega⟩
  have:=hx n n (by omega) (by omega)
  simp only [RTn] at this
  rw [Mac.call_succ hmu]
  simp only [qim,hf,qf,exec,this,he,hy n (by omega)]
 cases e with
 | normal=>exact key none h1 fun _=>rfl
 | ret=>exact key none h1 fun _=>rfl
 | panic c=>exact key (some c) h1 fun _=>rfl
 | exit _=>exact False.elim h1
 | goto _=>exact False.elim h1
theorem q3q {AP:Mac} {f:Nat} {fn:AFunc} (hf:AP.func f=some fn) {vs:List AV} {H:AHeap} {Q:AEnd->AHeap->Prop}
 (h:WP AP ⟨none,f⟩ fn.body ⟨argsT 0 vs .nil,[],none,H⟩ (FIN AP fn.results fun e up H=>up=none/\Q e H)):∃ e H',CALL AP f vs H e H'/\Q e H':=by
 obtain ⟨e,up',H',h1,rfl,h2⟩:=q00 hf h
 exact ⟨e,H',h1,h2⟩
def RE (l:Nat) (Q:AEnd->AHeap->Prop):Post:=fun e st=>st.dfs=[]/\match e with
 | .panic c=>Q (.panic c) st.H
 | e=>BIND dirty (setLoop st.H l (cond (qfu e) .ready .done) (endOf e)) fun H=>Q (.ret (.bool (qfu e))) H
def RB (W:St->Post->Prop) (l:Nat) (Q:AEnd->AHeap->Prop):Post:=fun e st=>match e with
 | .normal=>BIND dirty (beginRound st.H l) fun H=>W { st with H:=H } (RE l Q)
 | _=>False
theorem qvc {AP:Mac} {l:Nat} {H:AHeap} {s:LState} {p:Option AJump} {f k:Nat} {tm:T AV} {d:Nat} {fn:AFunc} {lp:ALoop} {vs:List AV} {tm1:T AV} {Q:AEnd->AHeap->Prop}
 (hl:H.get l=some (.loop s p f k tm d)) (hf:AP.func f=some fn) (hk:nth fn.loops k=some lp) (hb:qhh tm lp.params vs=some tm1)
 (h:WP AP ⟨some l,f⟩ lp.assign ⟨tm1,[],none,H⟩ (RB (WP AP ⟨some l,f⟩ lp.body) l Q)):∃ e H',ROUND AP l vs H e H'/\Q e H':=by
 obtain ⟨hmu,hf⟩:=Mac.func_eq hf
 obtain ⟨e,st,h1,n0,hx⟩:=h.run
 cases e with
 | normal =>
  obtain ⟨H2,hbr,h1⟩:=BIND.elim (m:=dirty) h1
  obtain ⟨e,st2,⟨hd,h2⟩,n1,hy⟩:=WP.run h1
  have key:∀ e' H',Q e' H'->qik l (e,st2)=some (e',H') -> ∃ e H',ROUND AP l vs H e H'/\Q e H':=by
   intro e' H' hq he
   refine ⟨e',H',⟨max n0 n1+1,fun n j hn hj=>?_⟩,hq⟩
   obtain ⟨j,rfl⟩:∃ i,j=i+1:=⟨j-1,by omega⟩
   have hx':=hx n j (by omega) (by omega)
   have hy':=hy n j (by omega) (by omega)
   simp only [RTn] at hx' hy'
   simp only [rounds,roundOf,hl,hf,qf,hk,hb,exec,hx',hbr,hy',hd,roundOf.noDefs,qz,he]
  cases e with
  | panic c=>exact key _ _ h2 rfl
  | normal=>obtain ⟨H3,h3,h2⟩:=BIND.elim (m:=dirty) h2;exact key _ _ h2 (by simp [qik,h3])
  | exit id=>obtain ⟨H3,h3,h2⟩:=BIND.elim (m:=dirty) h2;exact key _ _ h2 (by simp [qik,h3])
  | goto id=>obtain ⟨H3,h3,h2⟩:=BIND.elim (m:=dirty) h2;exact key _ _ h2 (by simp [qik,h3])
  | ret=>obtain ⟨H3,h3,h2⟩:=BIND.elim (m:=dirty) h2;exact key _ _ h2 (by simp [qik,h3])
 | exit _=>exact False.elim h1
 | goto _=>exact False.elim h1
 | ret=>exact False.elim h1
 | panic _=>exact False.elim h1
theorem CALL.acall {AP:Mac} {f:Nat} {vs:List AV} {H:AHeap} {e:AEnd} {H':AHeap} (h:CALL AP f vs H e H'):∃ n,AP.call n f vs none H=some (e,none,H'):=by
 obtain ⟨n,h⟩:=h
 exact ⟨n,h n (qe n)⟩
end
end Go.Am
namespace Go.Am
abbrev Env:=List (Nat × AV)
def putE (dst:Option Nat) (v:AV) (E:Env):Env:=match dst with
 | some d=>(d,v)::E
 | none=>E
def BI {α:Type} (m:Bool) (o:Option α) (K:Bool -> α->Prop):Prop:=match o with
 | some a=>K dirty a
 | none=>False
def BI2 {α β:Type} (m:Bool) (o:Option (α × β)) (K:Bool -> α -> β->Prop):Prop:=match o with
 | some a=>K dirty a.1 a.2
 | none=>False
def IG (m:Bool) (q:Bool) (A B:Bool->Prop):Prop:=match q with
 | true=>A dirty
 | false=>B dirty
def LK {α:Type} (m:Bool) (o:Option α) (K:Bool -> α->Prop):Prop:=match o with
 | some a=>K m a
 | none=>False
theorem LK_some {α:Type} (a:α) (K:Bool -> α->Prop):LK true (some a) K=K true a:=propext j8
@[congr] theorem LK_congr {α:Type} {m m':Bool} {o o':Option α} {K:Bool -> α->Prop} (hm:m=m') (h:o=o'):LK m o K=LK m' o' K:=by subst hm;subst h;rfl
@[congr] theorem BI_congr {α:Type} {m m':Bool} {o o':Option α} {K:Bool -> α->Prop} (hm:m=m') (h:o=o'):BI m o K=BI m' o' K:=by subst hm;subst h;rfl
@[congr] theorem BI2_congr {α β:Type} {m m':Bool} {o o':Option (α × β)} {K:Bool -> α -> β->Prop} (hm:m=m') (h:o=o'):BI2 m o K=BI2 m' o' K:=by subst hm;subst h;rfl
@[congr] theorem IG_congr {m m' q q':Bool} {A B:Bool->Prop} (hm:m=m') (h:q=q'):IG m q A B=IG m' q' A B:=by subst hm;subst h;rfl
theorem BI.intro {α:Type} {m:Bool} {o:Option α} {K:Bool -> α->Prop} {a:α} (h:o=some a) (hk:K dirty a):BI m o K:=by subst h;exact hk
theorem BI2.intro {α β:Type} {m:Bool} {o:Option (α × β)} {K:Bool -> α -> β->Prop} {a:α} {b:β} (h:o=some (a,b)) (hk:K dirty a b):BI2 m o K:=by subst h;exact hk
theorem IG.dec {m:Bool} {p:Prop} [Decidable p] {A B:Bool->Prop} (h1:p->A dirty) (h2:¬ p->B dirty):IG m (decide p) A B:=by
 by_cases h:p
 ·rw [qew h];exact h1 h
 ·rw [qe7 h];exact h2 h
theorem IG.cases {m:Bool} {q:Bool} {A B:Bool->Prop} (h1:q=true->A dirty) (h2:q=false->B dirty):IG m q A B:=by
 cases q with
 | true=>exact h1 rfl
 | false=>exact h2 rfl
noncomputable section
variable (AP:Mac)
def CA (m:Bool) (f:AFn) (vs:List AV) (H:AHeap) (K:Bool->AV->AHeap->Prop) (E:Chain->AHeap->Prop):Prop:=CALLK AP m f vs H (K dirty) E
@[congr] theorem CA_congr {AP:Mac} {m m':Bool} {f f':AFn} {vs vs':List AV} {H:AHeap} {K:Bool->AV->AHeap->Prop} {E:Chain->AHeap->Prop} (hm:m=m') (hf:f=f') (h:vs=vs'):CA AP m f vs H K E=CA AP m' f' vs' H K E:=by subst hm;subst h;subst hf;rfl
theorem CA.ret {AP:Mac} {m:Bool} {f:Nat} {vs:List AV} {H:AHeap} {K:Bool->AV->AHeap->Prop} {E:Chain->AHeap->Prop} {v:AV} {H':AHeap} (h:CALL AP f vs H (.ret v) H') (hk:K dirty v H'):CA AP m (.func f) vs H K E :=
 ⟨_,_,h,hk⟩
theorem CA.yret {AP:Mac} {m:Bool} {l:Nat} {vs:List AV} {H:AHeap} {K:Bool->AV->AHeap->Prop} {E:Chain->AHeap->Prop} {v:AV} {H':AHeap} (h:ROUND AP l vs H (.ret v) H') (hk:K dirty v H'):CA AP m (.yield l) vs H K E :=
 ⟨_,_,h,hk⟩
theorem CA.panic {AP:Mac} {m:Bool} {f:Nat} {vs:List AV} {H:AHeap} {K:Bool->AV->AHeap->Prop} {E:Chain->AHeap->Prop} {c:Chain} {H':AHeap} (h:CALL AP f vs H (.panic c) H') (hk:E c H'):CA AP m (.func f) vs H K E :=
 ⟨_,_,h,hk⟩
def VI (m:Bool) (vs:List AV) (K:Bool->AFn->List AV->Prop):Prop:=VIA m vs (K dirty)
@[congr] theorem VI_congr {m m':Bool} {vs vs':List AV} {K:Bool->AFn->List AV->Prop} (hm:m=m') (h:vs=vs'):VI m vs K=VI m' vs' K:=by subst hm;subst h;rfl
def IV (m:Bool) (name:String) (vs:List AV) (K:Bool->AFn->List AV->Prop):Prop:=INV AP m name vs (K dirty)
@[congr] theorem IV_congr {AP:Mac} {m m':Bool} {name:String} {vs vs':List AV} {K:Bool->AFn->List AV->Prop} (hm:m=m') (h:vs=vs'):IV AP m name vs K=IV AP m' name vs' K:=by subst hm;subst h;rfl
def RC (m:Bool) (ctx:Ctx) (up:Option Chain) (K:Bool->AV->Option Chain->Prop):Prop:=RECOV m ctx up (K dirty)
@[congr] theorem RC_congr {m m':Bool} {ctx:Ctx} {up up':Option Chain} {K:Bool->AV->Option Chain->Prop} (hm:m=m') (h:up=up'):RC m ctx up K=RC m' ctx up' K:=by subst hm;subst h;rfl
def DF (m:Bool) (ctx:Ctx) (vs:List AV) (dfs:List ADef) (K:Bool->List ADef->Prop):Prop:=DEFR m ctx vs dfs (K dirty)
@[congr] theorem DF_congr {m m':Bool} {ctx:Ctx} {vs vs':List AV} {dfs:List ADef} {K:Bool->List ADef->Prop} (hm:m=m') (h:vs=vs'):DF m ctx vs dfs K=DF m' ctx vs' dfs K:=by subst hm;subst h;rfl
end
end Go.Am
namespace Go.Am
theorem q0s (n:Int):wrapI .i64 n=(n+9223372036854775808) % 18446744073709551616-9223372036854775808:=by
 simp [wrapI,IntKind.wrap,IntKind.bits,IntKind.signed];split<;>omega
theorem q6x (n:Int):wrapI .u64 n=n % 18446744073709551616:=by simp [wrapI,IntKind.wrap,IntKind.bits,IntKind.signed]
theorem wrapI_u8 (n:Int):wrapI .u8 n=n % 256:=by simp [wrapI,IntKind.wrap,IntKind.bits,IntKind.signed]
theorem xr {n:Int} (h:-9223372036854775808<=n) (h':n<9223372036854775808):wrapI .i64 n=n:=by rw [q0s];omega
section
variable (k:IntKind) (a b:Int)
theorem o_move (v:AV):Op.move [v]=some v:=rfl
theorem o_pick (q:Bool) (a b:AV):Op.pick [.bool q,a,b]=some (cond q a b):=rfl
theorem o_add:Op.bin .add [.int k a,.int k b]=some (.int k (wrapI k (a+b))):=by cases k<;>rfl
theorem o_sub:Op.bin .sub [.int k a,.int k b]=some (.int k (wrapI k (a-b))):=by cases k<;>rfl
theorem o_mul:Op.bin .mul [.int k a,.int k b]=some (.int k (wrapI k (a*b))):=by cases k<;>rfl
theorem o_quo (hb:b ≠ 0):Op.bin .quo [.int k a,.int k b]=some (.int k (wrapI k (a.tdiv b))):=by
 have:eqI b 0=false:=by rw [qkh];simpa using hb
 cases k<;>simp [Op.bin,binV,isShift,eqK,kindN,intBin,this]
theorem o_rem (hb:b ≠ 0):Op.bin .rem [.int k a,.int k b]=some (.int k (a.tmod b)):=by
 have:eqI b 0=false:=by rw [qkh];simpa using hb
 cases k<;>simp [Op.bin,binV,isShift,eqK,kindN,intBin,this]
theorem o_eql:Op.bin .eql [.int k a,.int k b]=some (.bool (decide (a=b))):=by
 have:eqI a b=decide (a=b):=by rw [qkh];rfl
 cases k<;>simp [Op.bin,binV,isShift,eqK,kindN,intBin,this]
theorem o_neq:Op.bin .neq [.int k a,.int k b]=some (.bool (decide (a ≠ b))):=by
 have:eqI a b=decide (a=b):=by rw [qkh];rfl
 cases k<;>simp [Op.bin,binV,isShift,eqK,kindN,intBin,this]
theorem o_lss:Op.bin .lss [.int k a,.int k b]=some (.bool (decide (a<b))):=by
 cases k<;>simp [Op.bin,binV,isShift,eqK,kindN,intBin,qpf]
theorem o_leq:Op.bin .leq [.int k a,.int k b]=some (.bool (decide (a<=b))):=by
 cases k<;>simp [Op.bin,binV,isShift,eqK,kindN,intBin,qm8]
theorem o_gtr:Op.bin .gtr [.int k a,.int k b]=some (.bool (decide (b<a))):=by
 cases k<;>simp [Op.bin,binV,isShift,eqK,kindN,intBin,qpf]
theorem o_geq:Op.bin .geq [.int k a,.int k b]=some (.bool (decide (b<=a))):=by
 cases k<;>simp [Op.bin,binV,isShift,eqK,kindN,intBin,qm8]
theorem o_wrap (k':IntKind):Op.wrap k [.int k' a]=some (.int k (wrapI k a)):=rfl
theorem o_not (q:Bool):Op.un .not [.bool q]=some (.bool (!q)):=rfl
theorem q5m (a b:List UInt8):eqS a b=decide (a=b):=by
 by_cases h:a=b
 ·subst h;simp [qtf]
 ·simp [qtf,h]
theorem o_seql (a b:List UInt8):Op.bin .eql [.str a,.str b]=some (.bool (decide (a=b))):=by
 simp only [Op.bin,binV,strBin,q5m]
theorem o_sneq (a b:List UInt8):Op.bin .neq [.str a,.str b]=some (.bool (decide (a ≠ b))):=by
 simp [Op.bin,binV,strBin,q5m]
theorem o_lenStr (s:List UInt8):Op.lenStr [.str s]=some (.int .i64 s.length):=by simp [Op.lenStr,goIntV,qgq]
theorem q53 (i:Nat) (l:List AV):Op.extract i [.tuple l]=l[i]?:=by simp [Op.extract,qcq]
theorem o_mkFunc (f n:Nat) (l:List AV):Op.mkFunc f n l=some (.fn (.func f) (l.take n) (l.drop n)):=rfl
theorem q54 (t:Nat) (v:AV):Op.mkIface t [v]=some (.iface t v):=rfl
theorem q1j (off b o:Nat):Op.fieldAddr off [.ptr b o]=some (.ptr b (o+off)):=rfl
theorem o_field1 (off:Nat) (l:List AV):Op.field off none [.agg l]=l[off]?:=by simp [Op.field,partAt,qcq]
theorem w_true (q:Bool):wantV true (some (.bool q))=some q:=by cases q<;>rfl
theorem w_false (q:Bool):wantV false (some (.bool q))=some (!q):=by cases q<;>rfl
theorem w_undef (b:Bool):wantV b (some .undef)=some false:=rfl
end
structure Fr (W:Nat->Prop) (H H':AHeap):Prop where
 next:H.next<=H'.next
 keep:∀ b,b<H.next -> ¬ W b->H'.get b=H.get b
def Em:Nat->Prop:=fun _=>False
def On (b:Nat):Nat->Prop:=fun x=>x=b
theorem Fr.refl {W:Nat->Prop} (H:AHeap):Fr W H H:=⟨qe _,fun _ _ _=>rfl⟩
theorem Fr.trans {W W':Nat->Prop} {H H1 H2:AHeap} (a:Fr W H H1) (b:Fr W' H1 H2) (h:∀ x,W' x->W x\/H.next<=x):Fr W H H2 :=
 ⟨zn a.next b.next,fun x hx hw=>by
  rw [b.keep x (ql hx a.next) (fun hw'=>(h x hw').elim hw (fun q=>by omega)),a.keep x hx hw]⟩
theorem Fr.em {W:Nat->Prop} {H H1 H2:AHeap} (a:Fr W H H1) (b:Fr Em H1 H2):Fr W H H2:=a.trans b fun _ h=>h.elim
theorem Fr.mono {W W':Nat->Prop} {H H':AHeap} (a:Fr W H H') (h:∀ x,x<H.next->W x->W' x):Fr W' H H':=⟨a.next,fun x hx hw=>a.keep x hx fun q=>hw (h x hx q)⟩
theorem za (H:AHeap) (o:AObj):(H.alloc o).next=H.next+1:=rfl
theorem qpq (H:AHeap) (b:Nat) (o:AObj):(H.set b o).next=H.next:=rfl
theorem qkl (H:AHeap) (b:Nat):(H.kill b).next=H.next:=rfl
theorem Fr.alloc {W:Nat->Prop} {H H1:AHeap} (a:Fr W H H1) (o:AObj):Fr W H (H1.alloc o) :=
 ⟨Nat.le_succ_of_le a.next,fun x hx hw=>by rw [AHeap.get_alloc,qo (by have:=a.next;omega),a.keep x hx hw]⟩
theorem Fr.set {W:Nat->Prop} {H H1:AHeap} (a:Fr W H H1) {b:Nat} (h:W b\/H.next<=b) (o:AObj):Fr W H (H1.set b o) :=
 ⟨a.next,fun x hx hw=>by rw [AHeap.get_set,qo (by rintro rfl;exact h.elim hw (fun q=>by omega)),a.keep x hx hw]⟩
theorem Fr.kill {W:Nat->Prop} {H H1:AHeap} (a:Fr W H H1) {b:Nat} (h:W b\/H.next<=b):Fr W H (H1.kill b) :=
 ⟨a.next,fun x hx hw=>by rw [AHeap.get_kill,qo (by rintro rfl;exact h.elim hw (fun q=>by omega)),a.keep x hx hw]⟩
theorem xd {H:AHeap} {b:Nat} {c:List AV} {e:Nat} {fz:Nat × Nat} {ow:Bool} (h:H.get b=some (.row c e fz ow)):H.cellsAt b=some c:=by simp [AHeap.cellsAt,h]
theorem qoz {H:AHeap} {b m s:Nat} {c:List AV} {e:Nat} {fz:Nat × Nat} (h:H.get b=some (.grown m s c e fz)):H.cellsAt b=some c:=by simp [AHeap.cellsAt,h]
theorem q3s {H H':AHeap} {b:Nat} (h:H'.get b=H.get b):H'.cellsAt b=H.cellsAt b:=by simp [AHeap.cellsAt,h]
theorem Fr.cells {W:Nat->Prop} {H H':AHeap} (a:Fr W H H') {b:Nat} (hb:b<H.next) (hw:¬ W b):H'.cellsAt b=H.cellsAt b:=q3s (a.keep b hb hw)
theorem zw {H:AHeap} {b:Nat} {c:List AV} (h:H.cellsAt b=some c) (o:Nat):Op.load1 [.ptr b o] H=c[o]?:=by simp [Op.load1,AHeap.load1,h,qcq]
theorem qhz {H:AHeap} {b:Nat} {c:List AV} (h:H.cellsAt b=some c) {o n:Nat} (hn:o+n<=c.length):Op.loadN n [.ptr b o] H=some (.agg ((c.drop o).take n)):=by
 simp only [Op.loadN,AHeap.loadN,h,qf,qce]
 rw [xc (by omega)];rfl
def Sl (H:AHeap) (size:Nat) (v:AV) (n:Nat) (cells:List AV):Prop :=
 cells.length=n*size/\match v with
 | .nils=>n=0
 | .slice b o m c=>m=n/\n<=c/\(n=0\/b<H.next /\ ∃ all,H.cellsAt b=some all/\takeAt all o (n*size)=some cells)
 | .gslice b i m s alt k=>k=n/\s=size/\i+n<=m/\(n=0\/b<H.next /\ ∃ all,H.cellsAt b=some all/\takeAt all (i*size) (n*size)=some cells)
 | .eslice b=>n=0/\b<H.next
 | _=>False
def slB:AV->Nat
 | .slice b _ _ _=>b
 | .gslice b _ _ _ _ _=>b
 | .eslice b=>b
 | _=>0
def slO (size:Nat):AV->Nat->Nat
 | .slice _ o _ _,j=>o+j*size
 | .gslice _ i _ s _ _,j=>i*s+j*s
 | _,_=>0
theorem Sl.lenV {H:AHeap} {size:Nat} {v:AV} {n:Nat} {cells:List AV} (h:Sl H size v n cells):lenV v=some n:=by
 obtain ⟨_,h⟩:=h
 split at h
 ·subst h;rfl
 ·obtain ⟨rfl,_⟩:=h;rfl
 ·obtain ⟨rfl,_⟩:=h;rfl
 ·obtain ⟨rfl,_⟩:=h;rfl
 ·exact h.elim
theorem Sl.len {H:AHeap} {size:Nat} {v:AV} {n:Nat} {cells:List AV} (h:Sl H size v n cells):Op.lenSl [v]=some (.int .i64 n):=by
 obtain ⟨_,h⟩:=h
 split at h
 ·subst h;rfl
 ·obtain ⟨rfl,_⟩:=h;rfl
 ·obtain ⟨rfl,_⟩:=h;rfl
 ·obtain ⟨rfl,_⟩:=h;rfl
 ·exact h.elim
theorem qnz {z:Int} {i n:Nat} (hz:z=i) (h:i<n):within z n=some i:=by
 subst hz
 show cond (Nat.blt i n) (some i) none=some i
 have:Nat.blt i n=true:=by simpa [we] using h
 rw [this];rfl
theorem qiv {i j:Nat} (h:i ≠ j):Nat.beq i j=false:=by
 cases q:Nat.beq i j with
 | false=>rfl
 | true=>exact (h (Nat.eq_of_beq_eq_true q)).elim
theorem qnp {i n:Nat} (h:i<n):Nat.blt i n=true:=by simpa [we] using h
theorem qb6 {i n:Nat} (h:i<=n):Nat.ble i n=true:=by simpa using h
theorem Sl.idx {H:AHeap} {size:Nat} {v:AV} {n:Nat} {cells:List AV} (h:Sl H size v n cells) {i:Nat} (hi:i<n) {z:Int} (hz:z=i) (k:IntKind) :
 Op.indexSl size [v,.int k z]=some (.ptr (slB v) (slO size v i)):=by
 obtain ⟨hl,h⟩:=h
 split at h
 ·omega
 ·rename_i b o m c
  obtain ⟨rfl,hc,h⟩:=h
  have h1:=qnp hi
  simp [Op.indexSl,Am.lenV,qnz hz hi,elemAt,h1,slB,slO]
 ·rename_i b j m s alt k
  obtain ⟨rfl,rfl,hm,h⟩:=h
  have h1:=qnp hi
  have h2:=qnp (show j+i<m by omega)
  simp [Op.indexSl,Am.lenV,qnz hz hi,elemAt,h1,h2,slB,slO]
 ·omega
 ·exact h.elim
theorem qhx {α:Type} {l r:List α} {o n:Nat} (h:takeAt l o n=some r):n<=l.length-o/\r=(l.drop o).take n:=by
 rw [qce] at h
 split at h
 ·rename_i hn;injection h with h;exact ⟨hn,h.symm⟩
 ·cases h
theorem Sl.at {H:AHeap} {size:Nat} {v:AV} {n:Nat} {cells:List AV} (hs0:0<size) (h:Sl H size v n cells) {i:Nat} (hi:i<n) :
 slB v<H.next /\ ∃ all,H.cellsAt (slB v)=some all/\slO size v i+size<=all.length /\ ∀ j,j<size->all[slO size v i+j]? = cells[i*size+j]?:=by
 obtain ⟨hl,h⟩:=h
 have hps:0<n*size:=Nat.mul_pos (by omega) hs0
 have hsz:i*size+size<=n*size:=by rw [<-k9];exact zt _ hi
 split at h
 ·omega
 ·rename_i b o m c
  obtain ⟨rfl,hc,h⟩:=h
  rcases h with h|⟨hb,all,h1,h2⟩
  ·omega
  obtain ⟨h3,rfl⟩:=qhx h2
  refine ⟨hb,all,h1,?_,fun j hj=>?_⟩
  ·simp only [slO];simp at hl;omega
  ·simp only [slO]
   rw [j6,xc (by omega),j5];congr 1;omega
 ·rename_i b q m s alt k
  obtain ⟨rfl,rfl,hm,h⟩:=h
  rcases h with h|⟨hb,all,h1,h2⟩
  ·omega
  obtain ⟨h3,rfl⟩:=qhx h2
  refine ⟨hb,all,h1,?_,fun j hj=>?_⟩
  ·simp only [slO];simp at hl;omega
  ·simp only [slO]
   rw [j6,xc (by omega),j5];congr 1;omega
 ·omega
 ·exact h.elim
theorem Sl.fr {H H':AHeap} {W:Nat->Prop} {size:Nat} {v:AV} {n:Nat} {cells:List AV} (h:Sl H size v n cells) (f:Fr W H H') (hw:n=0 \/ ¬ W (slB v)):Sl H' size v n cells:=by
 obtain ⟨hl,h⟩:=h
 refine ⟨hl,?_⟩
 split at h
 ·exact h
 ·obtain ⟨h1,h2,h3⟩:=h
  refine ⟨h1,h2,?_⟩
  rcases h3 with h3|⟨hb,all,h3,h4⟩
  ·exact .inl h3
  ·rcases hw with hw|hw
   ·exact .inl hw
   ·exact .inr ⟨ql hb f.next,all,by rw [f.cells hb hw];exact h3,h4⟩
 ·obtain ⟨h1,h2,h0,h3⟩:=h
  refine ⟨h1,h2,h0,?_⟩
  rcases h3 with h3|⟨hb,all,h3,h4⟩
  ·exact .inl h3
  ·rcases hw with hw|hw
   ·exact .inl hw
   ·exact .inr ⟨ql hb f.next,all,by rw [f.cells hb hw];exact h3,h4⟩
 ·exact ⟨h.1,ql h.2 f.next⟩
 ·exact h.elim
theorem Sl.em {H H':AHeap} {size:Nat} {v:AV} {n:Nat} {cells:List AV} (h:Sl H size v n cells) (f:Fr Em H H'):Sl H' size v n cells:=h.fr f (.inr id)
theorem Sl.first {H:AHeap} {size:Nat} {v:AV} {n:Nat} {cells:List AV} (h:Sl H size v n cells):firstCells H size n v=some cells:=by
 obtain ⟨hl,h⟩:=h
 split at h
 ·subst h;simp at hl;subst hl;rfl
 ·rename_i b o m c
  obtain ⟨rfl,hc,h⟩:=h
  rcases h with rfl|⟨hb,all,h1,h2⟩
  ·simp at hl;subst hl;rfl
  ·by_cases hn:m=0
   ·subst hn;simp at hl;subst hl;rfl
   ·have:Nat.beq m 0=false:=qiv hn
    simp only [firstCells,this,xy,AHeap.loadN,h1,qf,h2]
 ·rename_i b i m s alt k
  obtain ⟨rfl,rfl,hm,h⟩:=h
  rcases h with rfl|⟨hb,all,h1,h2⟩
  ·simp at hl;subst hl;rfl
  ·by_cases hn:k=0
   ·subst hn;simp at hl;subst hl;rfl
   ·have:Nat.beq k 0=false:=qiv hn
    have h3:=qnp (show i<m by omega)
    simp [firstCells,this,h3,AHeap.loadN,h1,h2]
 ·obtain ⟨rfl,_⟩:=h;simp at hl;subst hl;rfl
 ·exact h.elim
def SlT {α:Type} (enc:α->List AV) (size:Nat) (H:AHeap) (v:AV) (xs:List α):Prop:=Sl H size v xs.length (xs.flatMap enc)
section
variable {α:Type} {enc:α->List AV} {size:Nat} {H H':AHeap} {v:AV} {xs:List α}
theorem SlT.len (h:SlT enc size H v xs):Op.lenSl [v]=some (.int .i64 xs.length):=Sl.len h
theorem SlT.fr {W:Nat->Prop} (h:SlT enc size H v xs) (f:Fr W H H') (hw:¬ W (slB v)):SlT enc size H' v xs:=Sl.fr h f (.inr hw)
theorem SlT.em (h:SlT enc size H v xs) (f:Fr Em H H'):SlT enc size H' v xs:=Sl.em h f
theorem qfb (hs:∀ x,(enc x).length=size):∀ (xs:List α) {i:Nat} {x:α},xs[i]? = some x -> ∀ {j:Nat},j<size->(xs.flatMap enc)[i*size+j]? = (enc x)[j]?
 | [],i,x,h,j,hj=>by simp at h
 | y::ys,0,x,h,j,hj=>by
  simp at h;subst h
  rw [j4,kw (by rw [hs];omega)];simp
 | y::ys,i+1,x,h,j,hj=>by
  simp only [z5] at h
  rw [j4,js (by rw [hs,k9];omega),hs,<-qfb hs ys h hj]
  congr 1;rw [k9];omega
theorem qdq {i:Nat} {x:α} (h:xs[i]? = some x):i<xs.length:=(qi.1 h).1
theorem SlT.idx (h:SlT enc size H v xs) {i:Nat} {x:α} (hx:xs[i]? = some x) {z:Int} (hz:z=i) (k:IntKind):Op.indexSl size [v,.int k z]=some (.ptr (slB v) (slO size v i)) :=
 Sl.idx h (qdq hx) hz k
theorem SlT.load1 (hs:∀ x,(enc x).length=size) (h:SlT enc size H v xs) {i:Nat} {x:α} (hx:xs[i]? = some x) {j:Nat} (hj:j<size):Op.load1 [.ptr (slB v) (slO size v i+j)] H=(enc x)[j]?:=by
 obtain ⟨_,all,h1,h2,h3⟩:=Sl.at (by omega) h (qdq hx)
 rw [zw h1,h3 j hj,qfb hs xs hx hj]
theorem SlT.load0 (hs:∀ x,(enc x).length=size) (h:SlT enc size H v xs) {i:Nat} {x:α} (hx:xs[i]? = some x) (hj:0<size):Op.load1 [.ptr (slB v) (slO size v i)] H=(enc x)[0]?:=h.load1 hs hx hj
theorem SlT.loadN (hs:∀ x,(enc x).length=size) (hs0:0<size) (h:SlT enc size H v xs) {i:Nat} {x:α} (hx:xs[i]? = some x):Op.loadN size [.ptr (slB v) (slO size v i)] H=some (.agg (enc x)):=by
 obtain ⟨_,all,h1,h2,h3⟩:=Sl.at hs0 h (qdq hx)
 rw [qhz h1 h2]
 congr 2
 refine vz fun j=>?_
 by_cases hj:j<size
 ·rw [j6,xc hj,j5,h3 j hj,qfb hs xs hx hj]
 ·rw [zr (by simp;omega),zr (by rw [hs];omega)]
end
def Own (H:AHeap) (e size:Nat) (v:AV) (n:Nat) (cells:List AV):Prop :=
 cells.length=n*size/\(n=0/\(v=.nils \/ ∃ b,v=.slice b 0 0 0/\b<H.next) \/ ∃ b,v=.gslice b 0 n size 0 n/\b<H.next/\H.get b=some (.grown n size cells e (0,0)))
def OnS (v:AV):Nat->Prop:=fun x=>v ≠ .nils/\x=slB v
theorem Own.nil (H:AHeap) (e size:Nat):Own H e size .nils 0 []:=⟨by simp,.inl ⟨rfl,.inl rfl⟩⟩
theorem Own.sl {H:AHeap} {e size:Nat} {v:AV} {n:Nat} {cells:List AV} (h:Own H e size v n cells):Sl H size v n cells:=by
 obtain ⟨hl,⟨rfl,rfl|⟨b,rfl,hb⟩⟩|⟨b,rfl,h1,h2⟩⟩:=h
 ·exact ⟨hl,rfl⟩
 ·exact ⟨hl,rfl,qe _,.inl rfl⟩
 ·refine ⟨hl,rfl,rfl,by omega,.inr ⟨h1,cells,qoz h2,?_⟩⟩
  rw [qce,xc (by simp [hl])];simp [<-hl]
theorem Own.fr {H H':AHeap} {W:Nat->Prop} {e size:Nat} {v:AV} {n:Nat} {cells:List AV} (h:Own H e size v n cells) (f:Fr W H H') (hw:∀ x,OnS v x -> ¬ W x):Own H' e size v n cells:=by
 obtain ⟨hl,⟨h0,h|⟨b,rfl,hb⟩⟩|⟨b,rfl,h1,h2⟩⟩:=h
 ·exact ⟨hl,.inl ⟨h0,.inl h⟩⟩
 ·exact ⟨hl,.inl ⟨h0,.inr ⟨b,rfl,ql hb f.next⟩⟩⟩
 ·exact ⟨hl,.inr ⟨b,rfl,ql h1 f.next,by rw [f.keep b h1 (hw b ⟨by simp,rfl⟩)];exact h2⟩⟩
theorem Own.em {H H':AHeap} {e size:Nat} {v:AV} {n:Nat} {cells:List AV} (h:Own H e size v n cells) (f:Fr Em H H'):Own H' e size v n cells:=h.fr f fun _ _ h=>h
theorem Own.lt {H:AHeap} {e size:Nat} {v:AV} {n:Nat} {cells:List AV} (h:Own H e size v n cells):∀ x,OnS v x->x<H.next:=by
 rintro x ⟨h1,rfl⟩
 obtain ⟨hl,⟨h0,h|⟨b,rfl,hb⟩⟩|⟨b,rfl,h1,h2⟩⟩:=h
 ·exact (h1 h).elim
 ·exact hb
 ·exact h1
theorem Sl.one {H:AHeap} {size:Nat} {v:AV} {n:Nat} {cells:List AV} (h:Sl H size v n cells):oneCell v=true:=by
 obtain ⟨_,h⟩:=h
 cases v<;>first|rfl|exact h.elim
theorem q1b {n bytes:Nat} (h1:n*bytes<=140737488355328) (h2:n<=140737488355328):fits n bytes=true:=by
 simp [fits,h1,h2]
theorem qwa {H:AHeap} {e size bytes:Nat} {v:AV} {n:Nat} {cells:List AV} (h:Own H e size v n cells) {x:AV} {k:Nat} {new:List AV} (hx:Sl H size x k new) (hnew:allOne new=true) (hs:0<size)
 (hf:(n+k)*bytes<=140737488355328) (hf':n+k<=140737488355328) {K:Bool->AV->AHeap->Prop} {m:Bool}
 (hk:∀ v' H',Own H' e size v' (n+k) (cells++new)->Fr (OnS v) H H'->(∀ b,OnS v' b->OnS v b\/H.next<=b)->K dirty v' H'):BI2 m (Op.append e size bytes [v,x] H) K:=by
 have hfit:=q1b hf hf'
 have hlen:new.length=k*size:=hx.1
 have hs':=qnp hs
 have e1:∀ n,Nat.beq n n=true:=fun n=>by simp
 simp only [Op.append,hx.lenV,hx.first,qf,hnew,qz]
 obtain ⟨hl,⟨rfl,rfl|⟨b,rfl,hb⟩⟩|⟨b,rfl,h1,h2⟩⟩:=h
 ·simp only [yh,qeh] at hl
  subst hl
  by_cases hk0:k=0
  ·subst hk0
   simp at hlen;subst hlen
   exact hk .nils H (Own.nil H e size) (Fr.refl H) fun b hb=>.inl hb
  ·have h0:Nat.beq k 0=false:=qiv hk0
   simp only [appendV,h0,xy,yv] at hfit ⊢
   simp only [hfit,hs',ko,qz,grownV,BI2]
   refine hk _ _ ⟨by simpa using hlen,.inr ⟨H.next,by simp,by rw [za];omega,?_⟩⟩ ((Fr.refl H).alloc _) fun b hb=>.inr (by rw [hb.2];exact qe _)
   rw [AHeap.get_alloc,xc rfl];simp
 ·simp only [yh,qeh] at hl
  subst hl
  by_cases hk0:k=0
  ·subst hk0
   simp at hlen;subst hlen
   simp only [appendV,kz,qb6 (qe 0),qz,e1,BI2]
   exact hk _ H ⟨by simp,.inl ⟨rfl,.inr ⟨b,rfl,hb⟩⟩⟩ (Fr.refl H) fun b hb=>.inl hb
  ·have h0:Nat.beq k 0=false:=qiv hk0
   have h3:Nat.ble k 0=false:=by cases hq:Nat.ble k 0 with|false=>rfl|true=>rw [vl] at hq;omega
   have h4:firstCells H size 0 (.slice b 0 0 0)=some []:=rfl
   simp only [appendV,yv,h3,xy] at hfit ⊢
   simp only [hfit,qb6 (zl k),hs',ko,qz,h4,qf,qdt,jj,grownV,BI2]
   refine hk _ _ ⟨by simpa using hlen,.inr ⟨H.next,by simp,by rw [za];omega,?_⟩⟩ ((Fr.refl H).alloc _) fun b hb=>.inr (by rw [hb.2];exact qe _)
   rw [AHeap.get_alloc,xc rfl];simp
 ·by_cases hk0:k=0
  ·subst hk0
   simp at hlen;subst hlen
   simp only [appendV,Nat.beq,qz,yv,qb6 (qe n),BI2]
   refine hk _ _ ⟨by simpa using hl,.inr ⟨b,rfl,h1,by simpa using h2⟩⟩ (Fr.refl H) fun b hb=>.inl hb
  ·have h0:Nat.beq k 0=false:=qiv hk0
   have h3:Nat.ble (0+n+k) n=false:=by cases hq:Nat.ble (0+n+k) n with|false=>rfl|true=>rw [vl] at hq;omega
   simp only [appendV,h0,xy,e1,yv,qb6 (qe n),hs',ko,qz] at h3 ⊢
   simp only [h3,xy,hfit,qz,h2,e1,ko,Nat.beq,qb6 (zl (n*size)),grownV,BI2]
   refine hk _ _ ⟨by simp [hl,hlen,yk],.inr ⟨H.next,by simp [qkl],by rw [za,qkl];omega,?_⟩⟩ (((Fr.refl H).kill (.inl ⟨by simp,rfl⟩)).alloc _) fun b hb=>.inr (by rw [hb.2];exact qe _)
   rw [AHeap.get_alloc,qkl,xc rfl,qdt]
theorem qx6 (e n:Nat) (zero:List AV) (v:AV) (hz:zero.length=n) (hv:v.cells.length=n):Op.buildSlice e 1 zero [(0,n)] [v]=some (.row v.cells e (0,0) true,Op.sliceTo 1 1):=by
 have e1:∀ n,Nat.beq n n=true:=fun n=>by simp
 simp only [Op.buildSlice,repl,qdt,jb,fillAt,qgq,hv,e1,qz,qj0,yv,hz,xc (qe n),qev,jj,qf]
 rw [j7 (by omega)];simp
theorem sl_new {H:AHeap} {size e:Nat} {cells:List AV} (hc:cells.length=size):Sl (H.alloc (.row cells e (0,0) true)) size (Op.sliceTo 1 1 H.next) 1 cells:=by
 refine ⟨by simp [hc],rfl,qe 1,.inr ⟨by rw [za];omega,cells,xd (by rw [AHeap.get_alloc,xc rfl]),?_⟩⟩
 rw [qce,xc (by simp [hc])];simp [<-hc]
theorem append1 {H:AHeap} {e size bytes:Nat} {v:AV} {n:Nat} {cells:List AV} (h:Own H e size v n cells) {zero:List AV} {x:AV} (hz:zero.length=size) (hx:x.cells.length=size) (hnew:allOne x.cells=true) (hs:0<size)
 (hf:(n+1)*bytes<=140737488355328) (hf':n+1<=140737488355328) {K:AObj->(Nat->AV)->Bool->AV->AHeap->Prop} {m:Bool}
 (hk:∀ v' H',Own H' e size v' (n+1) (cells++x.cells)->Fr (OnS v) H H'->(∀ b,OnS v' b->OnS v b\/H.next<=b)->K (.row x.cells e (0,0) true) (Op.sliceTo 1 1) dirty v' H') :
 BI2 m (Op.buildSlice e 1 zero [(0,size)] [x]) fun g o mk=>BI2 g (Op.append e size bytes [v,mk H.next] (H.alloc o)) (K o mk):=by
 rw [qx6 e size zero x hz hx]
 have hfr:Fr Em H (H.alloc (.row x.cells e (0,0) true)):=(Fr.refl H).alloc _
 refine BI2.intro rfl ?_
 refine qwa (m:=dirty) (h.em hfr) (sl_new hx) hnew hs hf hf' fun v' H' h1 h2 h3=>hk v' H' h1 ?_ fun b hb=>?_
 ·exact ⟨zn hfr.next h2.next,fun b hb hw=>by rw [h2.keep b (ql hb hfr.next) hw,hfr.keep b hb (fun q=>q)]⟩
 ·exact (h3 b hb).imp id fun q=>zn hfr.next q
theorem LOOP.intro {W:St->Post->Prop} {keep:Option (List Nat)} {st:St} {Q:Post} (I:Nat->St->Prop) (n:Nat) (h0:I n st)
 (h:∀ n st,I n st->W (keepT keep st) fun e st'=>match e with
  | .normal=>∃ m,m<n/\I m st'
  | e=>Q e st'):LOOP W keep st Q:=⟨I,⟨n,h0⟩,h⟩
end Go.Am
namespace Go.Am
theorem res_tmp (H:AHeap) (tm:T AV) (t:Nat) (rs:List ARes):readRes H tm (.tmp t::rs)=(tm.get t).bind fun v=>(readRes H tm rs).bind fun vs=>some (v::vs):=rfl
theorem q6j (H:AHeap) (tm:T AV) (t:Nat) (rs:List ARes):readRes H tm (.cell1 t::rs)=(((tm.get t).bind fun v=>Op.load1 [v] H)).bind fun v=>(readRes H tm rs).bind fun vs=>some (v::vs):=by
 simp only [readRes,qnw]
 congr 1;cases tm.get t with
 | none=>rfl
 | some v=>cases v<;>rfl
theorem q6k (H:AHeap) (tm:T AV) (n t:Nat) (rs:List ARes):readRes H tm (.cellN n t::rs)=(((tm.get t).bind fun v=>Op.loadN n [v] H)).bind fun v=>(readRes H tm rs).bind fun vs=>some (v::vs):=by
 simp only [readRes,qnw]
 congr 1;cases tm.get t with
 | none=>rfl
 | some v=>cases v<;>rfl
theorem tup1 (v:AV):tupled [v]=v:=rfl
theorem tup0:tupled []=.tuple []:=rfl
theorem tup2 (a b:AV) (l:List AV):tupled (a::b::l)=.tuple (a::b::l):=rfl
theorem mkptr (b:Nat):Op.ptrTo b=.ptr b 0:=rfl
theorem eqTy_agg (t:EqTree) (x y:AV) (H:AHeap) (q:Bool) (h:eqTree t x y=some q):Op.eq (.agg t) true [x,y] H=some (.bool (!q)):=by simp [Op.eq,eqV,h]
theorem eqTy_agg' (t:EqTree) (x y:AV) (H:AHeap) (q:Bool) (h:eqTree t x y=some q):Op.eq (.agg t) false [x,y] H=some (.bool q):=by simp [Op.eq,eqV,h]
structure Evt where
 kind:Int
 time:Int
 core:Int
 block:Int
 try':Int
 lane:Int
 addr:Int
 value:Int
 code:Int
deriving DecidableEq
def Evt.enc (x:Evt):List AV:=[.int .i64 x.kind,.int .i64 x.time,.int .i64 x.core,.int .i64 x.block,.int .i64 x.try',.int .i64 x.lane,.int .i64 x.addr,.int .u64 x.value,.int .i64 x.code]
theorem Evt.len (x:Evt):x.enc.length=9:=rfl
end Go.Am
namespace Go.Am
theorem T.put_put {α:Type} (v v':Option α):∀ (p:List Bool) (t:T α),T.putP v p (T.putP v' p t)=T.putP v p t
 | [],t=>rfl
 | b::p,t=>by cases b<;>simp [T.putP,T.l,T.r,T.val,T.put_put v v' p]
theorem xg (H:AHeap) (o:AObj):(H.alloc o).get H.next=some o:=by rw [AHeap.get_alloc,xc rfl]
theorem qmt {H:AHeap} {b:Nat} (h:b<H.next) (o:AObj):(H.alloc o).get b=H.get b:=by rw [AHeap.get_alloc,qo (by omega)]
theorem xj (H:AHeap) (b:Nat) (o:AObj):(H.set b o).get b=some o:=by rw [AHeap.get_set,xc rfl]
theorem qae {H:AHeap} {b b':Nat} (h:b ≠ b') (o:AObj):(H.set b o).get b'=H.get b':=by rw [AHeap.get_set,qo h]
theorem qf7 {H:AHeap} {b:Nat} {c:List AV} {e:Nat} (h:H.get b=some (.row c e (0,0) true)) {o n:Nat} {v:AV} (hv:v.cells.length=n) (hn:o+n<=c.length) (h1:allOne v.cells=true) :
 Op.store n [.ptr b o,v] H=some (.undef,H.set b (.row (c.take o++v.cells++c.drop (o+n)) e (0,0) true)):=by
 have e1:∀ n,Nat.beq n n=true:=fun n=>by simp
 simp only [Op.store,qgq,hv,e1,qz,AHeap.store,h1,h]
 have:thawed (0,0) o n=true:=by simp [thawed]
 simp only [this,qz,qj0,hv,xc hn,qf]
theorem qou {H:AHeap} {b m s:Nat} {c:List AV} {e:Nat} (h:H.get b=some (.grown m s c e (0,0))) {o n:Nat} {v:AV} (hv:v.cells.length=n) (hn:o+n<=c.length) (h1:allOne v.cells=true) :
 Op.store n [.ptr b o,v] H=some (.undef,H.set b (.grown m s (c.take o++v.cells++c.drop (o+n)) e (0,0))):=by
 have e1:∀ n,Nat.beq n n=true:=fun n=>by simp
 simp only [Op.store,qgq,hv,e1,qz,AHeap.store,h1,h]
 have:thawed (0,0) o n=true:=by simp [thawed]
 simp only [this,qz,qj0,hv,xc hn,qf]
def OwnT {α:Type} (enc:α->List AV) (e size:Nat) (H:AHeap) (v:AV) (xs:List α):Prop:=Own H e size v xs.length (xs.flatMap enc)
structure New {α:Type} (enc:α->List AV) (e size:Nat) (H0 H:AHeap) (v:AV) (xs:List α):Prop where
 own:OwnT enc e size H v xs
 fr:Fr Em H0 H
 fresh:∀ b,OnS v b->H0.next<=b
section
variable {α:Type} {enc:α->List AV} {e size:Nat} {H0 H H':AHeap} {v:AV} {xs:List α}
theorem SlT.one (h:SlT enc size H v xs):oneCell v=true:=Sl.one h
theorem New.nil (H:AHeap):New enc e size H H .nils ([]:List α):=⟨Own.nil H e size,Fr.refl H,fun b h=>(h.1 rfl).elim⟩
theorem New.sl (h:New enc e size H0 H v xs):SlT enc size H v xs:=Own.sl h.own
theorem OwnT.sl (h:OwnT enc e size H v xs):SlT enc size H v xs:=Own.sl h
theorem New.em (h:New enc e size H0 H v xs) (f:Fr Em H H'):New enc e size H0 H' v xs:=⟨Own.em h.own f,h.fr.em f,h.fresh⟩
theorem New.len (h:New enc e size H0 H v xs):Op.lenSl [v]=some (.int .i64 xs.length):=h.sl.len
theorem New.step (h:New enc e size H0 H v xs) {v':AV} {ys:List α} (h1:OwnT enc e size H' v' ys) (h2:Fr (OnS v) H H') (h3:∀ b,OnS v' b->OnS v b\/H.next<=b):New enc e size H0 H' v' ys :=
 ⟨h1,h.fr.trans h2 fun x hx=>.inr (h.fresh x hx),fun b hb=>(h3 b hb).elim (h.fresh b) fun q=>zn h.fr.next q⟩
theorem qk7 {f:α->List AV} (hs:∀ x,(f x).length=size):∀ (xs:List α) {i:Nat} {x:α},xs[i]? = some x -> ∀ (y:α),(xs.set i y).flatMap f=(xs.flatMap f).take (i*size)++f y++(xs.flatMap f).drop (i*size+size)
 | [],i,x,h,y=>by simp at h
 | z::zs,0,x,h,y=>by
  simp at h;subst h
  simp only [List.set_cons_zero,j4,yh,qev,jj,yv]
  rw [ki (by rw [hs];omega),j7 (by rw [hs];omega),jj]
 | z::zs,i+1,x,h,y=>by
  simp only [z5] at h
  have e1:(f z++zs.flatMap f).take ((i+1)*size)=f z++(zs.flatMap f).take (i*size):=by
   rw [show (i+1)*size=(f z).length+i*size from by rw [hs,k9];omega,List.take_length_add_append]
  have e2:(f z++zs.flatMap f).drop ((i+1)*size+size)=(zs.flatMap f).drop (i*size+size):=by
   rw [show (i+1)*size+size=(f z).length+(i*size+size) from by rw [hs,k9];omega,List.drop_length_add_append]
  rw [List.set_cons_succ,j4,j4,qk7 hs zs h y,e1,e2]
  simp only [zj]
theorem qej (hs:∀ x,(enc x).length=size) (l:List α):(l.flatMap enc).length=l.length*size:=by
 induction l with
 | nil=>simp
 | cons a l ih=>rw [j4,qu,hs,ih,jn,k9];omega
theorem q6p {L E:List AV} {k0 j:Nat} {u:AV} (hE:E.length=size) (hj:j<size) (hk:k0+size<=L.length) (h:∀ r,r<size->L[k0+r]? = E[r]?) :
 L.take k0++E.set j u++L.drop (k0+size)=L.set (k0+j) u:=by
 refine vz fun k=>?_
 have h1:(L.take k0).length=k0:=by rw [zm];omega
 rw [zj,List.getElem?_set]
 rcases z8 k k0 with q|q
 ·rw [kw (by omega),j6,xc q,qo (by omega)]
 ·rw [js (by omega),h1]
  obtain ⟨r,rfl⟩:∃ r,k=k0+r:=⟨k-k0,by omega⟩
  rw [show k0+r-k0=r from by omega]
  rcases z8 r size with q'|q'
  ·rw [kw (by rw [qt];omega),List.getElem?_set]
   by_cases hjr:j=r
   ·subst hjr;rw [xc rfl,xc rfl,xc (by omega),xc (by omega)]
   ·rw [qo hjr,qo (by omega),h r q']
  ·rw [js (by rw [qt];omega),qt,j5,qo (by omega)]
   congr 1;omega
theorem OwnT.set1 (hs:∀ x,(enc x).length=size) (h:OwnT enc e size H v xs) {i:Nat} {x y:α} (hx:xs[i]? = some x) {j:Nat} (hj:j<size) {u:AV} (hu:oneCell u=true) (hy:enc y=(enc x).set j u) :
 ∃ H',Op.store 1 [.ptr (slB v) (slO size v i+j),u] H=some (.undef,H')/\OwnT enc e size H' v (xs.set i y)/\Fr (OnS v) H H':=by
 obtain ⟨hl,h|⟨b,rfl,h1,h2⟩⟩:=h
 ·rw [qeh.1 h.1] at hx;simp at hx
 ·have hi:=qdq hx
  have hb:(i+1)*size<=xs.length*size:=zt _ hi
  rw [k9] at hb
  have hc:u.cells=[u]:=by cases u<;>first|rfl|cases hu
  have hst:=qou h2 (o:=i*size+j) (n:=1) (v:=u) (by rw [hc];rfl) (by omega) (by rw [hc,qgo];simpa using hu)
  have ho:slO size (AV.gslice b 0 xs.length size 0 xs.length) i=i*size:=by simp [slO]
  rw [ho]
  refine ⟨_,hst,⟨?_,.inr ⟨b,?_,h1,?_⟩⟩,(Fr.refl H).set (.inl ⟨by simp,rfl⟩) _⟩
  ·rw [qt,qej hs,qt]
  ·rw [qt]
  ·rw [qt,xj,qk7 hs xs hx,hy,hc,q6p (L:=xs.flatMap enc) (E:=enc x) (hs x) hj (by omega) (fun r hr=>qfb hs xs hx hr),qa6,xc (by omega)]
   simp
end
end Go.Am
namespace Go.Am
theorem qfa {k mx d:Nat} {z:Int} (hz:z=k) (h:k<=mx) (kk:IntKind):bound (some (.int kk z)) d mx=some k:=by
 subst hz
 show cond (Nat.ble k mx) (some k) none=some k
 rw [qb6 h];rfl
theorem Sl.from {H:AHeap} {size:Nat} {v:AV} {n:Nat} {cells:List AV} (h:Sl H size v n cells) {k:Nat} (hk:k<=n) {z:Int} (hz:z=k) (kk:IntKind) :
 ∃ v',Op.sliceSl size [some 0,none,none] [v,.int kk z]=some v'/\Sl H size v' (n-k) (cells.drop (k*size))/\(v'=.nils\/slB v'=slB v):=by
 obtain ⟨hl,h⟩:=h
 have hlen:(cells.drop (k*size)).length=(n-k)*size:=by rw [vx,hl,Nat.sub_mul]
 have hkn:k*size<=n*size:=zt _ hk
 have hsub:(n-k)*size=n*size-k*size:=Nat.sub_mul n k size
 split at h
 ·subst h
  have:k=0:=by omega
  subst this
  refine ⟨.nils,?_,⟨hlen,rfl⟩,.inl rfl⟩
  have hbn:bound none 0 0=some 0:=rfl
  simp [Op.sliceSl,arg,qcq,sliceV,hbn,qfa hz (qe 0)]
 ·rename_i b o m c
  obtain ⟨rfl,hc,h⟩:=h
  have hb1:∀ d m,bound none d m=some d:=fun _ _=>rfl
  refine ⟨.slice b (cond (Nat.beq c k) o (o+k*size)) (m-k) (c-k),by simp [Op.sliceSl,arg,qcq,sliceV,hb1,qfa hz hk],⟨hlen,rfl,by omega,?_⟩,.inr rfl⟩
  rcases h with h|⟨hb,all,h1,h2⟩
  ·left;omega
  ·by_cases he:c=k
   ·left;omega
   ·right
    obtain ⟨h3,rfl⟩:=qhx h2
    refine ⟨hb,all,h1,?_⟩
    rw [qiv he,xy,qce,xc (by omega),List.drop_take,qa5]
    simp [hsub]
 ·rename_i b i m s alt q
  obtain ⟨rfl,rfl,hm,h⟩:=h
  have e1:∀ n,Nat.beq n n=true:=fun n=>by simp
  have hb1:∀ d m,bound none d m=some d:=fun _ _=>rfl
  have hq:=qb6 (show q<=m-i by omega)
  have him:=qb6 (show i<=m by omega)
  refine ⟨.gslice b (i+k) m s (cond (Nat.beq k 0) alt (i*s)) (q-k),by simp only [Op.sliceSl,arg,qcq,ke,qf,sliceV,hb1,qfa hz hk,e1,him,hq,ko,qz],⟨hlen,rfl,rfl,by omega,?_⟩,.inr rfl⟩
  rcases h with h|⟨hb,all,h1,h2⟩
  ·left;omega
  ·right
   obtain ⟨h3,rfl⟩:=qhx h2
   refine ⟨hb,all,h1,?_⟩
   rw [qce,xc (by rw [yk];omega),List.drop_take,qa5,yk]
   simp [hsub]
 ·rename_i b
  obtain ⟨rfl,hb⟩:=h
  have:k=0:=by omega
  subst this
  have hbn:bound none 0 0=some 0:=rfl
  refine ⟨.eslice b,?_,⟨hlen,rfl,hb⟩,.inr rfl⟩
  simp [Op.sliceSl,arg,qcq,sliceV,hbn,qfa hz (qe 0)]
 ·exact h.elim
theorem Sl.upto {H:AHeap} {size:Nat} {v:AV} {n:Nat} {cells:List AV} (h:Sl H size v n cells) {k:Nat} (hk:k<=n) {z:Int} (hz:z=k) (kk:IntKind) :
 ∃ v',Op.sliceSl size [none,some 0,none] [v,.int kk z]=some v'/\Sl H size v' k (cells.take (k*size))/\(v'=.nils\/slB v'=slB v):=by
 obtain ⟨hl,h⟩:=h
 have hkn:k*size<=n*size:=zt _ hk
 have hlen:(cells.take (k*size)).length=k*size:=by rw [zm,hl];omega
 split at h
 ·subst h
  have:k=0:=by omega
  subst this
  refine ⟨.nils,?_,⟨hlen,rfl⟩,.inl rfl⟩
  have hbn:bound none 0 0=some 0:=rfl
  simp [Op.sliceSl,arg,qcq,sliceV,hbn,qfa hz (qe 0)]
 ·rename_i b o m c
  obtain ⟨rfl,hc,h⟩:=h
  have hb0:∀ h,bound none 0 h=some 0:=fun h=>rfl
  have hb1:∀ d m,bound none d m=some d:=fun _ _=>rfl
  refine ⟨.slice b (cond (Nat.beq c 0) o (o+0*size)) (k-0) (c-0),by simp only [Op.sliceSl,arg,qcq,ke,qf,sliceV,qfa hz (show k<=c by omega),hb0,hb1],⟨hlen,by omega,by omega,?_⟩,.inr rfl⟩
  rcases h with h|⟨hb,all,h1,h2⟩
  ·left;omega
  ·right
   obtain ⟨h3,rfl⟩:=qhx h2
   refine ⟨hb,all,h1,?_⟩
   have:cond (Nat.beq c 0) o (o+0*size)=o:=by cases Nat.beq c 0<;>simp
   rw [this,qce,xc (by omega),List.take_take,Nat.min_eq_left hkn]
 ·rename_i b i m s alt q
  obtain ⟨rfl,rfl,hm,h⟩:=h
  have e1:∀ n,Nat.beq n n=true:=fun n=>by simp
  have hb1:∀ d m,bound none d m=some d:=fun _ _=>rfl
  have hq:=qb6 (show k<=m-i by omega)
  have him:=qb6 (show i<=m by omega)
  refine ⟨.gslice b (i+0) m s (cond (Nat.beq 0 0) alt (i*s)) (k-0),by simp only [Op.sliceSl,arg,qcq,ke,qf,sliceV,hb1,qfa hz (show k<=m-i by omega),e1,him,hq,ko,qz],⟨hlen,by omega,rfl,by omega,?_⟩,.inr rfl⟩
  rcases h with h|⟨hb,all,h1,h2⟩
  ·left;omega
  ·right
   obtain ⟨h3,rfl⟩:=qhx h2
   refine ⟨hb,all,h1,?_⟩
   rw [kz,qce,xc (by omega),List.take_take,Nat.min_eq_left hkn]
 ·rename_i b
  obtain ⟨rfl,hb⟩:=h
  have:k=0:=by omega
  subst this
  have hbn:bound none 0 0=some 0:=rfl
  refine ⟨.eslice b,?_,⟨hlen,rfl,hb⟩,.inr rfl⟩
  simp [Op.sliceSl,arg,qcq,sliceV,hbn,qfa hz (qe 0)]
 ·exact h.elim
section
variable {α:Type} {enc:α->List AV} {size:Nat} {H H':AHeap} {v:AV} {xs:List α}
theorem qq9 (hs:∀ x,(enc x).length=size):∀ (xs:List α) (k:Nat),(xs.flatMap enc).drop (k*size)=(xs.drop k).flatMap enc
 | [],k=>by simp
 | x::xs,0=>by simp
 | x::xs,k+1=>by
  rw [j4,show (k+1)*size=(enc x).length+k*size from by rw [hs,k9];omega,List.drop_length_add_append,qq9 hs xs k];rfl
theorem qra (hs:∀ x,(enc x).length=size):∀ (xs:List α) (k:Nat),(xs.flatMap enc).take (k*size)=(xs.take k).flatMap enc
 | [],k=>by simp
 | x::xs,0=>by simp
 | x::xs,k+1=>by
  rw [j4,show (k+1)*size=(enc x).length+k*size from by rw [hs,k9];omega,List.take_length_add_append,qra hs xs k];rfl
theorem SlT.from (hs:∀ x,(enc x).length=size) (h:SlT enc size H v xs) {k:Nat} (hk:k<=xs.length) {z:Int} (hz:z=k) (kk:IntKind) :
 ∃ v',Op.sliceSl size [some 0,none,none] [v,.int kk z]=some v'/\SlT enc size H v' (xs.drop k)/\(v'=.nils\/slB v'=slB v):=by
 obtain ⟨v',h1,h2,h3⟩:=Sl.from h hk hz kk
 refine ⟨v',h1,?_,h3⟩
 unfold SlT;rw [vx,<-qq9 hs];exact h2
theorem SlT.upto (hs:∀ x,(enc x).length=size) (h:SlT enc size H v xs) {k:Nat} (hk:k<=xs.length) {z:Int} (hz:z=k) (kk:IntKind) :
 ∃ v',Op.sliceSl size [none,some 0,none] [v,.int kk z]=some v'/\SlT enc size H v' (xs.take k)/\(v'=.nils\/slB v'=slB v):=by
 obtain ⟨v',h1,h2,h3⟩:=Sl.upto h hk hz kk
 refine ⟨v',h1,?_,h3⟩
 unfold SlT;rw [zm,Nat.min_eq_left hk,<-qra hs];exact h2
def RowT (enc:α->List AV) (e size:Nat) (H:AHeap) (v:AV) (xs:List α):Prop:=∃ b,v=.slice b 0 xs.length xs.length/\b<H.next/\H.get b=some (.row (xs.flatMap enc) e (0,0) true)
theorem RowT.sl {e:Nat} (hs:∀ x,(enc x).length=size) (h:RowT enc e size H v xs):SlT enc size H v xs:=by
 obtain ⟨b,rfl,h1,h2⟩:=h
 refine ⟨qej hs xs,rfl,qe _,.inr ⟨h1,_,xd h2,?_⟩⟩
 rw [qce,xc (by rw [qej hs];omega),qct,zb (by rw [qej hs];omega)]
theorem RowT.fr {e:Nat} {W:Nat->Prop} (h:RowT enc e size H v xs) (f:Fr W H H') (hw:¬ W (slB v)):RowT enc e size H' v xs:=by
 obtain ⟨b,rfl,h1,h2⟩:=h
 exact ⟨b,rfl,ql h1 f.next,by rw [f.keep b h1 hw];exact h2⟩
theorem RowT.lt {e:Nat} (h:RowT enc e size H v xs):slB v<H.next:=by
 obtain ⟨b,rfl,h1,h2⟩:=h;exact h1
theorem RowT.set1 {e:Nat} (hs:∀ x,(enc x).length=size) (h:RowT enc e size H v xs) {i:Nat} {x y:α} (hx:xs[i]? = some x) {j:Nat} (hj:j<size) {u:AV} (hu:oneCell u=true) (hy:enc y=(enc x).set j u) :
 ∃ H',Op.store 1 [.ptr (slB v) (slO size v i+j),u] H=some (.undef,H')/\RowT enc e size H' v (xs.set i y)/\Fr (On (slB v)) H H':=by
 obtain ⟨b,rfl,h1,h2⟩:=h
 have hi:=qdq hx
 have hl:=qej hs xs
 have hb:(i+1)*size<=xs.length*size:=zt _ hi
 rw [k9] at hb
 have hc:u.cells=[u]:=by cases u<;>first|rfl|cases hu
 have hst:=qf7 h2 (o:=i*size+j) (n:=1) (v:=u) (by rw [hc];rfl) (by omega) (by rw [hc,qgo];simpa using hu)
 have ho:slO size (AV.slice b 0 xs.length xs.length) i=i*size:=by simp [slO]
 rw [ho]
 refine ⟨_,hst,⟨b,?_,h1,?_⟩,(Fr.refl H).set (W:=On b) (.inl rfl) _⟩
 ·rw [qt]
 ·rw [xj,qk7 hs xs hx,hy,hc,q6p (L:=xs.flatMap enc) (E:=enc x) (hs x) hj (by omega) (fun r hr=>qfb hs xs hx hr),qa6,xc (by omega)]
  simp
end
theorem q55 (e bytes:Nat) (z:List AV) (n:Nat) (k k':IntKind) (h:n*bytes<=140737488355328) (h':n<=140737488355328) :
 Op.mkSlice e bytes z [.int k n,.int k' n]=some (.row (repl n z) e (0,0) true,Op.sliceTo n n):=by
 have h1:leI 0 (n:Int)=true:=by rw [qm8];simp
 have h2:leI (n:Int) n=true:=by rw [qm8];simp
 have h3:leI ((n:Int)*(bytes:Int)) 140737488355328=true:=by rw [qm8];simp;omega
 have h4:leI (n:Int) 140737488355328=true:=by rw [qm8];simp;omega
 simp [Op.mkSlice,h1,h2,h3,h4]
end Go.Am
namespace Go.Am
theorem q19 {tm:T AV} {x:AOpd} {K K':AV->Prop} (h:EVO tm x K) (hk:∀ v,K v->K' v):EVO tm x K':=by
 obtain ⟨v,h1,h2⟩:=h.elim
 cases x with
 | tmp t=>simp only [evO] at h1;simp only [EVO,BIND,h1];exact hk v h2
 | const c=>injection h1 with h1;subst h1;exact hk _ h2
 | glob c=>injection h1 with h1;subst h1;exact hk _ h2
 | func c=>injection h1 with h1;subst h1;exact hk _ h2
theorem qjl {tm:T AV}:∀ {l:List AOpd} {K K':List AV->Prop},EVL tm l K->(∀ v,K v->K' v)->EVL tm l K'
 | [],K,K',h,hk=>hk _ h
 | .tmp t::xs,K,K',h,hk=>by
  simp only [EVL] at h ⊢
  unfold BIND at h ⊢
  split at h
  ·exact qjl h fun vs=>hk _
  ·exact h.elim
 | .const v::xs,K,K',h,hk=>qjl (l:=xs) h fun vs=>hk _
 | .glob v::xs,K,K',h,hk=>qjl (l:=xs) h fun vs=>hk _
 | .func v::xs,K,K',h,hk=>qjl (l:=xs) h fun vs=>hk _
theorem qf3 {α:Type} {m:Bool} {o:Option α} {K K':α->Prop} (h:BIND m o K) (hk:∀ a,K a->K' a):BIND m o K':=by
 cases o with
 | none=>exact h
 | some a=>exact hk a h
theorem qv9 {α β:Type} {m:Bool} {o:Option (α × β)} {K K':α -> β->Prop} (h:BIND2 m o K) (hk:∀ a b,K a b->K' a b):BIND2 m o K':=by
 cases o with
 | none=>exact h
 | some a=>exact hk a.1 a.2 h
section
variable {AP:Mac}
theorem qnn {m:Bool} {f:AFn} {vs:List AV} {H:AHeap} {K K':AV->AHeap->Prop} {E E':Chain->AHeap->Prop} (h:CALLK AP m f vs H K E) (hk:∀ v H,K v H->K' v H) (he:∀ c H,E c H->E' c H):CALLK AP m f vs H K' E':=by
 obtain ⟨e,H',h1,h2⟩:=h
 refine ⟨e,H',h1,?_⟩
 cases e with
 | ret v=>exact hk _ _ h2
 | panic c=>exact he _ _ h2
theorem qox {ps:Option (List Nat)} {tm:T AV} {dfs:List ADef} {up:Option Chain} {Q Q':Post} (hq:∀ e st,Q e st->Q' e st) (c:Chain) (H:AHeap) (h:PAN ps tm dfs up Q c H):PAN ps tm dfs up Q' c H:=by
 cases ps with
 | none=>exact h
 | some ds=>exact hq _ _ h
theorem q2b {ctx:Ctx} {dst:Option Nat} {ps:Option (List Nat)} {st:St} {Q Q':Post} {K K':St->Prop} {vs:List AV} {op:AOp} (h:OPK AP ctx dst ps st Q K vs op) (hq:∀ e st,Q e st->Q' e st) (hk:∀ st,K st->K' st):OPK AP ctx dst ps st Q' K' vs op:=by
 cases op with
 | pure f=>exact qf3 (m:=dirty) h fun _=>hk _
 | read f=>exact qf3 (m:=dirty) h fun _=>hk _
 | alloc f=>simp only [OPK] at h ⊢;exact qv9 h fun _ _=>hk _
 | eff f=>simp only [OPK] at h ⊢;exact qv9 h fun _ _=>hk _
 | callF f=>exact qnn (m:=dirty) h (fun _ _=>hk _) (qox hq)
 | callV =>
  simp only [OPK,VIA] at h ⊢
  split at h
  ·exact qnn h (fun _ _=>hk _) (qox hq)
  ·exact qnn h (fun _ _=>hk _) (qox hq)
  ·exact h.elim
 | invoke n =>
  simp only [OPK,INV] at h ⊢
  split at h
  ·exact qf3 h fun _ q=>qnn q (fun _ _=>hk _) (qox hq)
  ·exact h.elim
 | recover =>
  simp only [OPK,RECOV] at h ⊢
  split at h
  ·refine ⟨h.1,?_⟩
   have h2:=h.2
   split at h2<;>exact hk _ h2
  ·exact h.elim
 | defer =>
  simp only [OPK,DEFR] at h ⊢
  refine ⟨h.1,?_⟩
  have h2:=h.2
  split at h2
  ·exact hk _ h2
  ·exact h2.elim
 | panic =>
  simp only [OPK,PANICK] at h ⊢
  split at h
  ·exact qox hq _ _ h
  ·exact h.elim
theorem q44 {ctx:Ctx} {s:AStep} {st:St} {Q Q':Post} {K K':St->Prop} (h:STEP AP ctx s st Q K) (hq:∀ e st,Q e st->Q' e st) (hk:∀ st,K st->K' st):STEP AP ctx s st Q' K':=by
 obtain ⟨chk,dst,guard,args,op,ps⟩:=s
 cases chk with
 | false =>
  cases guard with
  | none=>exact qjl h fun _ q=>q2b q hq hk
  | some g =>
   refine qf3 (m:=dirty) h fun w q=>?_
   cases w with
   | true=>exact qjl (K:=_) q fun _ q=>q2b q hq hk
   | false=>exact hk _ q
 | true =>
  cases guard with
  | none=>exact qjl h fun _ q=>⟨q.1,hk _ q.2⟩
  | some g =>
   refine qf3 (m:=dirty) h fun w q=>?_
   cases w with
   | true=>exact qjl (K:=_) q fun _ q=>⟨q.1,hk _ q.2⟩
   | false=>exact ⟨q.1,hk _ q.2⟩
theorem q2c {ctx:Ctx}:∀ {l:List AStep} {st:St} {Q Q':Post},WPS AP ctx l st Q->(∀ e st,Q e st->Q' e st)->WPS AP ctx l st Q'
 | [],st,Q,Q',h,hq=>hq _ _ h
 | s::rest,st,Q,Q',h,hq=>q44 h hq fun st' h'=>q2c h' hq
theorem qio {ctx:Ctx} {st:St} {k:Nat} {H0:AHeap} {dfs:List ADef} {d:Nat} {Q Q':Post} {v:AV} (h:RANGE AP ctx st k H0 dfs d Q v) (hq:∀ e st,Q e st->Q' e st):RANGE AP ctx st k H0 dfs d Q' v:=by
 unfold RANGE at h ⊢
 split at h
 ·obtain ⟨e,H',h1,h2⟩:=h
  refine ⟨e,H',h1,?_⟩
  cases e with
  | panic c=>exact hq _ _ h2
  | ret v=>obtain ⟨s,p,f,k,tm,d,q1,q2,q3⟩:=h2;exact ⟨s,p,f,k,tm,d,q1,q2,hq _ _ q3⟩
 ·exact h.elim
theorem qd9 {ctx:Ctx}:∀ {c:ACode} {st:St} {Q Q':Post},WP AP ctx c st Q->(∀ e st,Q e st->Q' e st)->WP AP ctx c st Q'
 | .skip,st,Q,Q',h,hq=>hq _ _ h
 | .label _,st,Q,Q',h,hq=>hq _ _ h
 | .exit _,st,Q,Q',h,hq=>hq _ _ h
 | .goto _,st,Q,Q',h,hq=>hq _ _ h
 | .ret,st,Q,Q',h,hq=>hq _ _ h
 | .stuck,st,Q,Q',h,hq=>h.elim
 | .region l,st,Q,Q',h,hq=>q2c h hq
 | .seq a b,st,Q,Q',h,hq=>qd9 (c:=a) h fun e st' h'=>by
  cases e with
  | normal=>exact qd9 (c:=b) h' hq
  | exit _=>exact hq _ _ h'
  | goto _=>exact hq _ _ h'
  | ret=>exact hq _ _ h'
  | panic _=>exact hq _ _ h'
 | .cond c a b,st,Q,Q',h,hq=>q19 h fun v q=>qf3 (m:=dirty) q fun w q=>by
  cases w with
  | true=>exact qd9 (c:=a) q hq
  | false=>exact qd9 (c:=b) q hq
 | .block id b,st,Q,Q',h,hq=>qd9 (c:=b) h fun e st' h'=>by cases e<;>exact hq _ _ h'
 | .scope b,st,Q,Q',h,hq=>qd9 (c:=b) h fun e st' h'=>by
  cases e with
  | goto l=>exact ⟨h'.1,hq _ _ h'.2⟩
  | normal=>exact hq _ _ h'
  | exit _=>exact hq _ _ h'
  | ret=>exact hq _ _ h'
  | panic _=>exact hq _ _ h'
 | .loop keep b,st,Q,Q',⟨I,h0,h⟩,hq=>⟨I,h0,fun n st hi=>qd9 (c:=b) (h n st hi) fun e st' h'=>by cases e<;>first|exact h'|exact hq _ _ h'⟩
 | .rangeFunc f k,st,Q,Q',h,hq=>q19 h fun v q=>by
  unfold RNG at q ⊢
  split at q
  ·exact qio q hq
  ·exact qf3 (m:=dirty) q fun d q=>qio q hq
def isJump:AExit->Prop
 | .exit _=>True
 | .goto _=>True
 | .ret=>True
 | _=>False
end
end Go.Am
namespace Go.Am
noncomputable section
abbrev Post3:=AExit->Env->List ADef->AHeap->Prop
def lk (E:Env) (t:Nat):Option AV:=List.rec (motive:=fun _=>Option AV) none (fun p _ ih=>cond (Nat.beq p.1 t) (some p.2) ih) E
theorem lk_nil (t:Nat):lk [] t=none:=rfl
theorem qgb (k t:Nat) (v:AV) (E:Env):lk ((k,v)::E) t=if k=t then some v else lk E t:=by
 show cond (Nat.beq k t) (some v) (lk E t)=_
 cases hb:Nat.beq k t with
 | true=>rw [xc (Nat.eq_of_beq_eq_true hb)];rfl
 | false=>rw [qo (qdh hb)];rfl
def memN (t:Nat) (l:List Nat):Bool:=List.rec (motive:=fun _=>Bool) false (fun x _ ih=>cond (Nat.beq x t) true ih) l
def ESub (ks:List Nat) (E:Env) (tm:T AV):Prop:=∀ t v,lk E t=some v->tm.get t=some v/\memN t ks=true
def SUB:Env->Env->Prop
 | [],_=>True
 | (k,v)::r,E=>lk E k=some v/\SUB r E
theorem SUB_nil (E:Env):SUB [] E=True:=rfl
theorem SUB_cons (k:Nat) (v:AV) (r E:Env):SUB ((k,v)::r) E=(lk E k=some v/\SUB r E):=rfl
theorem SUB.look:∀ {A E:Env},SUB A E -> ∀ {t:Nat} {v:AV},lk A t=some v->lk E t=some v
 | [],E,_,t,v,h=>by cases h
 | (k,w)::r,E,h,t,v,hl=>by
  rw [qgb] at hl
  split at hl
  ·rename_i e;subst e;injection hl with hl;subst hl;exact h.1
  ·exact SUB.look h.2 hl
theorem SUB.sub {ks:List Nat} {A E:Env} (h:SUB A E) {tm:T AV} (he:ESub ks E tm):ESub ks A tm:=fun t v hl=>he t v (h.look hl)
def SS (A E:Env):Prop:=∀ t v,lk A t=some v->lk E t=some v
theorem SUB.ss {A E:Env} (h:SUB A E):SS A E:=fun t v hl=>h.look hl
theorem SS.sub {ks:List Nat} {A E:Env} (h:SS A E) {tm:T AV} (he:ESub ks E tm):ESub ks A tm:=fun t v hl=>he t v (h t v hl)
theorem SS.refl (E:Env):SS E E:=fun _ _ h=>h
def B3 {α:Type} (m:Bool) (o:Option α) (K:Bool -> α->Prop):Prop:=match o with
 | some a=>K m a
 | none=>False
def B32 {α β:Type} (m:Bool) (o:Option (α × β)) (K:Bool -> α -> β->Prop):Prop:=match o with
 | some a=>K m a.1 a.2
 | none=>False
def IF3 (m:Bool) (v:AV) (A B:Bool->Prop):Prop:=match v with
 | .bool q=>match q with
  | true=>A m
  | false=>B m
 | _=>False
def IG3 (m:Bool) (q:Bool) (A B:Bool->Prop):Prop:=match q with
 | true=>A m
 | false=>B m
def CK3 (m:Bool) (o o':Option AV) (K:Bool->Prop):Prop:=(∃ v,o=some v/\o'=some v)/\K m
def A3 (m:Bool) (e:Nat) (z:List AV) (H:AHeap) (K:Bool->AV->AHeap->Prop):Prop:=K m (.ptr H.next 0) (H.alloc (.row z e (0,0) true))
def JN {α:Type} (F:α->Prop) (K:α):Prop:=F K
def GO3 (m:Bool) (Q:Post3) (e:AExit) (E:Env) (D:List ADef) (H:AHeap):Prop:=Q e E D H
theorem B3_some {α:Type} (a:α) (K:Bool -> α->Prop):B3 true (some a) K=K true a:=propext j8
theorem B32_some {α β:Type} (a:α) (b:β) (K:Bool -> α -> β->Prop):B32 true (some (a,b)) K=K true a b:=propext j8
theorem IF3_true (A B:Bool->Prop):IF3 true (.bool true) A B=A true:=propext j8
theorem q4w (A B:Bool->Prop):IF3 true (.bool false) A B=B true:=propext j8
theorem IG3_true (A B:Bool->Prop):IG3 true true A B=A true:=propext j8
theorem q4x (A B:Bool->Prop):IG3 true false A B=B true:=propext j8
theorem qw5 (v:AV) (K:Bool->Prop):CK3 true (some v) (some v) K=K true:=propext ⟨fun h=>h.2,fun h=>⟨⟨v,rfl,rfl⟩,h⟩⟩
theorem A3_eq (e:Nat) (z:List AV) (H:AHeap) (K:Bool->AV->AHeap->Prop):A3 true e z H K=K true (.ptr H.next 0) (H.alloc (.row z e (0,0) true)):=propext j8
theorem qj {α:Type} (F:α->Prop) (K:α):JN F K=F K:=propext j8
theorem GO3_true (Q:Post3) (e:AExit) (E:Env) (D:List ADef) (H:AHeap):GO3 true Q e E D H=Q e E D H:=propext j8
@[congr] theorem B3_congr {α:Type} {m m':Bool} {o o':Option α} {K:Bool -> α->Prop} (hm:m=m') (h:o=o'):B3 m o K=B3 m' o' K:=by subst hm;subst h;rfl
@[congr] theorem B32_congr {α β:Type} {m m':Bool} {o o':Option (α × β)} {K:Bool -> α -> β->Prop} (hm:m=m') (h:o=o'):B32 m o K=B32 m' o' K:=by subst hm;subst h;rfl
@[congr] theorem IF3_congr {m m':Bool} {v v':AV} {A B:Bool->Prop} (hm:m=m') (h:v=v'):IF3 m v A B=IF3 m' v' A B:=by subst hm;subst h;rfl
@[congr] theorem IG3_congr {m m':Bool} {v v':Bool} {A B:Bool->Prop} (hm:m=m') (h:v=v'):IG3 m v A B=IG3 m' v' A B:=by subst hm;subst h;rfl
@[congr] theorem CK3_congr {m m':Bool} {o o' p p':Option AV} {K:Bool->Prop} (hm:m=m') (h:o=o') (h':p=p'):CK3 m o p K=CK3 m' o' p' K:=by subst hm;subst h;subst h';rfl
@[congr] theorem A3_congr {m m':Bool} {e:Nat} {z z':List AV} {H H':AHeap} {K:Bool->AV->AHeap->Prop} (hm:m=m') (h:z=z') (h':H=H'):A3 m e z H K=A3 m' e z' H' K:=by subst hm;subst h;subst h';rfl
theorem B3.elim {α:Type} {m:Bool} {o:Option α} {K:Bool -> α->Prop} (h:B3 m o K):∃ a,o=some a/\K m a:=by
 cases o with
 | none=>exact False.elim h
 | some a=>exact ⟨a,rfl,h⟩
theorem B32.elim {α β:Type} {m:Bool} {o:Option (α × β)} {K:Bool -> α -> β->Prop} (h:B32 m o K):∃ a b,o=some (a,b)/\K m a b:=by
 cases o with
 | none=>exact False.elim h
 | some a=>exact ⟨a.1,a.2,rfl,h⟩
theorem LK.elim {α:Type} {m:Bool} {o:Option α} {K:Bool -> α->Prop} (h:LK m o K):∃ a,o=some a/\K m a:=by
 cases o with
 | none=>exact False.elim h
 | some a=>exact ⟨a,rfl,h⟩
theorem B3.intro {α:Type} {m:Bool} {o:Option α} {K:Bool -> α->Prop} {a:α} (h:o=some a) (hk:K m a):B3 m o K:=by subst h;exact hk
theorem B32.intro {α β:Type} {m:Bool} {o:Option (α × β)} {K:Bool -> α -> β->Prop} {a:α} {b:β} (h:o=some (a,b)) (hk:K m a b):B32 m o K:=by subst h;exact hk
theorem IF3.dec {m:Bool} {p:Prop} [Decidable p] {A B:Bool->Prop} (h1:p->A m) (h2:¬ p->B m):IF3 m (.bool (decide p)) A B:=by
 by_cases h:p
 ·rw [qew h];exact h1 h
 ·rw [qe7 h];exact h2 h
theorem IF3.cases {m:Bool} {q:Bool} {A B:Bool->Prop} (h1:q=true->A m) (h2:q=false->B m):IF3 m (.bool q) A B:=by
 cases q with
 | true=>exact h1 rfl
 | false=>exact h2 rfl
theorem IG3.dec {m:Bool} {p:Prop} [Decidable p] {A B:Bool->Prop} (h1:p->A m) (h2:¬ p->B m):IG3 m (decide p) A B:=by
 by_cases h:p
 ·rw [qew h];exact h1 h
 ·rw [qe7 h];exact h2 h
theorem IG3.cases {m:Bool} {q:Bool} {A B:Bool->Prop} (h1:q=true->A m) (h2:q=false->B m):IG3 m q A B:=by
 cases q with
 | true=>exact h1 rfl
 | false=>exact h2 rfl
theorem IF3.elim {m:Bool} {v:AV} {A B:Bool->Prop} (h:IF3 m v A B):∃ q,v=.bool q/\(match q with|true=>A m|false=>B m):=by
 unfold IF3 at h
 split at h
 ·exact ⟨_,rfl,h⟩
 ·exact h.elim
section
variable (M:Mac)
structure Kp where
 keep:List Nat
 pan:Bool
 named:List Nat
def keepE (K:List Nat) (E L:Env):Env:=List.rec (motive:=fun _=>Env) E (fun p _ ih=>cond (memN p.1 K) (p::ih) ih) L
def dropE (ds:List Nat) (E:Env):Env:=List.rec (motive:=fun _=>Env) [] (fun p _ ih=>cond (memN p.1 ds) ih (p::ih)) E
def keysE (L:Env):List Nat:=List.rec (motive:=fun _=>List Nat) [] (fun p _ ih=>p.1::ih) L
abbrev KR:=Bool->Env->Env->AHeap->Prop
def TV (E L R:Env) (t:Nat) (g:Bool) (K:Bool->Env->AV->Prop):Prop :=
 Option.rec (motive:=fun _=>Prop) (Option.rec (motive:=fun _=>Prop) (LK g (lk E t) fun g v=>K g ((t,v)::R) v) (fun v=>K g R v) (lk R t)) (fun v=>K g R v) (lk L t)
def EV3 (E L:Env) (l:List AOpd):Bool->Env->(Bool->Env->List AV->Prop)->Prop:=List.rec (motive:=fun _=>Bool->Env->(Bool->Env->List AV->Prop)->Prop) (fun g R K=>K g R [])
 (fun x _ ih g R K=>AOpd.casesOn x (fun t=>TV E L R t g fun g R v=>ih g R fun g R vs=>K g R (v::vs)) (fun v=>ih g R fun g R vs=>K g R (v::vs)) (fun b=>ih g R fun g R vs=>K g R (.ptr b 0::vs)) (fun f=>ih g R fun g R vs=>K g R (.fn (.func f) [] []::vs))) l
def C3 (m:Bool) (f:AFn) (vs:List AV) (H:AHeap) (K:Bool->AV->AHeap->Prop):Prop:=∃ v H',ENTER M f vs H (.ret v) H'/\K m v H'
def P3 (m:Bool) (X:Chain->AHeap->Prop) (f:AFn) (vs:List AV) (H:AHeap) (K:Bool->AV->AHeap->Prop):Prop:=∃ e H',ENTER M f vs H e H'/\match e with
 | .ret v=>K m v H'
 | .panic c=>X c H'
@[congr] theorem C3_congr {M:Mac} {m m':Bool} {f f':AFn} {vs vs':List AV} {H H':AHeap} {K:Bool->AV->AHeap->Prop} (hm:m=m') (hf:f=f') (h:vs=vs') (h':H=H'):C3 M m f vs H K=C3 M m' f' vs' H' K:=by subst hm;subst h;subst hf;subst h';rfl
@[congr] theorem P3_congr {M:Mac} {m m':Bool} {X:Chain->AHeap->Prop} {f f':AFn} {vs vs':List AV} {H H':AHeap} {K:Bool->AV->AHeap->Prop} (hm:m=m') (hf:f=f') (h:vs=vs') (h':H=H'):P3 M m X f vs H K=P3 M m' X f' vs' H' K:=by subst hm;subst h;subst hf;subst h';rfl
def V3 (m:Bool) (vs:List AV) (K:Bool->AFn->List AV->Prop):Prop:=match vs with
 | .fn (.func g) first cap::args=>K m (.func g) (first++(args++cap))
 | .fn (.yield l) first []::args=>K m (.yield l) (first++args)
 | _=>False
@[congr] theorem V3_congr {m m':Bool} {vs vs':List AV} {K:Bool->AFn->List AV->Prop} (hm:m=m') (h:vs=vs'):V3 m vs K=V3 m' vs' K:=by subst hm;subst h;rfl
theorem V3_func (g:Nat) (first cap args:List AV) (K:Bool->AFn->List AV->Prop):V3 true (.fn (.func g) first cap::args) K=K true (.func g) (first++(args++cap)):=propext j8
theorem V3_yield (l:Nat) (first args:List AV) (K:Bool->AFn->List AV->Prop):V3 true (.fn (.yield l) first []::args) K=K true (.yield l) (first++args):=propext j8
def N3 (m:Bool) (name:String) (vs:List AV) (K:Bool->AFn->List AV->Prop):Prop:=match vs with
 | .iface t v::args=>B3 m (M.meth t name) fun m g=>K m (.func g) (v::args)
 | _=>False
@[congr] theorem N3_congr {M:Mac} {m m':Bool} {name:String} {vs vs':List AV} {K:Bool->AFn->List AV->Prop} (hm:m=m') (h:vs=vs'):N3 M m name vs K=N3 M m' name vs' K:=by subst hm;subst h;rfl
theorem N3_iface (name:String) (t:Nat) (v:AV) (args:List AV) (K:Bool->AFn->List AV->Prop):N3 M true name (.iface t v::args) K=B3 true (M.meth t name) fun m g=>K m (.func g) (v::args):=propext j8
def PX (ps:Option (List Nat)) (ks:List Nat) (Q:Post3) (E:Env) (D:List ADef) (c:Chain) (H:AHeap):Prop:=match ps with
 | some ds=>Q (.panic c) (dropE ds (dropE ks E)) D H
 | none=>False
def CP3 (pan:Bool) (ps:Option (List Nat)) (L:Env) (Q:Post3) (E:Env) (D:List ADef) (g:Bool) (f:AFn) (vs:List AV) (H:AHeap) (K:Bool->AV->AHeap->Prop):Prop :=
 cond pan (P3 M g (PX ps (keysE L) Q E D) f vs H K) (C3 M g f vs H K)
def OP3 (pan:Bool) (dst:Option Nat) (ps:Option (List Nat)) (Q:Post3) (E:Env) (D:List ADef) (L R:Env) (H:AHeap) (K:KR) (g:Bool) (vs:List AV):AOp->Prop
 | .pure f=>B3 g (f vs) fun g v=>K g (putE dst v L) R H
 | .read f=>B3 g (f vs H) fun g v=>K g (putE dst v L) R H
 | .alloc f=>B32 g (f vs) fun g o mk=>K g (putE dst (mk H.next) L) R (H.alloc o)
 | .eff f=>B32 g (f vs H) fun g v H=>K g (putE dst v L) R H
 | .callF f=>CP3 M pan ps L Q E D g (.func f) vs H (fun g v H=>K g (putE dst v L) R H)
 | .callV=>V3 g vs fun g f vs=>CP3 M pan ps L Q E D g f vs H (fun g v H=>K g (putE dst v L) R H)
 | .invoke name=>N3 M g name vs fun g f vs=>CP3 M pan ps L Q E D g f vs H (fun g v H=>K g (putE dst v L) R H)
 | .panic=>cond pan (PANICK vs H (PX ps (keysE L) Q E D)) False
 | _=>False
def LOe (L E:Env) (d:Nat):Option AV:=Option.rec (motive:=fun _=>Option AV) (lk E d) (fun v=>some v) (lk L d)
def CKS (dst:Option Nat) (E L R:Env) (H:AHeap) (K:KR) (g:Bool) (vs:List AV):AOp->Prop
 | .read f=>match dst with
  | some d=>CK3 g (f vs H) (LOe L E d) fun g=>K g L R H
  | none=>False
 | _=>False
def ST3 (pan:Bool) (s:AStep) (Q:Post3) (E:Env) (D:List ADef) (K:KR):KR:=fun g L R H =>
 EV3 E L s.args g R fun g R vs=>match s.chk with
  | false=>OP3 M pan s.dst s.psafe Q E D L R H K g vs s.op
  | true=>CKS s.dst E L R H K g vs s.op
def STS (pan:Bool) (Q:Post3) (E:Env) (D:List ADef) (K:KR) (l:List AStep):KR:=List.rec (motive:=fun _=>KR) K (fun s _ ih=>ST3 M pan s Q E D ih) l
abbrev Grp:=Option (Nat × Bool) × List AStep
def sameG:Option (Nat × Bool)->Option (Nat × Bool)->Bool
 | none,none=>true
 | some (t,b),some (u,c)=>cond (Nat.beq t u) (cond b c (!c)) false
 | _,_=>false
def grp (l:List AStep):List Grp:=List.rec (motive:=fun _=>List Grp) [] (fun s _ ih=>List.casesOn (motive:=fun _=>List Grp) ih [(s.guard,[s])] fun g r=>cond (sameG g.1 s.guard) ((g.1,s::g.2)::r) ((s.guard,[s])::g::r)) l
def isT (o:Option Nat) (t:Nat):Bool:=Option.rec (motive:=fun _=>Bool) false (fun d=>Nat.beq d t) o
def okG (t:Nat) (l:List AStep):Bool:=List.rec (motive:=fun _=>Bool) true (fun s _ ih=>cond (isT s.dst t) false (cond s.chk (cond s.dst.isSome ih false) ih)) l
def CT (n:Nat):Type:=Nat.rec (motive:=fun _=>Type) (AHeap->Prop) (fun _ T=>AV->T) n
def lamC (n:Nat):(List AV->AHeap->Prop)->CT n:=Nat.rec (motive:=fun n=>(List AV->AHeap->Prop)->CT n) (fun f=>f []) (fun _ ih f v=>ih fun l=>f (v::l)) n
def appC (n:Nat):CT n->List AV->AHeap->Prop:=Nat.rec (motive:=fun n=>CT n->List AV->AHeap->Prop) (fun k _=>k) (fun _ ih k l=>List.casesOn (motive:=fun _=>AHeap->Prop) l (fun _=>False) fun v l=>ih (k v) l) n
def keysG (l:List AStep):List Nat->List Nat:=List.rec (motive:=fun _=>List Nat->List Nat) (fun acc=>acc) (fun s _ ih acc=>ih (cond s.chk acc (Option.rec (motive:=fun _=>List Nat) acc (fun d=>d::acc) s.dst))) l
def zipK (ks:List Nat) (L:Env):List AV->Env:=List.rec (motive:=fun _=>List AV->Env) (fun _=>L) (fun k _ ih l=>List.casesOn (motive:=fun _=>Env) l L fun v l=>(k,v)::ih l) ks
def valsN (n:Nat):Env->List AV:=Nat.rec (motive:=fun _=>Env->List AV) (fun _=>[]) (fun _ ih L=>List.casesOn (motive:=fun _=>List AV) L [] fun p L=>p.2::ih L) n
def undN (n:Nat):List AV:=Nat.rec (motive:=fun _=>List AV) [] (fun _ ih=>.undef::ih) n
def GR3 (pan:Bool) (Q:Post3) (E:Env) (D:List ADef) (x:Grp) (K:KR):KR:=fun g L R H=>match x.1 with
 | none=>STS M pan Q E D K x.2 g L R H
 | some q=>cond (okG q.1 x.2) (TV E L R q.1 g fun g R v=>JN (α:=Bool->CT (lenL (keysG x.2 [])))
  (fun k=>B3 g (wantV q.2 (some v)) fun g w=>IG3 g w (fun g=>STS M pan Q E D (fun g L _ H=>appC (lenL (keysG x.2 [])) (k g) (valsN (lenL (keysG x.2 [])) L) H) x.2 g L R H) (fun g=>appC (lenL (keysG x.2 [])) (k g) (undN (lenL (keysG x.2 []))) H))
  (fun g=>lamC (lenL (keysG x.2 [])) fun vs H=>K g (zipK (keysG x.2 []) L vs) R H)) False
def GRS (pan:Bool) (Q:Post3) (E:Env) (D:List ADef) (K:KR) (l:List Grp):KR:=List.rec (motive:=fun _=>KR) K (fun x _ ih=>GR3 M pan Q E D x ih) l
def RG3 (pan:Bool) (Q:Post3) (E:Env) (D:List ADef) (l:List AStep) (g:Bool) (H:AHeap) (K:KR):Prop:=GRS M pan Q E D K (grp l) g [] [] H
abbrev WX:=Bool->Post3->Env->List ADef->AHeap->Prop
def SEQ3 (X:WX) (Q:Post3):Post3:=fun e E D H=>match e with
 | .normal=>X true Q E D H
 | e=>Q e E D H
def BLK3 (id:Nat) (Q:Post3):Post3:=fun e E D H=>match e with
 | .exit id'=>Q (cond (Nat.beq id id') .normal (.exit id')) E D H
 | e=>Q e E D H
def SCP3 (b:ACode) (Q:Post3):Post3:=fun e E D H=>match e with
 | .goto l=>qhy b l=false/\Q (.goto l) E D H
 | e=>Q e E D H
abbrev Inv3:=Nat->Env->List ADef->AHeap->Prop
def LP3 (I:Inv3) (n:Nat) (Q:Post3):Post3:=fun e E D H=>match e with
 | .normal=>∃ m E',I m E' D H/\SS E' E/\m<n
 | e=>Q e E D H
def LOOP3 (X:WX) (Q:Post3) (E:Env) (D:List ADef) (H:AHeap):Prop :=
 ∃ I:Inv3,(∃ n E0,I n E0 D H/\SS E0 E) /\ ∀ n E D H,I n E D H->X true (LP3 I n Q) E D H
def RNG3 (ks:List Nat) (ctx:Ctx) (k:Nat) (E:Env) (D:List ADef) (H:AHeap) (Q:Post3) (v:AV):Prop :=
 ∀ tm up,ESub ks E tm->RNG M ctx k ⟨tm,D,up,H⟩ (fun e st=>st.up=up/\st.tm=tm/\Q e E st.dfs st.H) v
def OV (E:Env) (x:AOpd) (g:Bool) (K:Bool->AV->Prop):Prop:=match x with
 | .tmp t=>LK g (lk E t) K
 | .const v=>K g v
 | .glob b=>K g (.ptr b 0)
 | .func f=>K g (.fn (.func f) [] [])
def CV (E L R:Env) (x:AOpd) (g:Bool) (K:Bool->AV->Prop):Prop:=match x with
 | .tmp t=>TV E L R t g fun g _ v=>K g v
 | .const v=>K g v
 | .glob b=>K g (.ptr b 0)
 | .func f=>K g (.fn (.func f) [] [])
def W3 (ctx:Ctx) (K:Kp):ACode->Bool->Post3->Env->List ADef->AHeap->Prop
 | .skip,g,Q,E,D,H=>GO3 g Q .normal E D H
 | .label _,g,Q,E,D,H=>GO3 g Q .normal E D H
 | .exit id,g,Q,E,D,H=>GO3 g Q (.exit id) E D H
 | .goto l,g,Q,E,D,H=>GO3 g Q (.goto l) E D H
 | .ret,g,Q,E,D,H=>GO3 g Q .ret E D H
 | .stuck,_,_,_,_,_=>False
 | .region l,g,Q,E,D,H=>RG3 M K.pan Q E D l g H fun g L _ H=>GO3 g Q .normal (keepE K.keep E L) D H
 | .seq a b,g,Q,E,D,H=>match a,b with
  | .region l,.cond c x y=>RG3 M K.pan Q E D l g H fun g L R H=>CV E L R c g fun g v=>IF3 g v (fun g=>W3 ctx K x g Q (keepE K.keep E L) D H) (fun g=>W3 ctx K y g Q (keepE K.keep E L) D H)
  | .region l,.seq (.cond c x y) r=>RG3 M K.pan Q E D l g H fun g L R H=>CV E L R c g fun g v=>IF3 g v (fun g=>W3 ctx K x g (SEQ3 (W3 ctx K r) Q) (keepE K.keep E L) D H) (fun g=>W3 ctx K y g (SEQ3 (W3 ctx K r) Q) (keepE K.keep E L) D H)
  | .region l,b=>RG3 M K.pan Q E D l g H fun g L _ H=>W3 ctx K b g Q (keepE K.keep E L) D H
  | a,b=>W3 ctx K a g (SEQ3 (W3 ctx K b) Q) E D H
 | .cond c x y,g,Q,E,D,H=>OV E c g fun g v=>IF3 g v (fun g=>W3 ctx K x g Q E D H) (fun g=>W3 ctx K y g Q E D H)
 | .block id b,g,Q,E,D,H=>W3 ctx K b g (BLK3 id Q) E D H
 | .scope b,g,Q,E,D,H=>W3 ctx K b g (SCP3 b Q) E D H
 | .loop (some _) _,_,_,_,_,_=>False
 | .loop none b,g,Q,E,D,H=>LOOP3 (W3 ctx K b) Q E D H
 | .rangeFunc f k,g,Q,E,D,H=>OV E f g fun g v=>RNG3 M K.keep ctx k E D H Q v
end
structure REL (E L R:Env) (tm:T AV):Prop where
 l:∀ t v,lk L t=some v->tm.get t=some v
 r:∀ t v,lk L t=none->lk R t=some v->tm.get t=some v
 e:∀ t v,lk L t=none->lk E t=some v->tm.get t=some v
theorem REL.first {ks:List Nat} {E:Env} {tm:T AV} (h:ESub ks E tm):REL E [] [] tm:=⟨fun _ _ h=>(by cases h),fun _ _ _ h=>(by cases h),fun t v _ hv=>(h t v hv).1⟩
theorem REL.put {E L R:Env} {tm:T AV} (h:REL E L R tm) (dst:Option Nat) (v:AV):REL E (putE dst v L) R (putD dst v tm):=by
 cases dst with
 | none=>exact h
 | some d =>
  show REL E ((d,v)::L) R (tm.set d v)
  refine ⟨fun t w hw=>?_,fun t w hn hw=>?_,fun t w hn hw=>?_⟩
  ·rw [qgb] at hw;rw [T.get_set]
   split at hw
   ·rename_i e;rw [xc e];exact hw
   ·rename_i e;rw [qo e];exact h.l t w hw
  ·rw [qgb] at hn;rw [T.get_set]
   split at hn
   ·cases hn
   ·rename_i e;rw [qo e];exact h.r t w hn hw
  ·rw [qgb] at hn;rw [T.get_set]
   split at hn
   ·cases hn
   ·rename_i e;rw [qo e];exact h.e t w hn hw
theorem TV.elim {E L R:Env} {t:Nat} {g:Bool} {K:Bool->Env->AV->Prop} {tm:T AV} (hr:REL E L R tm) (h:TV E L R t g K):∃ v R',tm.get t=some v/\REL E L R' tm/\K g R' v:=by
 unfold TV at h
 cases hl:lk L t with
 | some v=>rw [hl] at h;exact ⟨v,R,hr.l t v hl,hr,h⟩
 | none =>
  rw [hl] at h
  cases hq:lk R t with
  | some v=>rw [hq] at h;exact ⟨v,R,hr.r t v hl hq,hr,h⟩
  | none =>
   rw [hq] at h
   obtain ⟨v,hv,h⟩:=LK.elim h
   refine ⟨v,_,hr.e t v hl hv,⟨hr.l,fun u w hn hw=>?_,hr.e⟩,h⟩
   rw [qgb] at hw
   split at hw
   ·rename_i e;subst e;injection hw with hw;subst hw;exact hr.e t v hl hv
   ·exact hr.r u w hn hw
theorem qkb {tm:T AV}:∀ {l:List AOpd} {vs:List AV} {K:List AV->Prop},evL tm l=some vs->K vs->EVL tm l K
 | [],vs,K,h,hk=>by injection h with h;subst h;exact hk
 | x::xs,vs,K,h,hk=>by
  simp only [evL,qa] at h
  obtain ⟨v,h1,ws,h2,h3⟩:=h
  injection h3 with h3;subst h3
  cases x with
  | tmp t=>exact BIND.intro (m:=dirty) h1 (qkb h2 hk)
  | const c=>injection h1 with h1;subst h1;exact qkb (K:=fun vs=>K (c::vs)) h2 hk
  | glob c=>injection h1 with h1;subst h1;exact qkb (K:=fun vs=>K (_::vs)) h2 hk
  | func c=>injection h1 with h1;subst h1;exact qkb (K:=fun vs=>K (_::vs)) h2 hk
theorem EV3.elim {E L:Env} {tm:T AV} {g:Bool}:∀ {l:List AOpd} {R:Env} {K:Bool->Env->List AV->Prop},REL E L R tm->EV3 E L l g R K -> ∃ vs R',evL tm l=some vs/\REL E L R' tm/\K g R' vs
 | [],R,K,hr,h=>⟨[],R,rfl,hr,h⟩
 | .tmp t::xs,R,K,hr,h=>by
  obtain ⟨v,R1,h1,hr1,h⟩:=TV.elim hr (show TV E L R t g (fun g R v=>EV3 E L xs g R fun g R vs=>K g R (v::vs)) from h)
  obtain ⟨vs,R2,h2,hr2,h⟩:=EV3.elim hr1 h
  exact ⟨v::vs,R2,by simp [evL,evO,h1,h2],hr2,h⟩
 | .const v::xs,R,K,hr,h=>by
  obtain ⟨vs,R2,h2,hr2,h⟩:=EV3.elim (l:=xs) hr h
  exact ⟨v::vs,R2,by simp [evL,evO,h2],hr2,h⟩
 | .glob v::xs,R,K,hr,h=>by
  obtain ⟨vs,R2,h2,hr2,h⟩:=EV3.elim (l:=xs) hr h
  exact ⟨_,R2,by simp [evL,evO,h2],hr2,h⟩
 | .func v::xs,R,K,hr,h=>by
  obtain ⟨vs,R2,h2,hr2,h⟩:=EV3.elim (l:=xs) hr h
  exact ⟨_,R2,by simp [evL,evO,h2],hr2,h⟩
theorem qst (ds:List Nat):∀ (E:Env) (t:Nat),lk (dropE ds E) t=if memN t ds then none else lk E t
 | [],t=>by simp [dropE,lk_nil]
 | (k,v)::r,t=>by
  show lk (cond (memN k ds) (dropE ds r) ((k,v)::dropE ds r)) t=_
  cases hm:memN k ds with
  | true =>
   rw [qz,qst ds r,qgb]
   by_cases e:k=t
   ·subst e;rw [hm];rfl
   ·rw [qo e]
  | false =>
   rw [xy,qgb,qst ds r,qgb]
   by_cases e:k=t
   ·subst e;rw [hm];simp
   ·rw [qo e,qo e]
theorem qzu:∀ (L:Env) (t:Nat),memN t (keysE L)=false->lk L t=none
 | [],t,_=>rfl
 | (k,v)::r,t,h=>by
  have h:cond (Nat.beq k t) true (memN t (keysE r))=false:=h
  rw [qgb]
  cases hb:Nat.beq k t with
  | true=>rw [hb] at h;cases h
  | false=>rw [hb,xy] at h;rw [qo (qdh hb)];exact qzu r t h
theorem q2t {t:Nat}:∀ {l:List Nat},t ∈ l->memN t l=true
 | x::r,h=>by
  show cond (Nat.beq x t) true (memN t r)=true
  cases hb:Nat.beq x t with
  | true=>rfl
  | false =>
   rw [xy]
   rcases zp.1 h with e|h
   ·exact (qdh hb e.symm).elim
   ·exact q2t h
theorem qtk:∀ (ds:List Nat) (tm:T AV) (t:Nat),t ∉ ds->(forget ds tm).get t=tm.get t
 | [],tm,t,_=>rfl
 | d::ds,tm,t,h=>by
  show (forget ds (tm.put d none)).get t=_
  rw [qtk ds _ t (fun q=>h (ww _ q)),T.get_put,qo (fun e=>h (by rw [e];exact qcf ..))]
def QQ (ks:List Nat) (Q:Post3) (up:Option Chain):Post:=fun e st=>st.up=up /\ ∃ E',ESub ks E' st.tm/\Q e E' st.dfs st.H
section
variable {M:Mac} {ctx:Ctx} {pan:Bool} {Q:Post3} {E:Env} {D:List ADef} {up:Option Chain}
theorem PX.toPan {Z:Post} (hp:∀ c tm H E',(∀ t v,lk E' t=some v->tm.get t=some v/\lk E t=some v)->Q (.panic c) E' D H->Z (.panic c) ⟨tm,D,up,H⟩) {ps:Option (List Nat)} {L R:Env} {tm:T AV} (hr:REL E L R tm) {c:Chain} {H:AHeap} (h:PX ps (keysE L) Q E D c H):PAN ps tm D up Z c H:=by
 cases ps with
 | none=>exact h
 | some ds =>
  refine hp _ _ _ _ (fun t v hv=>?_) h
  rw [qst,qst] at hv
  split at hv
  ·cases hv
  ·rename_i h1
   split at hv
   ·cases hv
   ·rename_i h2
    rw [qtk ds tm t (fun q=>h1 (q2t q))]
    exact ⟨hr.e t v (qzu L t (by simpa using h2)) hv,hv⟩
theorem CP3.callk {Z:Post} (hp:∀ c tm H E',(∀ t v,lk E' t=some v->tm.get t=some v/\lk E t=some v)->Q (.panic c) E' D H->Z (.panic c) ⟨tm,D,up,H⟩) {ps:Option (List Nat)} {L R:Env} {tm:T AV} (hr:REL E L R tm) {g:Bool} {f:AFn} {vs:List AV} {H:AHeap} {K:Bool->AV->AHeap->Prop} {K':AV->AHeap->Prop}
 (h:CP3 M pan ps L Q E D g f vs H K) (hk:∀ v H,K g v H->K' v H):CALLK M dirty f vs H K' (PAN ps tm D up Z):=by
 cases pan with
 | false =>
  obtain ⟨v,H',h1,h2⟩:=(show C3 M g f vs H K from h)
  exact ⟨_,H',h1,hk _ _ h2⟩
 | true =>
  obtain ⟨e,H',h1,h2⟩:=(show P3 M g (PX ps (keysE L) Q E D) f vs H K from h)
  refine ⟨_,H',h1,?_⟩
  cases e with
  | ret v=>exact hk _ _ h2
  | panic c=>exact PX.toPan hp hr h2
theorem ST3.body {Z:Post} (hp:∀ c tm H E',(∀ t v,lk E' t=some v->tm.get t=some v/\lk E t=some v)->Q (.panic c) E' D H->Z (.panic c) ⟨tm,D,up,H⟩) {s:AStep} {K:KR} {g:Bool} {L R R0:Env} {tm:T AV} {H:AHeap} (hr:REL E L R tm) (hr0:REL E L R0 tm) (h:ST3 M pan s Q E D K g L R H) {KK:St->Prop}
 (hK:∀ L' R' tm' H',(s.chk=true/\L'=L/\tm'=tm \/ ∃ v,s.chk=false/\L'=putE s.dst v L/\tm'=putD s.dst v tm)->REL E L' R' tm'->REL E L' R0 tm'->K g L' R' H'->KK ⟨tm',D,up,H'⟩) :
 match s.chk with
 | false=>EVL tm s.args fun vs=>OPK M ctx s.dst s.psafe ⟨tm,D,up,H⟩ Z KK vs s.op
 | true=>EVL tm s.args fun vs=>CHK s.dst ⟨tm,D,up,H⟩ vs s.op/\KK ⟨tm,D,up,H⟩:=by
 obtain ⟨chk,dst,guard,args,op,ps⟩:=s
 obtain ⟨vs,R1,h1,hr1,h⟩:=EV3.elim hr h
 cases chk with
 | true =>
  refine qkb h1 ?_
  have h:CKS dst E L R1 H K g vs op:=h
  cases op with
  | read f =>
   cases dst with
   | none=>exact h.elim
   | some d =>
    have h:CK3 g (f vs H) (LOe L E d) (fun g=>K g L R1 H):=h
    obtain ⟨⟨v,e1,e2⟩,h⟩:=h
    refine ⟨?_,hK L R1 tm H (.inl ⟨rfl,rfl,rfl⟩) hr1 hr0 h⟩
    refine BIND.intro (m:=dirty) e1 (BIND.intro (m:=dirty) (a:=v) ?_ rfl)
    unfold LOe at e2
    cases hl:lk L d with
    | some w=>rw [hl] at e2;injection e2 with e2;subst e2;exact hr.l d w hl
    | none=>rw [hl] at e2;exact hr.e d v hl e2
  | _=>exact h.elim
 | false =>
  have put:∀ v H',K g (putE dst v L) R1 H'->KK ⟨putD dst v tm,D,up,H'⟩:=fun v H' hk=>hK _ R1 _ H' (.inr ⟨v,rfl,rfl,rfl⟩) (hr1.put dst v) (hr0.put dst v) hk
  refine qkb h1 ?_
  have h:OP3 M pan dst ps Q E D L R1 H K g vs op:=h
  cases op with
  | pure f=>simp only [OP3] at h;obtain ⟨v,e,h⟩:=B3.elim h;exact BIND.intro (m:=dirty) e (put _ _ h)
  | read f=>simp only [OP3] at h;obtain ⟨v,e,h⟩:=B3.elim h;exact BIND.intro (m:=dirty) e (put _ _ h)
  | alloc f=>simp only [OP3] at h;simp only [OPK];obtain ⟨o,mk,e,h⟩:=B32.elim h;exact BIND2.intro (m:=dirty) e (put _ _ h)
  | eff f=>simp only [OP3] at h;simp only [OPK];obtain ⟨v,H',e,h⟩:=B32.elim h;exact BIND2.intro (m:=dirty) e (put _ _ h)
  | callF f=>exact CP3.callk hp hr1 h fun v H' hk=>put v H' hk
  | callV =>
   simp only [OP3,V3] at h
   simp only [OPK,VIA]
   split at h
   ·exact CP3.callk hp hr1 h fun v H' hk=>put v H' hk
   ·exact CP3.callk hp hr1 h fun v H' hk=>put v H' hk
   ·exact h.elim
  | invoke n =>
   simp only [OP3,N3] at h
   simp only [OPK,INV]
   split at h
   ·obtain ⟨f,e,h⟩:=B3.elim h
    exact BIND.intro (m:=dirty) e (CP3.callk hp hr1 h fun v H' hk=>put v H' hk)
   ·exact h.elim
  | recover=>exact False.elim h
  | defer=>exact False.elim h
  | panic =>
   cases pan with
   | false=>exact False.elim h
   | true =>
    have h:PANICK vs H (PX ps (keysE L) Q E D):=h
    show PANICK vs H (PAN ps tm D up Z)
    unfold PANICK at h ⊢
    split at h
    ·exact PX.toPan hp hr1 h
    ·exact h.elim
def qkj (g:Option (Nat × Bool)) (l:List AStep):Prop:=∀ s ∈ l,s.guard=g
theorem STS.free {Z:Post} (hp:∀ c tm H E',(∀ t v,lk E' t=some v->tm.get t=some v/\lk E t=some v)->Q (.panic c) E' D H->Z (.panic c) ⟨tm,D,up,H⟩) {K:KR} {g:Bool} {R0:Env} {rest:List AStep} (hK:∀ L R tm H,REL E L R tm->REL E L R0 tm->K g L R H->WPS M ctx rest ⟨tm,D,up,H⟩ Z) :
 ∀ {l:List AStep} {L R:Env} {tm:T AV} {H:AHeap},qkj none l->REL E L R tm->REL E L R0 tm->STS M pan Q E D K l g L R H->WPS M ctx (l++rest) ⟨tm,D,up,H⟩ Z
 | [],L,R,tm,H,_,hr,hr0,h=>hK _ _ _ _ hr hr0 h
 | s::l,L,R,tm,H,hg,hr,hr0,h=>by
  rw [qci,qw8]
  have hs:s.guard=none:=hg s (qcf ..)
  have:=ST3.body hp (ctx:=ctx) (up:=up) (KK:=fun st'=>WPS M ctx (l++rest) st' Z) hr hr0 (show ST3 M pan s Q E D (STS M pan Q E D K l) g L R H from h)
   fun L' R' tm' H' _ q1 q2 q3=>STS.free hp hK (fun x hx=>hg x (ww _ hx)) q1 q2 q3
  obtain ⟨chk,dst,guard,args,op,ps⟩:=s
  subst hs
  cases chk<;>exact this
theorem q0y:∀ (n:Nat) (f:List AV->AHeap->Prop) (l:List AV) (H:AHeap),l.length=n->appC n (lamC n f) l H=f l H
 | 0,f,[],H,_=>rfl
 | n+1,f,v::l,H,h=>q0y n (fun l=>f (v::l)) l H (by simpa using h)
 | 0,f,_::_,H,h=>by cases h
 | n+1,f,[],H,h=>by cases h
theorem lenL_len {α:Type} (l:List α):lenL l=l.length:=by
 induction l with
 | nil=>rfl
 | cons x l ih=>show lenL l+1=_;rw [ih];rfl
theorem q3a:∀ (ks:List Nat) (L:Env) (vs:List AV),vs.length=ks.length->valsN ks.length (zipK ks L vs)=vs
 | [],L,[],_=>rfl
 | k::ks,L,v::vs,h=>by
  show v::valsN ks.length (zipK ks L vs)=_
  rw [q3a ks L vs (by simpa using h)]
 | [],L,_::_,h=>by cases h
 | _::_,L,[],h=>by cases h
theorem q6t:∀ n,(undN n).length=n
 | 0=>rfl
 | n+1=>by show (undN n).length+1=_;rw [q6t n]
theorem STS.under {Z:Post} (hp:∀ c tm H E',(∀ t v,lk E' t=some v->tm.get t=some v/\lk E t=some v)->Q (.panic c) E' D H->Z (.panic c) ⟨tm,D,up,H⟩) {K:KR} {g:Bool} {R0:Env} {rest:List AStep} {t:Nat} {b:Bool} {v:AV} (hw:wantV b (some v)=some true) {kf:List Nat} {L0:Env} (hK:∀ vs R tm H,vs.length=kf.length->REL E (zipK kf L0 vs) R tm->REL E (zipK kf L0 vs) R0 tm->K g (zipK kf L0 vs) R H->WPS M ctx rest ⟨tm,D,up,H⟩ Z) :
 ∀ {l:List AStep} {acc:List Nat} {us:List AV} {L R:Env} {tm:T AV} {H:AHeap},keysG l acc=kf->us.length=acc.length->L=zipK acc L0 us->qkj (some (t,b)) l->okG t l=true->tm.get t=some v->REL E L R tm->REL E L R0 tm->STS M pan Q E D K l g L R H->WPS M ctx (l++rest) ⟨tm,D,up,H⟩ Z
 | [],acc,us,L,R,tm,H,e1,e2,e3,_,_,_,hr,hr0,h=>by
  have e1:acc=kf:=e1
  subst e1;subst e3
  exact hK _ _ _ _ e2 hr hr0 h
 | s::l,acc,us,L,R,tm,H,e1,e2,e3,hg,ho,ht,hr,hr0,h=>by
  rw [qci,qw8]
  have hs:s.guard=some (t,b):=hg s (qcf ..)
  have ho:cond (isT s.dst t) false (cond s.chk (cond s.dst.isSome (okG t l) false) (okG t l))=true:=ho
  have hd:isT s.dst t=false:=by cases q:isT s.dst t with
   | true=>rw [q] at ho;cases ho
   | false=>rfl
  rw [hd,xy] at ho
  have ho':okG t l=true:=by
   cases hc:s.chk with
   | false=>rw [hc] at ho;exact ho
   | true=>rw [hc] at ho;cases hd:s.dst.isSome with
    | true=>rw [hd] at ho;exact ho
    | false=>rw [hd] at ho;cases ho
  have:=ST3.body hp (ctx:=ctx) (up:=up) (KK:=fun st'=>WPS M ctx (l++rest) st' Z) hr hr0 (show ST3 M pan s Q E D (STS M pan Q E D K l) g L R H from h)
   fun L' R' tm' H' hq q1 q2 q3=>by
    have e1:keysG l (cond s.chk acc (Option.rec (motive:=fun _=>List Nat) acc (fun d=>d::acc) s.dst))=kf:=e1
    obtain ⟨us',e2',e3'⟩:∃ us',us'.length=(cond s.chk acc (Option.rec (motive:=fun _=>List Nat) acc (fun d=>d::acc) s.dst)).length/\L'=zipK (cond s.chk acc (Option.rec (motive:=fun _=>List Nat) acc (fun d=>d::acc) s.dst)) L0 us':=by
     rcases hq with ⟨hc,rfl,_⟩|⟨w,hc,rfl,_⟩
     ·rw [hc];exact ⟨us,e2,e3⟩
     ·rw [hc]
      cases s.dst with
      | none=>exact ⟨us,e2,e3⟩
      | some d=>exact ⟨w::us,by simpa using e2,by rw [e3];rfl⟩
    exact STS.under hp hw hK e1 e2' e3' (fun x hx=>hg x (ww _ hx)) ho' (by
     rcases hq with ⟨_,_,rfl⟩|⟨w,_,_,rfl⟩
     ·exact ht
     ·cases hdd:s.dst with
      | none=>exact ht
      | some d =>
       rw [hdd] at hd
       show (tm.set d w).get t=_
       rw [T.get_set,qo (qdh hd)];exact ht) q1 q2 q3
  obtain ⟨chk,dst,guard,args,op,ps⟩:=s
  subst hs
  have e:wantV b (tm.get t)=some true:=by rw [ht];exact hw
  cases chk with
  | false=>exact BIND.intro (m:=dirty) e this
  | true=>exact BIND.intro (m:=dirty) e this
theorem STS.over {Z:Post} {R0:Env} {rest:List AStep} {t:Nat} {b:Bool} {v:AV} (hw:wantV b (some v)=some false) {kf:List Nat} {L0:Env} {H:AHeap} (hK:∀ tm,REL E (zipK kf L0 (undN kf.length)) R0 tm->WPS M ctx rest ⟨tm,D,up,H⟩ Z) :
 ∀ {l:List AStep} {acc:List Nat} {tm:T AV},keysG l acc=kf->qkj (some (t,b)) l->okG t l=true->tm.get t=some v->REL E (zipK acc L0 (undN acc.length)) R0 tm->WPS M ctx (l++rest) ⟨tm,D,up,H⟩ Z
 | [],acc,tm,e1,_,_,_,hr0=>by
  have e1:acc=kf:=e1
  subst e1;exact hK _ hr0
 | s::l,acc,tm,e1,hg,ho,ht,hr0=>by
  rw [qci,qw8]
  have hs:s.guard=some (t,b):=hg s (qcf ..)
  have ho:cond (isT s.dst t) false (cond s.chk (cond s.dst.isSome (okG t l) false) (okG t l))=true:=ho
  have hd:isT s.dst t=false:=by cases q:isT s.dst t with
   | true=>rw [q] at ho;cases ho
   | false=>rfl
  rw [hd,xy] at ho
  have e:wantV b (tm.get t)=some false:=by rw [ht];exact hw
  have hg':qkj (some (t,b)) l:=fun x hx=>hg x (ww _ hx)
  have e1:keysG l (cond s.chk acc (Option.rec (motive:=fun _=>List Nat) acc (fun d=>d::acc) s.dst))=kf:=e1
  cases hc:s.chk with
  | true =>
   rw [hc] at ho e1
   cases hds:s.dst.isSome with
   | false=>rw [hds] at ho;cases ho
   | true =>
    rw [hds] at ho
    have:=STS.over hw hK e1 hg' ho ht hr0
    obtain ⟨chk,dst,guard,args,op,ps⟩:=s
    subst hs;subst hc
    exact BIND.intro (m:=dirty) e ⟨hds,this⟩
  | false =>
   rw [hc] at ho e1
   have:=STS.over hw hK (tm:=putD s.dst .undef tm) e1 hg' ho (by
    cases hdd:s.dst with
     | none=>exact ht
     | some d =>
      rw [hdd] at hd
      show (tm.set d _).get t=_
      rw [T.get_set,qo (qdh hd)];exact ht) (by
    have:=hr0.put s.dst .undef
    cases hdd:s.dst with
     | none=>rw [hdd] at this;exact this
     | some d=>rw [hdd] at this;exact this)
   obtain ⟨chk,dst,guard,args,op,ps⟩:=s
   subst hs;subst hc
   exact BIND.intro (m:=dirty) e this
theorem sameG_eq {a b:Option (Nat × Bool)} (h:sameG a b=true):a=b:=by
 cases a with
 | none=>cases b with
  | none=>rfl
  | some _=>cases h
 | some p=>cases b with
  | none=>cases h
  | some q =>
   obtain ⟨t,x⟩:=p;obtain ⟨u,y⟩:=q
   have h:cond (Nat.beq t u) (cond x y (!y)) false=true:=h
   cases hb:Nat.beq t u with
   | false=>rw [hb] at h;cases h
   | true =>
    rw [hb] at h
    rw [Nat.eq_of_beq_eq_true hb]
    cases x<;>cases y<;>first|rfl|cases h
theorem grp_ok:∀ (l:List AStep),(grp l).flatMap (·.2)=l /\ ∀ x ∈ grp l,qkj x.1 x.2
 | []=>⟨rfl,fun x hx=>by cases hx⟩
 | s::l=>by
  obtain ⟨h1,h2⟩:=grp_ok l
  have e:grp (s::l)=List.casesOn (motive:=fun _=>List Grp) (grp l) [(s.guard,[s])] fun g r=>cond (sameG g.1 s.guard) ((g.1,s::g.2)::r) ((s.guard,[s])::g::r):=rfl
  rw [e]
  cases hg:grp l with
  | nil =>
   rw [hg] at h1
   exact ⟨by simpa using h1,fun x hx=>by simp at hx;subst hx;intro y hy;simp at hy;subst hy;rfl⟩
  | cons g r =>
   rw [hg] at h1 h2
   show (cond (sameG g.1 s.guard) ((g.1,s::g.2)::r) ((s.guard,[s])::g::r)).flatMap _=_ /\ ∀ x ∈ cond (sameG g.1 s.guard) ((g.1,s::g.2)::r) ((s.guard,[s])::g::r),_
   cases hs:sameG g.1 s.guard with
   | true =>
    refine ⟨by simpa using h1,fun x hx=>?_⟩
    rcases zp.1 hx with rfl|hx
    ·intro y hy
     rcases zp.1 hy with rfl|hy
     ·exact (sameG_eq hs).symm
     ·exact h2 g (qcf ..) y hy
    ·exact h2 x (ww _ hx)
   | false =>
    refine ⟨by simpa using h1,fun x hx=>?_⟩
    rcases zp.1 hx with rfl|hx
    ·intro y hy;simp at hy;subst hy;rfl
    ·exact h2 x hx
theorem GRS.wps {Z:Post} (hp:∀ c tm H E',(∀ t v,lk E' t=some v->tm.get t=some v/\lk E t=some v)->Q (.panic c) E' D H->Z (.panic c) ⟨tm,D,up,H⟩) {K:KR} {g:Bool} (hK:∀ L R tm H,REL E L R tm->K g L R H->Z .normal ⟨tm,D,up,H⟩):∀ {gs:List Grp} {L R:Env} {tm:T AV} {H:AHeap},(∀ x ∈ gs,qkj x.1 x.2)->REL E L R tm->GRS M pan Q E D K gs g L R H ->
 WPS M ctx (gs.flatMap (·.2)) ⟨tm,D,up,H⟩ Z
 | [],L,R,tm,H,_,hr,h=>hK _ _ _ _ hr h
 | x::gs,L,R,tm,H,hg,hr,h=>by
  rw [j4]
  have ih:∀ L R tm H,REL E L R tm->GRS M pan Q E D K gs g L R H->WPS M ctx (gs.flatMap (·.2)) ⟨tm,D,up,H⟩ Z:=fun L R tm H hr h=>GRS.wps hp hK (fun x hx=>hg x (ww _ hx)) hr h
  have hx:=hg x (qcf ..)
  obtain ⟨q,l⟩:=x
  cases q with
  | none=>exact STS.free hp (R0:=R) (fun L R tm H q1 _ q2=>ih L R tm H q1 q2) hx hr hr (show STS M pan Q E D (GRS M pan Q E D K gs) l g L R H from h)
  | some q =>
   obtain ⟨t,b⟩:=q
   cases ho:okG t l with
   | false =>
    have h:cond (okG t l) _ False:=h
    rw [ho] at h;exact h.elim
   | true =>
    have h:cond (okG t l) _ False:=h
    rw [ho,qz] at h
    obtain ⟨v,R1,ht,hr1,h⟩:=TV.elim hr h
    have kl:lenL (keysG l [])=(keysG l []).length:=lenL_len _
    have h:B3 g (wantV b (some v)) fun g w=>IG3 g w (fun g=>STS M pan Q E D (fun g L' _ H=>appC (lenL (keysG l [])) (lamC (lenL (keysG l [])) fun vs H=>GRS M pan Q E D K gs g (zipK (keysG l []) L vs) R1 H) (valsN (lenL (keysG l [])) L') H) l g L R1 H)
     (fun g=>appC (lenL (keysG l [])) (lamC (lenL (keysG l [])) fun vs H=>GRS M pan Q E D K gs g (zipK (keysG l []) L vs) R1 H) (undN (lenL (keysG l []))) H):=h
    obtain ⟨w,hw,h⟩:=B3.elim h
    cases w with
    | true =>
     refine STS.under hp (R0:=R1) hw (kf:=keysG l []) (L0:=L) (fun vs R tm H q q1 q0 q2=>?_) (acc:=[]) (us:=[]) rfl rfl rfl hx ho ht hr1 hr1 h
     rw [kl,q3a _ _ _ q,q0y _ _ _ _ q] at q2
     exact ih _ R1 tm H q0 q2
    | false =>
     have h:appC (lenL (keysG l [])) (lamC (lenL (keysG l [])) fun vs H=>GRS M pan Q E D K gs g (zipK (keysG l []) L vs) R1 H) (undN (lenL (keysG l []))) H:=h
     rw [kl,q0y _ _ _ _ (q6t _)] at h
     exact STS.over hw (kf:=keysG l []) (L0:=L) (fun tm hq=>ih _ R1 tm H hq h) (acc:=[]) rfl hx ho ht hr1
theorem RG3.wps {Z:Post} (hp:∀ c tm H E',(∀ t v,lk E' t=some v->tm.get t=some v/\lk E t=some v)->Q (.panic c) E' D H->Z (.panic c) ⟨tm,D,up,H⟩) {l:List AStep} {g:Bool} {H:AHeap} {K:KR} {tm:T AV} {ks:List Nat} (he:ESub ks E tm) (h:RG3 M pan Q E D l g H K) (hK:∀ L R tm H,REL E L R tm->K g L R H->Z .normal ⟨tm,D,up,H⟩):WPS M ctx l ⟨tm,D,up,H⟩ Z:=by
 obtain ⟨h1,h2⟩:=grp_ok l
 have:=GRS.wps hp (ctx:=ctx) hK h2 (REL.first he) h
 rwa [h1] at this
end
end
end Go.Am
namespace Go.Am
noncomputable section
variable {M:Mac} {ctx:Ctx} {K:Kp}
theorem qxv (ks:List Nat) (E:Env):∀ (L:Env) (t:Nat) (v:AV),memN t ks=true->lk (keepE ks E L) t=some v->lk L t=some v\/lk L t=none/\lk E t=some v
 | [],t,v,_,h=>.inr ⟨rfl,h⟩
 | (k,w)::r,t,v,ht,h=>by
  have h:lk (cond (memN k ks) ((k,w)::keepE ks E r) (keepE ks E r)) t=some v:=h
  rw [qgb]
  cases hm:memN k ks with
  | true =>
   rw [hm,qz,qgb] at h
   split at h
   ·rename_i e;rw [xc e];exact .inl h
   ·rename_i e
    rw [qo e];exact qxv ks E r t v ht h
  | false =>
   rw [hm,xy] at h
   by_cases e:k=t
   ·subst e;rw [hm] at ht;cases ht
   ·rw [qo e];exact qxv ks E r t v ht h
theorem qp7 (ks:List Nat) (E:Env) (hE:∀ t v,lk E t=some v->memN t ks=true):∀ (L:Env) (t:Nat) (v:AV),lk (keepE ks E L) t=some v->memN t ks=true
 | [],t,v,h=>hE t v h
 | (k,w)::r,t,v,h=>by
  have h:lk (cond (memN k ks) ((k,w)::keepE ks E r) (keepE ks E r)) t=some v:=h
  cases hm:memN k ks with
  | true =>
   rw [hm,qz,qgb] at h
   split at h
   ·rename_i e;subst e;exact hm
   ·exact qp7 ks E hE r t v h
  | false=>rw [hm,xy] at h;exact qp7 ks E hE r t v h
theorem REL.keep {E L R:Env} {tm:T AV} (h:REL E L R tm) {ks:List Nat} (hE:∀ t v,lk E t=some v->memN t ks=true):ESub ks (keepE ks E L) tm:=fun t v hv=>by
 have hm:=qp7 ks E hE L t v hv
 refine ⟨?_,hm⟩
 rcases qxv ks E L t v hm hv with q|⟨q1,q2⟩
 ·exact h.l t v q
 ·exact h.e t v q1 q2
theorem ESub.keys {ks:List Nat} {E:Env} {tm:T AV} (h:ESub ks E tm):∀ t v,lk E t=some v->memN t ks=true:=fun t v hv=>(h t v hv).2
theorem ESub.pan {ks:List Nat} {E E':Env} {tm tm':T AV} (h:ESub ks E tm) (h':∀ t v,lk E' t=some v->tm'.get t=some v/\lk E t=some v):ESub ks E' tm':=fun t v hv=>⟨(h' t v hv).1,(h t v (h' t v hv).2).2⟩
theorem TV.cv {E L R:Env} {x:AOpd} {g:Bool} {P:Bool->AV->Prop} {tm:T AV} (hr:REL E L R tm) (h:CV E L R x g P):∃ v,evO tm x=some v/\P g v:=by
 cases x with
 | tmp t=>obtain ⟨v,_,h1,_,h2⟩:=TV.elim hr (show TV E L R t g (fun g _ v=>P g v) from h);exact ⟨v,h1,h2⟩
 | const v=>exact ⟨v,rfl,h⟩
 | glob v=>exact ⟨_,rfl,h⟩
 | func v=>exact ⟨_,rfl,h⟩
theorem OV.elim {ks:List Nat} {E:Env} {x:AOpd} {g:Bool} {P:Bool->AV->Prop} {tm:T AV} (hr:ESub ks E tm) (h:OV E x g P):∃ v,evO tm x=some v/\P g v:=by
 cases x with
 | tmp t=>obtain ⟨v,h1,h2⟩:=LK.elim (show LK g (lk E t) P from h);exact ⟨v,(hr t v h1).1,h2⟩
 | const v=>exact ⟨v,rfl,h⟩
 | glob v=>exact ⟨_,rfl,h⟩
 | func v=>exact ⟨_,rfl,h⟩
theorem qyz {tm:T AV} {x:AOpd} {v:AV} {P:AV->Prop} (h:evO tm x=some v) (hp:P v):EVO tm x P:=by
 cases x with
 | tmp t=>exact BIND.intro (m:=dirty) h hp
 | const c=>injection h with h;subst h;exact hp
 | glob c=>injection h with h;subst h;exact hp
 | func c=>injection h with h;subst h;exact hp
theorem IF3.wp {a b:ACode} {g:Bool} {v:AV} {A B:Bool->Prop} {tm:T AV} {c:AOpd} {st:St} {Q:Post} (hv:evO st.tm c=some v) (h:IF3 g v A B) (ha:A g->WP M ctx a st Q) (hb:B g->WP M ctx b st Q):WP M ctx (.cond c a b) st Q:=by
 obtain ⟨q,rfl,h⟩:=h.elim
 refine qyz hv ?_
 cases q with
 | true=>exact ha h
 | false=>exact hb h
def csz:ACode->Nat
 | .seq a b=>csz a+csz b+1
 | .cond _ a b=>csz a+csz b+1
 | .block _ b=>csz b+1
 | .loop _ b=>csz b+1
 | .scope b=>csz b+1
 | _=>0
theorem W3.wp:∀ (n:Nat) (c:ACode),csz c<=n -> ∀ {g:Bool} {Q:Post3} {E:Env} {D:List ADef} {H:AHeap} {tm:T AV} {up:Option Chain},W3 M ctx K c g Q E D H->ESub K.keep E tm->WP M ctx c ⟨tm,D,up,H⟩ (QQ K.keep Q up):=by
 intro n
 induction n with
 | zero =>
  intro c hc g Q E D H tm up h he
  cases c with
  | skip=>exact ⟨rfl,E,he,h⟩
  | label _=>exact ⟨rfl,E,he,h⟩
  | exit _=>exact ⟨rfl,E,he,h⟩
  | goto _=>exact ⟨rfl,E,he,h⟩
  | ret=>exact ⟨rfl,E,he,h⟩
  | stuck=>exact False.elim h
  | region l=>exact RG3.wps (fun c tm' H' E' h1 h2=>⟨rfl,E',he.pan h1,h2⟩) he (show RG3 M K.pan Q E D l g H _ from h) fun L R tm H hr hk=>⟨rfl,_,hr.keep he.keys,hk⟩
  | rangeFunc f k =>
   obtain ⟨v,hv,h⟩:=OV.elim he (show OV E f g _ from h)
   exact qyz hv (by
    have:=h tm up he
    unfold RNG at this ⊢
    split
    ·rename_i hr;rw [hr] at this
     exact qio this fun e st ⟨h1,h2,h3⟩=>⟨h1,E,by rw [h2];exact he,h3⟩
    ·rename_i l hr;rw [hr] at this
     exact qf3 (m:=dirty) this fun d q=>qio q fun e st ⟨h1,h2,h3⟩=>⟨h1,E,by rw [h2];exact he,h3⟩)
  | seq _ _=>simp [csz] at hc
  | cond _ _ _=>simp [csz] at hc
  | block _ _=>simp [csz] at hc
  | loop _ _=>simp [csz] at hc
  | scope _=>simp [csz] at hc
 | succ n ih =>
  intro c hc g Q E D H tm up h he
  have seqq:∀ {a b:ACode} {tm:T AV} {H:AHeap},csz b<=n->WP M ctx a ⟨tm,D,up,H⟩ (QQ K.keep (SEQ3 (W3 M ctx K b) Q) up)->WP M ctx a ⟨tm,D,up,H⟩ (SEQ (WP M ctx b) (QQ K.keep Q up)):=fun {a b tm H} hb h=>qd9 h fun e st ⟨h1,E',h2,h3⟩=>by
   obtain ⟨tm',D',up',H'⟩:=st
   subst h1
   cases e with
   | normal=>exact ih b hb h3 h2
   | exit _=>exact ⟨rfl,E',h2,h3⟩
   | goto _=>exact ⟨rfl,E',h2,h3⟩
   | ret=>exact ⟨rfl,E',h2,h3⟩
   | panic _=>exact ⟨rfl,E',h2,h3⟩
  have cnd:∀ {c:AOpd} {x y:ACode} {E:Env} {tm:T AV} {v:AV} {g:Bool} {Q:Post3} {H:AHeap},csz x<=n->csz y<=n->evO tm c=some v->ESub K.keep E tm->IF3 g v (fun g=>W3 M ctx K x g Q E D H) (fun g=>W3 M ctx K y g Q E D H)->WP M ctx (.cond c x y) ⟨tm,D,up,H⟩ (QQ K.keep Q up) :=
   fun {c x y E tm v g Q H} hx hy hv he h=>IF3.wp (tm:=tm) (st:=⟨tm,D,up,H⟩) hv h (fun h=>ih x hx h he) (fun h=>ih y hy h he)
  cases c with
  | seq a b =>
   have hab:csz a+csz b<=n:=by simp only [csz] at hc;omega
   have gen:W3 M ctx K a g (SEQ3 (W3 M ctx K b) Q) E D H->WP M ctx (.seq a b) ⟨tm,D,up,H⟩ (QQ K.keep Q up):=fun h=>seqq (a:=a) (b:=b) (by omega) (ih a (by omega) h he)
   have reg:∀ (l:List AStep) (KF:KR),a=.region l->RG3 M K.pan Q E D l g H KF->(∀ L R tm H,REL E L R tm->KF g L R H->WP M ctx b ⟨tm,D,up,H⟩ (QQ K.keep Q up))->WP M ctx (.seq a b) ⟨tm,D,up,H⟩ (QQ K.keep Q up):=fun l KF e h' hk=>by
    subst e
    exact RG3.wps (Z:=SEQ (WP M ctx b) (QQ K.keep Q up)) (fun c tm' H' E' h1 h2=>⟨rfl,E',he.pan h1,h2⟩) he h' hk
   cases a with
   | region l =>
    have plain:(RG3 M K.pan Q E D l g H fun g L _ H=>W3 M ctx K b g Q (keepE K.keep E L) D H)->WP M ctx (.seq (.region l) b) ⟨tm,D,up,H⟩ (QQ K.keep Q up):=fun h=>reg l _ rfl h fun L R tm H hr hk=>ih b (by omega) hk (hr.keep he.keys)
    cases b with
    | cond c x y =>
     have hxy:csz x+csz y+1<=n:=by simp only [csz] at hab;omega
     refine reg l _ rfl h fun L R tm H hr hk=>?_
     obtain ⟨v,hv,hk⟩:=TV.cv hr hk
     exact cnd (by omega) (by omega) hv (hr.keep he.keys) hk
    | seq b1 r =>
     cases b1 with
     | cond c x y =>
      have hxy:csz x+csz y+1+csz r+1<=n:=by simp only [csz] at hab;omega
      refine reg l _ rfl h fun L R tm H hr hk=>?_
      obtain ⟨v,hv,hk⟩:=TV.cv hr hk
      exact seqq (by omega) (cnd (by omega) (by omega) hv (hr.keep he.keys) hk)
     | _=>exact plain h
    | _=>exact plain h
   | _=>exact gen h
  | cond c x y =>
   have hab:csz x+csz y<=n:=by simp only [csz] at hc;omega
   obtain ⟨v,hv,h⟩:=OV.elim he (show OV E c g _ from h)
   exact cnd (by omega) (by omega) hv he h
  | block id b =>
   have hb:csz b<=n:=by simp only [csz] at hc;omega
   exact qd9 (c:=b) (ih b hb (show W3 M ctx K b g (BLK3 id Q) E D H from h) he) fun e st ⟨h1,E',h2,h3⟩=>by cases e<;>exact ⟨h1,E',h2,h3⟩
  | scope b =>
   have hb:csz b<=n:=by simp only [csz] at hc;omega
   refine qd9 (c:=b) (ih b hb (show W3 M ctx K b g (SCP3 b Q) E D H from h) he) fun e st ⟨h1,E',h2,h3⟩=>?_
   cases e with
   | goto l=>exact ⟨h3.1,h1,E',h2,h3.2⟩
   | normal=>exact ⟨h1,E',h2,h3⟩
   | exit _=>exact ⟨h1,E',h2,h3⟩
   | ret=>exact ⟨h1,E',h2,h3⟩
   | panic _=>exact ⟨h1,E',h2,h3⟩
  | loop keep b =>
   have hb:csz b<=n:=by simp only [csz] at hc;omega
   cases keep with
   | some _=>exact False.elim h
   | none =>
    obtain ⟨I,⟨n0,E0,h0,hs⟩,hstep⟩:=(show LOOP3 (W3 M ctx K b) Q E D H from h)
    refine ⟨fun n st=>st.up=up /\ ∃ E',ESub K.keep E' st.tm/\I n E' st.dfs st.H,⟨n0,rfl,E0,hs.sub he,h0⟩,fun n st ⟨h1,E',h2,h3⟩=>?_⟩
    obtain ⟨tm',D',up',H'⟩:=st
    subst h1
    refine qd9 (c:=b) (ih b hb (hstep n E' D' H' h3) h2) fun e st ⟨k1,E2,k2,k3⟩=>?_
    cases e with
    | normal=>obtain ⟨m,E3,q1,q2,q3⟩:=k3;exact ⟨m,q3,k1,E3,q2.sub k2,q1⟩
    | exit _=>exact ⟨k1,E2,k2,k3⟩
    | goto _=>exact ⟨k1,E2,k2,k3⟩
    | ret=>exact ⟨k1,E2,k2,k3⟩
    | panic _=>exact ⟨k1,E2,k2,k3⟩
  | skip=>exact ⟨rfl,E,he,h⟩
  | label _=>exact ⟨rfl,E,he,h⟩
  | exit _=>exact ⟨rfl,E,he,h⟩
  | goto _=>exact ⟨rfl,E,he,h⟩
  | ret=>exact ⟨rfl,E,he,h⟩
  | stuck=>exact False.elim h
  | region l=>exact ih _ (zl _) h he
  | rangeFunc f k=>exact ih _ (zl _) h he
def RES3 (E:Env) (H:AHeap):List ARes->(List AV->Prop)->Prop
 | [],P=>P []
 | .tmp t::rs,P=>LK true (lk E t) fun _ v=>RES3 E H rs fun vs=>P (v::vs)
 | .cell1 a::rs,P=>LK true (lk E a) fun _ v=>B3 true (Op.load1 [v] H) fun _ v=>RES3 E H rs fun vs=>P (v::vs)
 | .cellN n a::rs,P=>LK true (lk E a) fun _ v=>B3 true (Op.loadN n [v] H) fun _ v=>RES3 E H rs fun vs=>P (v::vs)
def UNW3 (M:Mac) (rs:List ARes) (E:Env) (Q:AEnd->AHeap->Prop):List ADef->Option Chain->AHeap->Prop
 | [],none,H=>RES3 E H rs fun l=>Q (.ret (tupled l)) H
 | [],some c,H=>Q (.panic c) H
 | .coll b::ds,m,H=>H.get b=some (.deferred (some []))/\UNW3 M rs E Q ds m (H.set b (.deferred none))
 | .fn (.func f) args::ds,m,H=>∃ v up' H',CALLU M f args (some (m.getD [])) H (.ret v) (some up') H'/\BIND dirty (settleA m up') fun m'=>UNW3 M rs E Q ds m' H'
 | .fn (.yield _) _::_,_,_=>False
theorem RES3.elim {ks:List Nat} {E:Env} {tm:T AV} (he:ESub ks E tm) {H:AHeap}:∀ {rs:List ARes} {P:List AV->Prop},RES3 E H rs P -> ∃ l,readRes H tm rs=some l/\P l
 | [],P,h=>⟨[],rfl,h⟩
 | .tmp t::rs,P,h=>by
  obtain ⟨v,h1,h⟩:=LK.elim (show LK true (lk E t) _ from h)
  obtain ⟨l,h2,h⟩:=RES3.elim he h
  exact ⟨v::l,by rw [res_tmp,(he t v h1).1,h2];rfl,h⟩
 | .cell1 t::rs,P,h=>by
  obtain ⟨v,h1,h⟩:=LK.elim (show LK true (lk E t) _ from h)
  obtain ⟨w,h2,h⟩:=B3.elim h
  obtain ⟨l,h3,h⟩:=RES3.elim he h
  exact ⟨w::l,by rw [q6j,(he t v h1).1,qf,h2,qf,h3];rfl,h⟩
 | .cellN n t::rs,P,h=>by
  obtain ⟨v,h1,h⟩:=LK.elim (show LK true (lk E t) _ from h)
  obtain ⟨w,h2,h⟩:=B3.elim h
  obtain ⟨l,h3,h⟩:=RES3.elim he h
  exact ⟨w::l,by rw [q6k,(he t v h1).1,qf,h2,qf,h3];rfl,h⟩
theorem UNW3.unw {ks:List Nat} {E:Env} {tm:T AV} (he:ESub ks E tm) {rs:List ARes} {Q:AEnd->AHeap->Prop}:∀ {D:List ADef} {m:Option Chain} {H:AHeap},UNW3 M rs E Q D m H->UNW M rs tm Q D m H
 | [],none,H,h=>by obtain ⟨l,h1,h2⟩:=RES3.elim he h;exact BIND.intro (m:=dirty) h1 h2
 | [],some c,H,h=>h
 | .coll b::ds,m,H,⟨h1,h2⟩=>⟨h1,UNW3.unw he h2⟩
 | .fn (.func f) args::ds,m,H,⟨v,up',H',h1,h2⟩=>⟨v,up',H',h1,qf3 h2 fun m' h=>UNW3.unw he h⟩
 | .fn (.yield _) _::_,_,_,h=>h
def FIN3 (M:Mac) (rs:List ARes) (Q:AEnd->AHeap->Prop):Post3:=fun e E D H=>match e with
 | .normal=>UNW3 M rs E Q D none H
 | .ret=>UNW3 M rs E Q D none H
 | .panic c=>UNW3 M rs E Q D (some c) H
 | _=>False
def yz (M:Mac) (f:Nat) (vs:List AV) (H:AHeap) (Q:AEnd->AHeap->Prop):Prop:=∃ e H',CALL M f vs H e H'/\Q e H'
def RT3 (Q:AV->AHeap->Prop) (e:AEnd) (H:AHeap):Prop:=match e with
 | .ret v=>Q v H
 | .panic _=>False
def yf (M:Mac) (f:Nat) (vs:List AV) (H:AHeap) (Q:AV->AHeap->Prop):Prop:=yz M f vs H (RT3 Q)
theorem yf.elim {f:Nat} {vs:List AV} {H:AHeap} {Q:AV->AHeap->Prop} (h:yf M f vs H Q):∃ v H',CALL M f vs H (.ret v) H'/\Q v H':=by
 obtain ⟨e,H',h1,h2⟩:=h
 cases e with
 | ret v=>exact ⟨v,H',h1,h2⟩
 | panic _=>exact h2.elim
theorem yf.intro {f:Nat} {vs:List AV} {H:AHeap} {Q:AV->AHeap->Prop} {v:AV} {H':AHeap} (h:CALL M f vs H (.ret v) H') (hq:Q v H'):yf M f vs H Q:=⟨_,H',h,hq⟩
theorem yf.mono {f:Nat} {vs:List AV} {H:AHeap} {Q Q':AV->AHeap->Prop} (h:yf M f vs H Q) (hq:∀ v H',Q v H'->Q' v H'):yf M f vs H Q':=by
 obtain ⟨v,H',h1,h2⟩:=h.elim;exact ⟨_,H',h1,hq _ _ h2⟩
theorem C3.q {m:Bool} {f:Nat} {vs:List AV} {H:AHeap} {R:AV->AHeap->Prop} {P:Bool->AV->AHeap->Prop} (h:yf M f vs H R) (hk:∀ v H',R v H'->P m v H'):C3 M m (.func f) vs H P:=by
 obtain ⟨v,H',h1,h2⟩:=h.elim;exact ⟨v,H',h1,hk v H' h2⟩
theorem C3.ret {m:Bool} {f:Nat} {vs:List AV} {H:AHeap} {P:Bool->AV->AHeap->Prop} {v:AV} {H':AHeap} (h:CALL M f vs H (.ret v) H') (hk:P m v H'):C3 M m (.func f) vs H P:=⟨v,H',h,hk⟩
theorem C3.yret {m:Bool} {l:Nat} {vs:List AV} {H:AHeap} {P:Bool->AV->AHeap->Prop} {v:AV} {H':AHeap} (h:ROUND M l vs H (.ret v) H') (hk:P m v H'):C3 M m (.yield l) vs H P:=⟨v,H',h,hk⟩
theorem P3.q {m:Bool} {X:Chain->AHeap->Prop} {f:Nat} {vs:List AV} {H:AHeap} {R:AEnd->AHeap->Prop} {P:Bool->AV->AHeap->Prop} (h:yz M f vs H R) (hk:∀ v H',R (.ret v) H'->P m v H') (hx:∀ c H',R (.panic c) H'->X c H'):P3 M m X (.func f) vs H P:=by
 obtain ⟨e,H',h1,h2⟩:=h
 refine ⟨e,H',h1,?_⟩
 cases e with
 | ret v=>exact hk _ _ h2
 | panic c=>exact hx _ _ h2
def envA:Nat->List AV->Env
 | _,[]=>[]
 | i,v::vs=>(i,v)::envA (i+1) vs
def keepB:Nat->Nat->List Nat->Bool
 | _,0,_=>true
 | i,n+1,ks=>memN i ks && keepB (i+1) n ks
theorem qwb:∀ (vs:List AV) (i t:Nat) (tm:T AV),(argsT i vs tm).get t=if i<=t then (match vs[t-i]? with|some v=>some v|none=>tm.get t) else tm.get t
 | [],i,t,tm=>by simp [argsT]
 | v::vs,i,t,tm=>by
  rw [argsT,qwb vs (i+1) t,T.get_set]
  by_cases h:i=t
  ·subst h;simp;intro h;omega
  ·by_cases h2:i<=t
   ·have e:t-i=(t-(i+1))+1:=by omega
    rw [xc (show i+1<=t by omega),xc h2,qo h,e,z5]
   ·rw [qo (by omega),qo h2,qo h]
theorem q5w:∀ (vs:List AV) (i t:Nat) (v:AV),lk (envA i vs) t=some v->i<=t/\vs[t-i]? = some v
 | [],i,t,v,h=>by cases h
 | w::vs,i,t,v,h=>by
  rw [envA,qgb] at h
  split at h
  ·rename_i e;subst e;injection h with h;subst h;simp
  ·obtain ⟨h1,h2⟩:=q5w vs (i+1) t v h
   refine ⟨by omega,?_⟩
   have e:t-i=(t-(i+1))+1:=by omega
   rw [e,z5,h2]
theorem qzl:∀ (n i:Nat) (ks:List Nat),keepB i n ks=true -> ∀ t,i<=t->t<i+n->memN t ks=true
 | 0,i,ks,_,t,h1,h2=>by omega
 | n+1,i,ks,h,t,h1,h2=>by
  simp only [keepB,xb] at h
  by_cases e:i=t
  ·subst e;exact h.1
  ·exact qzl n (i+1) ks h.2 t (by omega) (by omega)
theorem envA_sub {ks:List Nat} {vs:List AV} (h:keepB 0 vs.length ks=true):ESub ks (envA 0 vs) (argsT 0 vs .nil):=fun t v hv=>by
 obtain ⟨_,h2⟩:=q5w vs 0 t v hv
 rw [qef] at h2
 refine ⟨by rw [qwb,xc (zl _),qef,h2],qzl _ 0 ks h t (zl _) ?_⟩
 rw [yv];exact (qi.1 h2).1
structure Fn3 where
 n:Nat
 F:AFunc
 K:Kp
def pre:ACode->List ACode
 | .seq a b=>.seq a b::appL (pre a) (pre b)
 | .cond c a b=>.cond c a b::appL (pre a) (pre b)
 | .block i b=>.block i b::pre b
 | .loop k b=>.loop k b::pre b
 | .scope b=>.scope b::pre b
 | c=>[c]
def part (c:ACode) (k:Nat):ACode:=Option.rec (motive:=fun _=>ACode) .stuck (fun c=>c) (nth (pre c) k)
def szC:ACode->Nat
 | .seq a b=>szC a+szC b+1
 | .cond _ a b=>szC a+szC b+1
 | .block _ b=>szC b+1
 | .loop _ b=>szC b+1
 | .scope b=>szC b+1
 | _=>1
theorem qlg:∀ (c:ACode),(pre c).length=szC c
 | .seq a b=>by simp [pre,szC,qdt,qlg a,qlg b]
 | .cond _ a b=>by simp [pre,szC,qdt,qlg a,qlg b]
 | .block _ b=>by simp [pre,szC,qlg b]
 | .loop _ b=>by simp [pre,szC,qlg b]
 | .scope b=>by simp [pre,szC,qlg b]
 | .skip=>rfl
 | .label _=>rfl
 | .exit _=>rfl
 | .goto _=>rfl
 | .ret=>rfl
 | .stuck=>rfl
 | .region _=>rfl
 | .rangeFunc _ _=>rfl
theorem qya (c:ACode):∃ l,pre c=c::l:=by cases c<;>exact ⟨_,rfl⟩
theorem q1i {α:Type}:∀ (l:List α) (i:Nat),nth l i=l[i]?
 | [],i=>rfl
 | x::l,0=>rfl
 | x::l,i+1=>by rw [z5,<-q1i l i];rfl
theorem pre_at:∀ (r:ACode) (k:Nat) (c:ACode),(pre r)[k]? = some c -> ∃ l,(pre r).drop k=pre c++l:=by
 intro r
 induction r with
 | seq a b iha ihb =>
  intro k c h
  cases k with
  | zero=>simp [pre] at h;subst h;exact ⟨[],by simp⟩
  | succ k =>
   simp only [pre,qdt,z5] at h
   simp only [pre,qdt,qeg]
   by_cases hk:k<(pre a).length
   ·rw [kw hk] at h
    obtain ⟨l,hl⟩:=iha k c h
    exact ⟨l++pre b,by rw [ki (by omega),hl,zj]⟩
   ·rw [js (by omega)] at h
    obtain ⟨l,hl⟩:=ihb _ c h
    refine ⟨l,?_⟩
    rw [qbm,j7 (by omega),jj,hl]
 | cond x a b iha ihb =>
  intro k c h
  cases k with
  | zero=>simp [pre] at h;subst h;exact ⟨[],by simp⟩
  | succ k =>
   simp only [pre,qdt,z5] at h
   simp only [pre,qdt,qeg]
   by_cases hk:k<(pre a).length
   ·rw [kw hk] at h
    obtain ⟨l,hl⟩:=iha k c h
    exact ⟨l++pre b,by rw [ki (by omega),hl,zj]⟩
   ·rw [js (by omega)] at h
    obtain ⟨l,hl⟩:=ihb _ c h
    refine ⟨l,?_⟩
    rw [qbm,j7 (by omega),jj,hl]
 | block i b ih =>
  intro k c h
  cases k with
  | zero=>simp [pre] at h;subst h;exact ⟨[],by simp⟩
  | succ k=>simp only [pre,z5] at h;simpa only [pre,qeg] using ih k c h
 | loop i b ih =>
  intro k c h
  cases k with
  | zero=>simp [pre] at h;subst h;exact ⟨[],by simp⟩
  | succ k=>simp only [pre,z5] at h;simpa only [pre,qeg] using ih k c h
 | scope b ih =>
  intro k c h
  cases k with
  | zero=>simp [pre] at h;subst h;exact ⟨[],by simp⟩
  | succ k=>simp only [pre,z5] at h;simpa only [pre,qeg] using ih k c h
 | _ =>
  intro k c h
  cases k with
  | zero=>simp [pre] at h;subst h;exact ⟨[],by simp [pre]⟩
  | succ k=>simp [pre] at h
theorem qz6 {r:ACode} {k:Nat} {c:ACode} (h:(pre r)[k]? = some c):part r k=c:=by
 unfold part;rw [q1i,h]
theorem qz5 {r:ACode} {k:Nat} {c:ACode} (h:part r k=c) (hc:c ≠ .stuck):∀ (j:Nat) (d:ACode),(pre c)[j]? = some d->part r (k+j)=d:=fun j d hd=>by
 have h1:(pre r)[k]? = some c:=by
  unfold part at h;rw [q1i] at h
  cases hq:(pre r)[k]? with
  | none=>rw [hq] at h;exact (hc h.symm).elim
  | some x=>rw [hq] at h;exact congrArg some h
 obtain ⟨l,hl⟩:=pre_at r k c h1
 refine qz6 ?_
 rw [<-j5,hl,kw (qi.1 hd).1,hd]
theorem pre_zero (c:ACode):(pre c)[0]? = some c:=by obtain ⟨l,h⟩:=qya c;rw [h];rfl
theorem qgt {r:ACode} {k:Nat} {c a b:ACode} (h:part r k=c) (hc:c ≠ .stuck) (e:∃ x l,pre c=x::(pre a++l)):part r (k+1)=a:=by
 obtain ⟨x,l,e⟩:=e
 obtain ⟨l',e'⟩:=qya a
 exact qz5 h hc 1 a (by rw [e,e'];rfl)
theorem qit {r:ACode} {k:Nat} {c a b:ACode} (h:part r k=c) (hc:c ≠ .stuck) (e:∃ x,pre c=x::(pre a++pre b)):part r (k+1+szC a)=b:=by
 obtain ⟨x,e⟩:=e
 obtain ⟨l',e'⟩:=qya b
 rw [yj]
 exact qz5 h hc (1+szC a) b (by rw [e,Nat.add_comm,z5,js (by rw [qlg];exact qe _),qlg,Nat.sub_self,e'];rfl)
def U (M:Mac) (ctx:Ctx) (K:Kp) (X:Nat->WX):ACode->Nat->WX
 | .skip,_,g,Q,E,D,H=>GO3 g Q .normal E D H
 | .label _,_,g,Q,E,D,H=>GO3 g Q .normal E D H
 | .exit id,_,g,Q,E,D,H=>GO3 g Q (.exit id) E D H
 | .goto l,_,g,Q,E,D,H=>GO3 g Q (.goto l) E D H
 | .ret,_,g,Q,E,D,H=>GO3 g Q .ret E D H
 | .stuck,_,_,_,_,_,_=>False
 | .region l,_,g,Q,E,D,H=>RG3 M K.pan Q E D l g H fun g L _ H=>GO3 g Q .normal (keepE K.keep E L) D H
 | .seq a b,k,g,Q,E,D,H=>match a,b with
  | .region l,.cond c x y=>RG3 M K.pan Q E D l g H fun g L R H=>CV E L R c g fun g v=>IF3 g v (fun g=>(Bool.rec (motive:=fun _=>WX) (U M ctx K X x (k+3)) (X (k+3)) (memN (k+3) K.named)) g Q (keepE K.keep E L) D H) (fun g=>(Bool.rec (motive:=fun _=>WX) (U M ctx K X y (k+3+szC x)) (X (k+3+szC x)) (memN (k+3+szC x) K.named)) g Q (keepE K.keep E L) D H)
  | .region l,.seq (.cond c x y) r=>RG3 M K.pan Q E D l g H fun g L R H=>CV E L R c g fun g v=>IF3 g v (fun g=>(Bool.rec (motive:=fun _=>WX) (U M ctx K X x (k+4)) (X (k+4)) (memN (k+4) K.named)) g (SEQ3 (Bool.rec (motive:=fun _=>WX) (U M ctx K X r (k+4+szC x+szC y)) (X (k+4+szC x+szC y)) (memN (k+4+szC x+szC y) K.named)) Q) (keepE K.keep E L) D H)
   (fun g=>(Bool.rec (motive:=fun _=>WX) (U M ctx K X y (k+4+szC x)) (X (k+4+szC x)) (memN (k+4+szC x) K.named)) g (SEQ3 (Bool.rec (motive:=fun _=>WX) (U M ctx K X r (k+4+szC x+szC y)) (X (k+4+szC x+szC y)) (memN (k+4+szC x+szC y) K.named)) Q) (keepE K.keep E L) D H)
  | .region l,b=>RG3 M K.pan Q E D l g H fun g L _ H=>(Bool.rec (motive:=fun _=>WX) (U M ctx K X b (k+2)) (X (k+2)) (memN (k+2) K.named)) g Q (keepE K.keep E L) D H
  | a,b=>(Bool.rec (motive:=fun _=>WX) (U M ctx K X a (k+1)) (X (k+1)) (memN (k+1) K.named)) g (SEQ3 (Bool.rec (motive:=fun _=>WX) (U M ctx K X b (k+1+szC a)) (X (k+1+szC a)) (memN (k+1+szC a) K.named)) Q) E D H
 | .cond c x y,k,g,Q,E,D,H=>OV E c g fun g v=>IF3 g v (fun g=>(Bool.rec (motive:=fun _=>WX) (U M ctx K X x (k+1)) (X (k+1)) (memN (k+1) K.named)) g Q E D H) (fun g=>(Bool.rec (motive:=fun _=>WX) (U M ctx K X y (k+1+szC x)) (X (k+1+szC x)) (memN (k+1+szC x) K.named)) g Q E D H)
 | .block id b,k,g,Q,E,D,H=>(Bool.rec (motive:=fun _=>WX) (U M ctx K X b (k+1)) (X (k+1)) (memN (k+1) K.named)) g (BLK3 id Q) E D H
 | .scope b,k,g,Q,E,D,H=>(Bool.rec (motive:=fun _=>WX) (U M ctx K X b (k+1)) (X (k+1)) (memN (k+1) K.named)) g (SCP3 b Q) E D H
 | .loop (some _) _,_,_,_,_,_,_=>False
 | .loop none b,k,g,Q,E,D,H=>LOOP3 (Bool.rec (motive:=fun _=>WX) (U M ctx K X b (k+1)) (X (k+1)) (memN (k+1) K.named)) Q E D H
 | .rangeFunc f n,_,g,Q,E,D,H=>OV E f g fun g v=>RNG3 M K.keep ctx n E D H Q v
theorem U_eq (r:ACode):∀ (n:Nat) (c:ACode),szC c<=n -> ∀ k,part r k=c->U M ctx K (fun j=>W3 M ctx K (part r j)) c k=W3 M ctx K c:=by
 intro n
 induction n with
 | zero=>intro c hc;cases c<;>simp [szC] at hc
 | succ n ih =>
  intro c hc k hk
  have sub:∀ (d:ACode) (j:Nat),szC d<=n->part r j=d->Bool.rec (motive:=fun _=>WX) (U M ctx K (fun j=>W3 M ctx K (part r j)) d j) (W3 M ctx K (part r j)) (memN j K.named)=W3 M ctx K d:=fun d j h1 h2=>by
   cases memN j K.named with
   | true=>show W3 M ctx K (part r j)=_;rw [h2]
   | false=>exact ih d h1 j h2
  have pl:=@qgt r
  have pr:=@qit r
  cases c with
  | seq a b =>
   have e:pre (.seq a b)=.seq a b::(pre a++pre b):=by simp [pre,qdt]
   have ha:=qgt (b:=b) hk (by simp) ⟨_,_,e⟩
   have hb:=qit hk (by simp) ⟨_,e⟩
   have hs:szC a+szC b<=n:=by simp only [szC] at hc;omega
   have gen:(Bool.rec (motive:=fun _=>WX) (U M ctx K (fun j=>W3 M ctx K (part r j)) a (k+1)) (W3 M ctx K (part r (k+1))) (memN (k+1) K.named))=W3 M ctx K a/\(Bool.rec (motive:=fun _=>WX) (U M ctx K (fun j=>W3 M ctx K (part r j)) b (k+1+szC a)) (W3 M ctx K (part r (k+1+szC a))) (memN (k+1+szC a) K.named))=W3 M ctx K b :=
    ⟨sub a _ (by omega) ha,sub b _ (by omega) hb⟩
   cases a with
   | region l =>
    have plain:(Bool.rec (motive:=fun _=>WX) (U M ctx K (fun j=>W3 M ctx K (part r j)) b (k+2)) (W3 M ctx K (part r (k+2))) (memN (k+2) K.named))=W3 M ctx K b:=sub b _ (by omega) hb
    cases b with
    | cond c x y =>
     have e2:pre (.cond c x y)=.cond c x y::(pre x++pre y):=by simp [pre,qdt]
     have hx:=qgt (b:=y) hb (by simp) ⟨_,_,e2⟩
     have hy:=qit hb (by simp) ⟨_,e2⟩
     have hxy:szC x+szC y+1<=n:=by simp only [szC] at hs;omega
     have s1:=sub x (k+3) (by omega) hx
     have s2:=sub y (k+3+szC x) (by omega) hy
     funext g Q E D H
     simp only [U,W3,s1,s2]
    | seq b1 q =>
     cases b1 with
     | cond c x y =>
      have e1:pre (.seq (.cond c x y) q)=.seq (.cond c x y) q::(pre (.cond c x y)++pre q):=by simp [pre,qdt]
      have e2:pre (.cond c x y)=.cond c x y::(pre x++pre y):=by simp [pre,qdt]
      have hc2:=qgt (b:=q) hb (by simp) ⟨_,_,e1⟩
      have hq:=qit hb (by simp) ⟨_,e1⟩
      have hx:=qgt (b:=y) hc2 (by simp) ⟨_,_,e2⟩
      have hy:=qit hc2 (by simp) ⟨_,e2⟩
      have hxy:szC x+szC y+1+szC q+1<=n:=by simp only [szC] at hs;omega
      have s1:=sub x (k+4) (by omega) hx
      have s2:=sub y (k+4+szC x) (by omega) hy
      have s3:=sub q (k+4+szC x+szC y) (by omega) (by rw [<-hq];simp only [szC];congr 1;omega)
      funext g Q E D H
      simp only [U,W3,s1,s2,s3]
     | _=>funext g Q E D H;simp only [U,W3] at plain ⊢;simp only [plain]
    | _=>funext g Q E D H;simp only [U,W3] at plain ⊢;simp only [plain]
   | _=>funext g Q E D H;simp only [U,W3] at gen ⊢;simp only [gen.1,gen.2]
  | cond c x y =>
   have e2:pre (.cond c x y)=.cond c x y::(pre x++pre y):=by simp [pre,qdt]
   have hx:=qgt (b:=y) hk (by simp) ⟨_,_,e2⟩
   have hy:=qit hk (by simp) ⟨_,e2⟩
   have hxy:szC x+szC y<=n:=by simp only [szC] at hc;omega
   have s1:=sub x (k+1) (by omega) hx
   have s2:=sub y (k+1+szC x) (by omega) hy
   funext g Q E D H
   simp only [U,W3,s1,s2]
  | block i b =>
   have s1:=sub b (k+1) (by simp only [szC] at hc;omega) (qgt (b:=b) hk (by simp) ⟨.block i b,[],by simp [pre]⟩)
   funext g Q E D H
   simp only [U,W3,s1]
  | scope b =>
   have s1:=sub b (k+1) (by simp only [szC] at hc;omega) (qgt (b:=b) hk (by simp) ⟨.scope b,[],by simp [pre]⟩)
   funext g Q E D H
   simp only [U,W3,s1]
  | loop i b =>
   have s1:=sub b (k+1) (by simp only [szC] at hc;omega) (qgt (b:=b) hk (by simp) ⟨.loop i b,[],by simp [pre]⟩)
   funext g Q E D H
   cases i with
   | none=>simp only [U,W3,s1]
   | some _=>rfl
  | _=>funext g Q E D H;rfl
theorem W_ex:∃ F:Mac->Ctx->Kp × ACode->WX,F=fun M ctx p=>W3 M ctx p.1 p.2:=⟨_,rfl⟩
def W:Mac->Ctx->Kp × ACode->WX:=Classical.choose W_ex
theorem W_def (M:Mac) (ctx:Ctx) (p:Kp × ACode):W M ctx p=W3 M ctx p.1 p.2:=congrFun (congrFun (congrFun (Classical.choose_spec W_ex) M) ctx) p
def funcAt (P:Program) (n:Nat):AFunc:=Option.rec (motive:=fun _=>AFunc) ⟨[],.stuck,[]⟩ (fun f=>f) ((cProg P).func n)
def loopAt (F:AFunc) (i:Nat):ALoop:=Option.rec (motive:=fun _=>ALoop) ⟨[],.stuck,.stuck⟩ (fun l=>l) (nth F.loops i)
theorem W_unf {M:Mac} {ctx:Ctx} {K:Kp} {r:ACode} {k:Nat} {g:Bool} {Q:Post3} {E:Env} {D:List ADef} {H:AHeap} {R:Prop} (h:U M ctx K (fun j=>W M ctx (K,part r j)) (part r k) k g Q E D H=R):W M ctx (K,part r k) g Q E D H=R:=by
 rw [<-h]
 have e:(fun j=>W M ctx (K,part r j))=fun j=>W3 M ctx K (part r j):=by funext j;exact W_def ..
 rw [e,U_eq (M:=M) (ctx:=ctx) (K:=K) r _ (part r k) (qe _) k rfl,W_def]
abbrev uu:AV:=.undef
theorem qeb (c:ACode):part c 0=c:=qz6 (pre_zero c)
theorem zg {α β:Type} {a b:α} {x y:β} (h:(a,x)=(b,y)):a=b/\x=y:=by injection h with h1 h2;exact ⟨h1,h2⟩
theorem calle {M:Mac} {f:Nat} {fn:AFunc} (hf:M.func f=some fn) {ks:Kp} {vs:List AV} (hk:keepB 0 vs.length ks.keep=true) {H:AHeap} {Q:AEnd->AHeap->Prop}
 (h:W M ⟨none,f⟩ (ks,part fn.body 0) true (FIN3 M fn.results Q) (envA 0 vs) [] H):yz M f vs H Q:=by
 rw [W_def,qeb] at h
 refine q3q hf (qd9 (W3.wp (csz fn.body) fn.body (qe _) (up:=none) h (envA_sub hk)) fun e st ⟨h1,E',h2,h3⟩=>?_)
 obtain ⟨tm,D,up,H'⟩:=st
 have h1:up=none:=h1
 subst h1
 have mono:∀ {m:Option Chain},UNW3 M fn.results E' Q D m H'->UNW M fn.results tm (fun e H=>(none:Option Chain)=none/\Q e H) D m H':=fun {m} h=>by
  have h':UNW3 M fn.results E' (fun e H=>(none:Option Chain)=none/\Q e H) D m H':=by
   have e:(fun e H=>(none:Option Chain)=none/\Q e H)=Q:=by funext e H;simp
   rw [e];exact h
  exact UNW3.unw h2 h'
 cases e with
 | normal=>exact mono h3
 | ret=>exact mono h3
 | panic c=>exact mono h3
 | exit _=>exact h3.elim
 | goto _=>exact h3.elim
section
variable (E:Env) (H:AHeap) (K:Bool->AV->Prop) (K2:Bool->AV->AHeap->Prop) (A B:Bool->Prop)
def Lz (E:Env) (n:Nat) (K:Bool->AV->Prop):Prop:=LK true (lk E n) K
def Ly (g:Bool) (E:Env) (n:Nat) (K:Bool->AV->Prop):Prop:=LK g (lk E n) K
def Fl (g:Bool) (i:Nat) (a:AV) (H:AHeap) (K:Bool->AV->Prop):Prop:=B3 g (Op.fieldAddr i [a]) fun g x=>B3 g (Op.load1 [x] H) K
def Nf (g:Bool) (i:Nat) (a:AV) (H:AHeap) (K:Bool->AV->Prop):Prop:=B3 g (Op.nilCheck [a]) fun g x=>Fl g i x H K
def Fs (g:Bool) (i:Nat) (a b:AV) (H:AHeap) (K:Bool->AV->AHeap->Prop):Prop:=B3 g (Op.fieldAddr i [a]) fun g x=>B32 g (Op.store 1 [x,b] H) K
def Ns (g:Bool) (i:Nat) (a b:AV) (H:AHeap) (K:Bool->AV->AHeap->Prop):Prop:=B3 g (Op.nilCheck [a]) fun g x=>Fs g i x b H K
def Xl (g:Bool) (a b:AV) (H:AHeap) (K:Bool->AV->Prop):Prop:=B3 g (Op.indexSl 1 [a,b]) fun g x=>B3 g (Op.load1 [x] H) K
def Xs (g:Bool) (a b c:AV) (H:AHeap) (K:Bool->AV->AHeap->Prop):Prop:=B3 g (Op.indexSl 1 [a,b]) fun g x=>B32 g (Op.store 1 [x,c] H) K
def Bn (g:Bool) (o:BinOp) (a b:AV) (K:Bool->AV->Prop):Prop:=B3 g (Op.bin o [a,b]) K
def Cb (g:Bool) (o:BinOp) (a b:AV) (A B:Bool->Prop):Prop:=B3 g (Op.bin o [a,b]) fun g v=>IF3 g v A B
def Gt (g:Bool) (M:Mac) (c:Ctx) (p:Kp × ACode) (Q:Post3) (E:Env) (D:List ADef) (H:AHeap):Prop:=GO3 g (SEQ3 (W M c p) Q) .normal E D H
theorem Lz_e (n:Nat):Lz E n K=LK true (lk E n) K:=propext j8
theorem Ly_e (n:Nat):Ly true E n K=LK true (lk E n) K:=propext j8
theorem Fl_e (i:Nat) (a:AV):Fl true i a H K=B3 true (Op.fieldAddr i [a]) fun g x=>B3 g (Op.load1 [x] H) K:=propext j8
theorem Nf_e (i:Nat) (a:AV):Nf true i a H K=B3 true (Op.nilCheck [a]) fun g x=>Fl g i x H K:=propext j8
theorem Fs_e (i:Nat) (a b:AV):Fs true i a b H K2=B3 true (Op.fieldAddr i [a]) fun g x=>B32 g (Op.store 1 [x,b] H) K2:=propext j8
theorem Ns_e (i:Nat) (a b:AV):Ns true i a b H K2=B3 true (Op.nilCheck [a]) fun g x=>Fs g i x b H K2:=propext j8
theorem Xl_e (a b:AV):Xl true a b H K=B3 true (Op.indexSl 1 [a,b]) fun g x=>B3 g (Op.load1 [x] H) K:=propext j8
theorem Xs_e (a b c:AV):Xs true a b c H K2=B3 true (Op.indexSl 1 [a,b]) fun g x=>B32 g (Op.store 1 [x,c] H) K2:=propext j8
theorem Bn_e (o:BinOp) (a b:AV):Bn true o a b K=B3 true (Op.bin o [a,b]) K:=propext j8
theorem Cb_e (o:BinOp) (a b:AV):Cb true o a b A B=B3 true (Op.bin o [a,b]) fun g v=>IF3 g v A B:=propext j8
theorem Gt_e (M:Mac) (c:Ctx) (p:Kp × ACode) (Q:Post3) (D:List ADef):Gt true M c p Q E D H=GO3 true (SEQ3 (W M c p) Q) .normal E D H:=propext j8
end
end
end Go.Am
namespace Go.Am
section
variable {M:Mac} {ctx:Ctx} {pan:Bool} {Q Q':Post3} {E:Env} {D:List ADef}
theorem qw4 {α:Type} {m:Bool} {o:Option α} {K K':Bool -> α->Prop} (h:B3 m o K) (hk:∀ a,K m a->K' m a):B3 m o K':=by
 cases o with
 | none=>exact h
 | some a=>exact hk a h
theorem q18 {α β:Type} {m:Bool} {o:Option (α × β)} {K K':Bool -> α -> β->Prop} (h:B32 m o K) (hk:∀ a b,K m a b->K' m a b):B32 m o K':=by
 cases o with
 | none=>exact h
 | some a=>exact hk a.1 a.2 h
theorem q4y {α:Type} {m:Bool} {o:Option α} {K K':Bool -> α->Prop} (h:LK m o K) (hk:∀ a,K m a->K' m a):LK m o K':=by
 cases o with
 | none=>exact h
 | some a=>exact hk a h
theorem q2a {m:Bool} {v:AV} {A B A' B':Bool->Prop} (h:IF3 m v A B) (ha:A m->A' m) (hb:B m->B' m):IF3 m v A' B':=by
 obtain ⟨q,rfl,h⟩:=h.elim
 cases q with
 | true=>exact ha h
 | false=>exact hb h
theorem q0w {L R:Env} {t:Nat} {g:Bool} {K K':Bool->Env->AV->Prop} (h:TV E L R t g K) (hk:∀ R v,K g R v->K' g R v):TV E L R t g K':=by
 unfold TV at h ⊢
 cases hl:lk L t with
 | some v=>rw [hl] at h;exact hk _ _ h
 | none =>
  rw [hl] at h
  cases hq:lk R t with
  | some v=>rw [hq] at h;exact hk _ _ h
  | none=>rw [hq] at h;exact q4y h fun v q=>hk _ _ q
theorem q40 {x:AOpd} {g:Bool} {K K':Bool->AV->Prop} (h:OV E x g K) (hk:∀ v,K g v->K' g v):OV E x g K':=by
 cases x with
 | tmp t=>simp only [OV] at h ⊢;exact q4y h hk
 | const v=>exact hk _ h
 | glob b=>exact hk _ h
 | func f=>exact hk _ h
theorem CV_mono {L R:Env} {x:AOpd} {g:Bool} {K K':Bool->AV->Prop} (h:CV E L R x g K) (hk:∀ v,K g v->K' g v):CV E L R x g K':=by
 cases x with
 | tmp t=>simp only [CV] at h ⊢;exact q0w h fun _ v=>hk v
 | const v=>exact hk _ h
 | glob b=>exact hk _ h
 | func f=>exact hk _ h
theorem qov {L:Env} {g:Bool}:∀ {l:List AOpd} {R:Env} {K K':Bool->Env->List AV->Prop},EV3 E L l g R K->(∀ R vs,K g R vs->K' g R vs)->EV3 E L l g R K'
 | [],R,K,K',h,hk=>hk _ _ h
 | .tmp t::xs,R,K,K',h,hk=>q0w (K:=fun g R v=>EV3 E L xs g R fun g R vs=>K g R (v::vs)) (K':=fun g R v=>EV3 E L xs g R fun g R vs=>K' g R (v::vs)) h fun R v q=>qov (K:=fun g R vs=>K g R (v::vs)) (K':=fun g R vs=>K' g R (v::vs)) q fun R vs=>hk _ _
 | .const v::xs,R,K,K',h,hk=>qov (l:=xs) (K:=fun g R vs=>K g R (v::vs)) (K':=fun g R vs=>K' g R (v::vs)) h fun R vs=>hk _ _
 | .glob v::xs,R,K,K',h,hk=>qov (l:=xs) (K:=fun g R vs=>K g R (.ptr v 0::vs)) (K':=fun g R vs=>K' g R (.ptr v 0::vs)) h fun R vs=>hk _ _
 | .func v::xs,R,K,K',h,hk=>qov (l:=xs) (K:=fun g R vs=>K g R (.fn (.func v) [] []::vs)) (K':=fun g R vs=>K' g R (.fn (.func v) [] []::vs)) h fun R vs=>hk _ _
theorem q41 (hq:∀ e E D H,Q e E D H->Q' e E D H) {ps:Option (List Nat)} {ks:List Nat} {c:Chain} {H:AHeap} (h:PX ps ks Q E D c H):PX ps ks Q' E D c H:=by
 cases ps with
 | none=>exact h
 | some _=>exact hq _ _ _ _ h
theorem qsj (hq:∀ e E D H,Q e E D H->Q' e E D H) {ps:Option (List Nat)} {L:Env} {g:Bool} {f:AFn} {vs:List AV} {H:AHeap} {K K':Bool->AV->AHeap->Prop} (h:CP3 M pan ps L Q E D g f vs H K) (hk:∀ v H,K g v H->K' g v H):CP3 M pan ps L Q' E D g f vs H K':=by
 cases pan with
 | false=>obtain ⟨v,H',h1,h2⟩:=h;exact ⟨v,H',h1,hk _ _ h2⟩
 | true =>
  obtain ⟨e,H',h1,h2⟩:=h
  refine ⟨e,H',h1,?_⟩
  cases e with
  | ret v=>exact hk _ _ h2
  | panic c=>exact q41 hq h2
theorem ST3_mono (hq:∀ e E D H,Q e E D H->Q' e E D H) {s:AStep} {K K':KR} {g:Bool} {L R:Env} {H:AHeap} (h:ST3 M pan s Q E D K g L R H) (hk:∀ L R H,K g L R H->K' g L R H):ST3 M pan s Q' E D K' g L R H:=by
 refine qov (show EV3 E L s.args g R _ from h) fun R vs h=>?_
 obtain ⟨chk,dst,guard,args,op,ps⟩:=s
 cases chk with
 | true =>
  have h:CKS dst E L R H K g vs op:=h
  show CKS dst E L R H K' g vs op
  cases op with
  | read f =>
   cases dst with
   | none=>exact h
   | some d=>exact ⟨h.1,hk _ _ _ h.2⟩
  | _=>exact h
 | false =>
  have h:OP3 M pan dst ps Q E D L R H K g vs op:=h
  show OP3 M pan dst ps Q' E D L R H K' g vs op
  cases op with
  | pure f=>simp only [OP3] at h ⊢;exact qw4 h fun a=>hk _ _ _
  | read f=>simp only [OP3] at h ⊢;exact qw4 h fun a=>hk _ _ _
  | alloc f=>simp only [OP3] at h ⊢;exact q18 h fun a b=>hk _ _ _
  | eff f=>simp only [OP3] at h ⊢;exact q18 h fun a b=>hk _ _ _
  | callF f=>exact qsj hq h fun v H=>hk _ _ _
  | callV =>
   simp only [OP3,V3] at h ⊢
   split at h
   ·exact qsj hq h fun v H=>hk _ _ _
   ·exact qsj hq h fun v H=>hk _ _ _
   ·exact h.elim
  | invoke n =>
   simp only [OP3,N3] at h ⊢
   split at h
   ·exact qw4 h fun a q=>qsj hq q fun v H=>hk _ _ _
   ·exact h.elim
  | recover=>exact h
  | defer=>exact h
  | panic =>
   cases pan with
   | false=>exact h
   | true =>
    have h:PANICK vs H (PX ps (keysE L) Q E D):=h
    show PANICK vs H (PX ps (keysE L) Q' E D)
    unfold PANICK at h ⊢
    split at h
    ·exact q41 hq h
    ·exact h.elim
theorem qw6 (hq:∀ e E D H,Q e E D H->Q' e E D H) {K K':KR} {g:Bool} (hk:∀ L R H,K g L R H->K' g L R H):∀ {l:List AStep} {L R:Env} {H:AHeap},STS M pan Q E D K l g L R H->STS M pan Q' E D K' l g L R H
 | [],L,R,H,h=>hk _ _ _ h
 | s::l,L,R,H,h=>ST3_mono hq (show ST3 M pan s Q E D (STS M pan Q E D K l) g L R H from h) fun L R H=>qw6 hq hk
theorem qxa:∀ (n:Nat) {f f':List AV->AHeap->Prop},(∀ vs H,f vs H->f' vs H) -> ∀ (l:List AV) (H:AHeap),appC n (lamC n f) l H->appC n (lamC n f') l H
 | 0,f,f',hf,l,H,h=>hf [] H h
 | n+1,f,f',hf,[],H,h=>h
 | n+1,f,f',hf,v::l,H,h=>qxa n (f:=fun l=>f (v::l)) (f':=fun l=>f' (v::l)) (fun vs H=>hf _ _) l H h
theorem GR3_mono (hq:∀ e E D H,Q e E D H->Q' e E D H) {x:Grp} {K K':KR} {g:Bool} (hk:∀ L R H,K g L R H->K' g L R H) {L R:Env} {H:AHeap} (h:GR3 M pan Q E D x K g L R H):GR3 M pan Q' E D x K' g L R H:=by
 obtain ⟨q,l⟩:=x
 cases q with
 | none=>exact qw6 hq hk (show STS M pan Q E D K l g L R H from h)
 | some q =>
  cases ho:okG q.1 l with
  | false =>
   have h:cond (okG q.1 l) _ False:=h
   rw [ho] at h;exact h.elim
  | true =>
   have h:cond (okG q.1 l) _ False:=h
   rw [ho,qz] at h
   show cond (okG q.1 l) _ False
   rw [ho,qz]
   refine q0w h fun R1 v h=>?_
   have h:B3 g (wantV q.2 (some v)) fun g w=>IG3 g w (fun g=>STS M pan Q E D (fun g L' _ H=>appC (lenL (keysG l [])) (lamC (lenL (keysG l [])) fun vs H=>K g (zipK (keysG l []) L vs) R1 H) (valsN (lenL (keysG l [])) L') H) l g L R1 H)
    (fun g=>appC (lenL (keysG l [])) (lamC (lenL (keysG l [])) fun vs H=>K g (zipK (keysG l []) L vs) R1 H) (undN (lenL (keysG l []))) H):=h
   refine qw4 (K':=fun g w=>IG3 g w (fun g=>STS M pan Q' E D (fun g L' _ H=>appC (lenL (keysG l [])) (lamC (lenL (keysG l [])) fun vs H=>K' g (zipK (keysG l []) L vs) R1 H) (valsN (lenL (keysG l [])) L') H) l g L R1 H)
    (fun g=>appC (lenL (keysG l [])) (lamC (lenL (keysG l [])) fun vs H=>K' g (zipK (keysG l []) L vs) R1 H) (undN (lenL (keysG l []))) H)) h fun w h=>?_
   cases w with
   | true=>exact qw6 hq (fun L' R H h=>qxa _ (fun vs H=>hk _ _ _) _ _ h) (show STS M pan Q E D _ l g L R1 H from h)
   | false=>exact qxa _ (fun vs H=>hk _ _ _) _ _ h
theorem qsk (hq:∀ e E D H,Q e E D H->Q' e E D H) {l:List AStep} {K K':KR} {g:Bool} (hk:∀ L R H,K g L R H->K' g L R H) {H:AHeap} (h:RG3 M pan Q E D l g H K):RG3 M pan Q' E D l g H K':=by
 unfold RG3 at h ⊢
 generalize grp l=gs at h ⊢
 generalize ([]:Env)=L at h ⊢
 have key:∀ (gs:List Grp) (L R:Env) (H:AHeap),GRS M pan Q E D K gs g L R H->GRS M pan Q' E D K' gs g L R H:=by
  intro gs
  induction gs with
  | nil=>exact fun L R H h=>hk _ _ _ h
  | cons x gs ih=>exact fun L R H h=>GR3_mono hq ih (show GR3 M pan Q E D x (GRS M pan Q E D K gs) g L R H from h)
 exact key gs L L H h
theorem W3_mono {K:Kp}:∀ (n:Nat) (c:ACode),csz c<=n -> ∀ {g:Bool} {Q Q':Post3} {E:Env} {D:List ADef} {H:AHeap},(∀ e E D H,Q e E D H->Q' e E D H)->W3 M ctx K c g Q E D H->W3 M ctx K c g Q' E D H:=by
 intro n
 induction n with
 | zero =>
  intro c hc g Q Q' E D H hq h
  cases c with
  | region l=>exact qsk hq (fun L R H h=>hq _ _ _ _ h) h
  | rangeFunc f k =>
   have h:OV E f g fun g v=>RNG3 M K.keep ctx k E D H Q v:=h
   show OV E f g fun g v=>RNG3 M K.keep ctx k E D H Q' v
   have key:∀ v,RNG3 M K.keep ctx k E D H Q v->RNG3 M K.keep ctx k E D H Q' v:=fun v h tm up he=>by
    have:=h tm up he
    unfold RNG at this ⊢
    split
    ·rename_i hr;rw [hr] at this
     exact qio this fun e st ⟨h1,h2,h3⟩=>⟨h1,h2,hq _ _ _ _ h3⟩
    ·rename_i l hr;rw [hr] at this
     exact qf3 (m:=dirty) this fun d q=>qio q fun e st ⟨h1,h2,h3⟩=>⟨h1,h2,hq _ _ _ _ h3⟩
   exact q40 h key
  | skip=>exact hq _ _ _ _ h
  | label _=>exact hq _ _ _ _ h
  | exit _=>exact hq _ _ _ _ h
  | goto _=>exact hq _ _ _ _ h
  | ret=>exact hq _ _ _ _ h
  | stuck=>exact h
  | seq _ _=>simp [csz] at hc
  | cond _ _ _=>simp [csz] at hc
  | block _ _=>simp [csz] at hc
  | loop _ _=>simp [csz] at hc
  | scope _=>simp [csz] at hc
 | succ n ih =>
  intro c hc g Q Q' E D H hq h
  have sq:∀ {b:ACode},csz b<=n -> ∀ e E D H,SEQ3 (W3 M ctx K b) Q e E D H->SEQ3 (W3 M ctx K b) Q' e E D H:=fun hb e E D H h=>by
   cases e with
   | normal=>exact ih _ hb hq h
   | _=>exact hq _ _ _ _ h
  cases c with
  | seq a b =>
   have hab:csz a+csz b<=n:=by simp only [csz] at hc;omega
   have gen:W3 M ctx K a g (SEQ3 (W3 M ctx K b) Q) E D H->W3 M ctx K a g (SEQ3 (W3 M ctx K b) Q') E D H:=fun h=>ih a (by omega) (sq (by omega)) h
   cases a with
   | region l =>
    have plain:(RG3 M K.pan Q E D l g H fun g L _ H=>W3 M ctx K b g Q (keepE K.keep E L) D H)->RG3 M K.pan Q' E D l g H fun g L _ H=>W3 M ctx K b g Q' (keepE K.keep E L) D H:=fun h=>qsk hq (fun L R H h=>ih b (by omega) hq h) h
    have cv:∀ {L R:Env} {c:AOpd} {A B A' B':Bool->Prop},CV E L R c g (fun g v=>IF3 g v A B)->(A g->A' g)->(B g->B' g)->CV E L R c g (fun g v=>IF3 g v A' B'):=fun {L R c A B A' B'} h ha hb=>by
     exact CV_mono h fun v h=>q2a h ha hb
    cases b with
    | cond c x y =>
     have hxy:csz x+csz y+1<=n:=by simp only [csz] at hab;omega
     exact qsk hq (fun L R H h=>cv h (ih x (by omega) hq) (ih y (by omega) hq)) h
    | seq b1 r =>
     cases b1 with
     | cond c x y =>
      have hxy:csz x+csz y+1+csz r+1<=n:=by simp only [csz] at hab;omega
      exact qsk hq (fun L R H h=>cv h (ih x (by omega) (sq (by omega))) (ih y (by omega) (sq (by omega)))) h
     | _=>exact plain h
    | _=>exact plain h
   | _=>exact gen h
  | cond c x y =>
   have hab:csz x+csz y<=n:=by simp only [csz] at hc;omega
   have h:OV E c g fun g v=>IF3 g v (fun g=>W3 M ctx K x g Q E D H) (fun g=>W3 M ctx K y g Q E D H):=h
   exact q40 (K':=fun g v=>IF3 g v (fun g=>W3 M ctx K x g Q' E D H) (fun g=>W3 M ctx K y g Q' E D H)) h fun v h=>q2a h (ih x (by omega) hq) (ih y (by omega) hq)
  | block id b =>
   have hb:csz b<=n:=by simp only [csz] at hc;omega
   exact ih b hb (fun e E D H h=>by cases e<;>exact hq _ _ _ _ h) h
  | scope b =>
   have hb:csz b<=n:=by simp only [csz] at hc;omega
   exact ih b hb (fun e E D H h=>by cases e<;>first|exact hq _ _ _ _ h|exact ⟨h.1,hq _ _ _ _ h.2⟩) h
  | loop keep b =>
   have hb:csz b<=n:=by simp only [csz] at hc;omega
   cases keep with
   | some _=>exact h
   | none =>
    obtain ⟨I,h0,h1⟩:=h
    exact ⟨I,h0,fun n E D H hi=>ih b hb (fun e E D H h=>by cases e<;>first|exact h|exact hq _ _ _ _ h) (h1 n E D H hi)⟩
  | _=>exact ih _ (zl _) hq h
end
theorem W.mono {M:Mac} {ctx:Ctx} {p:Kp × ACode} {g:Bool} {Q Q':Post3} {E:Env} {D:List ADef} {H:AHeap} (h:W M ctx p g Q E D H) (hq:∀ e E D H,Q e E D H->Q' e E D H):W M ctx p g Q' E D H:=by
 rw [W_def] at h ⊢
 exact W3_mono _ p.2 (qe _) hq h
end Go.Am
namespace Go.Am
noncomputable section
variable (X:WX) (Q:Post3) (E:Env) (D:List ADef) (H:AHeap) (I:Inv3) (n:Nat)
theorem q0v:SEQ3 X Q .normal E D H=X true Q E D H:=propext j8
theorem SEQ3_ret:SEQ3 X Q .ret E D H=Q .ret E D H:=propext j8
theorem q42 (l:Nat):SEQ3 X Q (.exit l) E D H=Q (.exit l) E D H:=propext j8
theorem q43 (l:Nat):SEQ3 X Q (.goto l) E D H=Q (.goto l) E D H:=propext j8
theorem q3k (c:Chain):SEQ3 X Q (.panic c) E D H=Q (.panic c) E D H:=propext j8
theorem q0t (i:Nat):BLK3 i Q .normal E D H=Q .normal E D H:=propext j8
theorem BLK3_ret (i:Nat):BLK3 i Q .ret E D H=Q .ret E D H:=propext j8
theorem q4t (i l:Nat):BLK3 i Q (.goto l) E D H=Q (.goto l) E D H:=propext j8
theorem q3e (i:Nat) (c:Chain):BLK3 i Q (.panic c) E D H=Q (.panic c) E D H:=propext j8
theorem q4s (i l:Nat):BLK3 i Q (.exit l) E D H=if i=l then Q .normal E D H else Q (.exit l) E D H:=by
 show Q (cond (Nat.beq i l) .normal (.exit l)) E D H=_
 by_cases h:i=l
 ·subst h;simp
 ·rw [qo h,qiv h];rfl
section
variable (M:Mac) (rs:List ARes) (Q:AEnd->AHeap->Prop) (P:List AV->Prop) (R:AV->AHeap->Prop)
theorem FIN3_ret:FIN3 M rs Q .ret E [] H=RES3 E H rs fun l=>Q (.ret (tupled l)) H:=propext j8
theorem q0u:FIN3 M rs Q .normal E [] H=RES3 E H rs fun l=>Q (.ret (tupled l)) H:=propext j8
theorem q3f (c:Chain):FIN3 M rs Q (.panic c) E [] H=Q (.panic c) H:=propext j8
theorem RES3_nil:RES3 E H [] P=P []:=propext j8
theorem RES3_tmp (t:Nat):RES3 E H (.tmp t::rs) P=LK true (lk E t) fun _ v=>RES3 E H rs fun vs=>P (v::vs):=propext j8
theorem q3i (t:Nat):RES3 E H (.cell1 t::rs) P=LK true (lk E t) fun _ v=>B3 true (Op.load1 [v] H) fun _ v=>RES3 E H rs fun vs=>P (v::vs):=propext j8
theorem q3j (n t:Nat):RES3 E H (.cellN n t::rs) P=LK true (lk E t) fun _ v=>B3 true (Op.loadN n [v] H) fun _ v=>RES3 E H rs fun vs=>P (v::vs):=propext j8
theorem RT3_ret (v:AV):RT3 R (.ret v) H=R v H:=propext j8
end
theorem cast0:((0:Nat):Int)=0:=rfl
theorem xx (l:List AV):AV.cells (.agg l)=l:=rfl
theorem q5a (k:IntKind) (n:Int):AV.cells (.int k n)=[.int k n]:=rfl
theorem q3t (b:Bool):AV.cells (.bool b)=[.bool b]:=rfl
theorem q5c (s:List UInt8):AV.cells (.str s)=[.str s]:=rfl
theorem q5b (b o:Nat):AV.cells (.ptr b o)=[.ptr b o]:=rfl
def LQ3 (I:Nat->Env->AHeap->Prop) (D:List ADef) (n:Nat) (Q:Post3):Post3:=fun e E D' H=>match e with
 | .normal=>D'=D /\ ∃ m E',I m E' H/\SUB E' E/\m<n
 | e=>Q e E D' H
theorem LOOP3.intro {M:Mac} {ctx:Ctx} {p:Kp × ACode} {Q:Post3} {E:Env} {D:List ADef} {H:AHeap} (I:Nat->Env->AHeap->Prop) (h0:∃ n E0,I n E0 H/\SUB E0 E) (h:∀ n E H,I n E H->W M ctx p true (LQ3 I D n Q) E D H):LOOP3 (W M ctx p) Q E D H:=by
 obtain ⟨n,E0,h1,h2⟩:=h0
 refine ⟨fun n E D' H=>D'=D/\I n E H,⟨n,E0,⟨rfl,h1⟩,h2.ss⟩,fun n E D' H ⟨e,hi⟩=>?_⟩
 subst e
 refine W.mono (h n E H hi) fun e E D'' H hq=>?_
 cases e with
 | normal=>obtain ⟨q,m,E',a,b,c⟩:=hq;exact ⟨m,E',⟨q,a⟩,b.ss,c⟩
 | _=>exact hq
def LNP (P:Env->List ADef->AHeap->Prop) (Q:Post3):Post3:=fun e E D H=>match e with
 | .normal=>P E D H
 | e=>Q e E D H
theorem q3g (P:Env->List ADef->AHeap->Prop) (Q:Post3) (E:Env) (D:List ADef) (H:AHeap):LNP P Q .normal E D H=P E D H:=propext j8
theorem LNP_ret (P:Env->List ADef->AHeap->Prop) (Q:Post3) (E:Env) (D:List ADef) (H:AHeap):LNP P Q .ret E D H=Q .ret E D H:=propext j8
theorem LNP_exit (P:Env->List ADef->AHeap->Prop) (Q:Post3) (E:Env) (D:List ADef) (H:AHeap) (l:Nat):LNP P Q (.exit l) E D H=Q (.exit l) E D H:=propext j8
def LN (X:WX) (Q:Post3):Nat->Env->List ADef->AHeap->Prop
 | 0,_,_,_=>False
 | n+1,E,D,H=>X true (LNP (LN X Q n) Q) E D H
theorem LN_succ (X:WX) (Q:Post3) (n:Nat) (E:Env) (D:List ADef) (H:AHeap):LN X Q (n+1) E D H=X true (LNP (LN X Q n) Q) E D H:=propext j8
theorem q3h (I:Nat->Env->AHeap->Prop) (D:List ADef) (n:Nat) (Q:Post3) (E:Env) (H:AHeap):LQ3 I D n Q .normal E D H = ∃ m E',I m E' H/\SUB E' E/\m<n:=propext ⟨fun h=>h.2,fun h=>⟨rfl,h⟩⟩
theorem LQ3_ret (I:Nat->Env->AHeap->Prop) (D D':List ADef) (n:Nat) (Q:Post3) (E:Env) (H:AHeap):LQ3 I D n Q .ret E D' H=Q .ret E D' H:=propext j8
theorem LQ3_exit (I:Nat->Env->AHeap->Prop) (D D':List ADef) (n:Nat) (Q:Post3) (E:Env) (H:AHeap) (l:Nat):LQ3 I D n Q (.exit l) E D' H=Q (.exit l) E D' H:=propext j8
theorem LQ3_goto (I:Nat->Env->AHeap->Prop) (D D':List ADef) (n:Nat) (Q:Post3) (E:Env) (H:AHeap) (l:Nat):LQ3 I D n Q (.goto l) E D' H=Q (.goto l) E D' H:=propext j8
theorem q4z (I:Nat->Env->AHeap->Prop) (D D':List ADef) (n:Nat) (Q:Post3) (E:Env) (H:AHeap) (c:Chain):LQ3 I D n Q (.panic c) E D' H=Q (.panic c) E D' H:=propext j8
theorem CTL3:(∀ {α:Type} (a:α) (K:Bool -> α->Prop),LK true (some a) K=K true a)/\(∀ {α:Type} (a:α) (K:Bool -> α->Prop),B3 true (some a) K=K true a)/\(∀ {α β:Type} (a:α) (b:β) (K:Bool -> α -> β->Prop),B32 true (some (a,b)) K=K true a b)/\(∀ (A B:Bool->Prop),IF3 true (AV.bool true) A B=A true)/\(∀ (A B:Bool->Prop),IF3 true (AV.bool false) A B=B true)/\(∀ (A B:Bool->Prop),IG3 true true A B=A true)/\(∀ (A B:Bool->Prop),IG3 true false A B=B true)/\(∀ (v:AV) (K:Bool->Prop),CK3 true (some v) (some v) K=K true)/\(∀ (e:Nat) (z:List AV) (H:AHeap) (K:Bool->AV->AHeap->Prop),A3 true e z H K=K true (AV.ptr H.next 0) (H.alloc (AObj.row z e (0,0) true)))/\(∀ {α:Type} (F:α->Prop) (K:α),JN F K=F K)/\(∀ (Q:Post3) (e:AExit) (E:Env) (D:List ADef) (H:AHeap),GO3 true Q e E D H=Q e E D H)/\(∀ (g:Nat) (first cap args:List AV) (K:Bool->AFn->List AV->Prop),V3 true (AV.fn (AFn.func g) first cap::args) K=K true (AFn.func g) (first++(args++cap)))/\(∀ (l:Nat) (first args:List AV) (K:Bool->AFn->List AV->Prop),V3 true (AV.fn (AFn.yield l) first []::args) K=K true (AFn.yield l) (first++args))/\(∀ (M:Mac) (name:String) (t:Nat) (v:AV) (args:List AV) (K:Bool->AFn->List AV->Prop),N3 M true name (AV.iface t v::args) K=B3 true (M.meth t name) fun m g=>K m (AFn.func g) (v::args))/\(∀ (k t:Nat) (v:AV) (E:Env),lk ((k,v)::E) t=if k=t then some v else lk E t)/\(∀ (t:Nat),lk [] t=none)/\(∀ (k:Nat) (v:AV) (r E:Env),SUB ((k,v)::r) E=(lk E k=some v/\SUB r E))/\(∀ (E:Env),SUB [] E=True)/\(∀ (X:WX) (Q:Post3) (E:Env) (D:List ADef) (H:AHeap),SEQ3 X Q AExit.normal E D H=X true Q E D H)/\(∀ (X:WX) (Q:Post3) (E:Env) (D:List ADef) (H:AHeap),SEQ3 X Q AExit.ret E D H=Q AExit.ret E D H)/\(∀ (X:WX) (Q:Post3) (E:Env) (D:List ADef) (H:AHeap) (l:Nat),SEQ3 X Q (AExit.exit l) E D H=Q (AExit.exit l) E D H)/\(∀ (X:WX) (Q:Post3) (E:Env) (D:List ADef) (H:AHeap) (l:Nat),SEQ3 X Q (AExit.goto l) E D H=Q (AExit.goto l) E D H)/\(∀ (X:WX) (Q:Post3) (E:Env) (D:List ADef) (H:AHeap) (c:Chain),SEQ3 X Q (AExit.panic c) E D H=Q (AExit.panic c) E D H)/\(∀ (Q:Post3) (E:Env) (D:List ADef) (H:AHeap) (i:Nat),BLK3 i Q AExit.normal E D H=Q AExit.normal E D H)/\(∀ (Q:Post3) (E:Env) (D:List ADef) (H:AHeap) (i:Nat),BLK3 i Q AExit.ret E D H=Q AExit.ret E D H)/\(∀ (Q:Post3) (E:Env) (D:List ADef) (H:AHeap) (i l:Nat),BLK3 i Q (AExit.goto l) E D H=Q (AExit.goto l) E D H)/\(∀ (Q:Post3) (E:Env) (D:List ADef) (H:AHeap) (i:Nat) (c:Chain),BLK3 i Q (AExit.panic c) E D H=Q (AExit.panic c) E D H)/\(∀ (Q:Post3) (E:Env) (D:List ADef) (H:AHeap) (i l:Nat),BLK3 i Q (AExit.exit l) E D H=if i=l then Q AExit.normal E D H else Q (AExit.exit l) E D H)/\(∀ (P:Env->List ADef->AHeap->Prop) (Q:Post3) (E:Env) (D:List ADef) (H:AHeap),LNP P Q AExit.normal E D H=P E D H)/\(∀ (P:Env->List ADef->AHeap->Prop) (Q:Post3) (E:Env) (D:List ADef) (H:AHeap),LNP P Q AExit.ret E D H=Q AExit.ret E D H)/\(∀ (P:Env->List ADef->AHeap->Prop) (Q:Post3) (E:Env) (D:List ADef) (H:AHeap) (l:Nat),LNP P Q (AExit.exit l) E D H=Q (AExit.exit l) E D H)/\(∀ (X:WX) (Q:Post3) (n:Nat) (E:Env) (D:List ADef) (H:AHeap),LN X Q (n+1) E D H=X true (LNP (LN X Q n) Q) E D H)/\(∀ (I:Nat->Env->AHeap->Prop) (D:List ADef) (n:Nat) (Q:Post3) (E:Env) (H:AHeap),LQ3 I D n Q AExit.normal E D H = ∃ m E',I m E' H/\SUB E' E/\m<n)/\(∀ (I:Nat->Env->AHeap->Prop) (D D':List ADef) (n:Nat) (Q:Post3) (E:Env) (H:AHeap),LQ3 I D n Q AExit.ret E D' H=Q AExit.ret E D' H)/\(∀ (I:Nat->Env->AHeap->Prop) (D D':List ADef) (n:Nat) (Q:Post3) (E:Env) (H:AHeap) (l:Nat),LQ3 I D n Q (AExit.exit l) E D' H=Q (AExit.exit l) E D' H)/\(∀ (I:Nat->Env->AHeap->Prop) (D D':List ADef) (n:Nat) (Q:Post3) (E:Env) (H:AHeap) (l:Nat),LQ3 I D n Q (AExit.goto l) E D' H=Q (AExit.goto l) E D' H)/\(∀ (I:Nat->Env->AHeap->Prop) (D D':List ADef) (n:Nat) (Q:Post3) (E:Env) (H:AHeap) (c:Chain),LQ3 I D n Q (AExit.panic c) E D' H=Q (AExit.panic c) E D' H)/\(∀ (E:Env) (H:AHeap) (M:Mac) (rs:List ARes) (Q:AEnd->AHeap->Prop),FIN3 M rs Q AExit.ret E [] H=RES3 E H rs fun l=>Q (AEnd.ret (tupled l)) H)/\(∀ (E:Env) (H:AHeap) (M:Mac) (rs:List ARes) (Q:AEnd->AHeap->Prop),FIN3 M rs Q AExit.normal E [] H=RES3 E H rs fun l=>Q (AEnd.ret (tupled l)) H)/\(∀ (E:Env) (H:AHeap) (M:Mac) (rs:List ARes) (Q:AEnd->AHeap->Prop) (c:Chain),FIN3 M rs Q (AExit.panic c) E [] H=Q (AEnd.panic c) H)/\(∀ (E:Env) (H:AHeap) (P:List AV->Prop),RES3 E H [] P=P [])/\(∀ (E:Env) (H:AHeap) (rs:List ARes) (P:List AV->Prop) (t:Nat),RES3 E H (ARes.tmp t::rs) P=LK true (lk E t) fun x v=>RES3 E H rs fun vs=>P (v::vs))/\(∀ (E:Env) (H:AHeap) (rs:List ARes) (P:List AV->Prop) (t:Nat),RES3 E H (ARes.cell1 t::rs) P=LK true (lk E t) fun x v=>B3 true (Op.load1 [v] H) fun x v=>RES3 E H rs fun vs=>P (v::vs))/\(∀ (E:Env) (H:AHeap) (rs:List ARes) (P:List AV->Prop) (n t:Nat),RES3 E H (ARes.cellN n t::rs) P=LK true (lk E t) fun x v=>B3 true (Op.loadN n [v] H) fun x v=>RES3 E H rs fun vs=>P (v::vs))/\(∀ (H:AHeap) (R:AV->AHeap->Prop) (v:AV),RT3 R (AEnd.ret v) H=R v H)/\(∀ (E:Env) (K:Bool->AV->Prop) (n:Nat),Lz E n K=LK true (lk E n) K)/\(∀ (E:Env) (K:Bool->AV->Prop) (n:Nat),Ly true E n K=LK true (lk E n) K)/\(∀ (H:AHeap) (K:Bool->AV->Prop) (i:Nat) (a:AV),Fl true i a H K=B3 true (Op.fieldAddr i [a]) fun g x=>B3 g (Op.load1 [x] H) K)/\(∀ (H:AHeap) (K:Bool->AV->Prop) (i:Nat) (a:AV),Nf true i a H K=B3 true (Op.nilCheck [a]) fun g x=>Fl g i x H K)/\(∀ (H:AHeap) (K2:Bool->AV->AHeap->Prop) (i:Nat) (a b:AV),Fs true i a b H K2=B3 true (Op.fieldAddr i [a]) fun g x=>B32 g (Op.store 1 [x,b] H) K2)/\(∀ (H:AHeap) (K2:Bool->AV->AHeap->Prop) (i:Nat) (a b:AV),Ns true i a b H K2=B3 true (Op.nilCheck [a]) fun g x=>Fs g i x b H K2)/\(∀ (H:AHeap) (K:Bool->AV->Prop) (a b:AV),Xl true a b H K=B3 true (Op.indexSl 1 [a,b]) fun g x=>B3 g (Op.load1 [x] H) K)/\(∀ (H:AHeap) (K2:Bool->AV->AHeap->Prop) (a b c:AV),Xs true a b c H K2=B3 true (Op.indexSl 1 [a,b]) fun g x=>B32 g (Op.store 1 [x,c] H) K2)/\(∀ (K:Bool->AV->Prop) (o:BinOp) (a b:AV),Bn true o a b K=B3 true (Op.bin o [a,b]) K)/\(∀ (A B:Bool->Prop) (o:BinOp) (a b:AV),Cb true o a b A B=B3 true (Op.bin o [a,b]) fun g v=>IF3 g v A B)/\(∀ (E:Env) (H:AHeap) (M:Mac) (c:Ctx) (p:Kp × ACode) (Q:Post3) (D:List ADef),Gt true M c p Q E D H=GO3 true (SEQ3 (W M c p) Q) AExit.normal E D H)/\tupled []=AV.tuple []/\(∀ (v:AV),tupled [v]=v) /\ ∀ (a b:AV) (l:List AV),tupled (a::b::l)=AV.tuple (a::b::l) :=
 And.intro @LK_some<|And.intro @B3_some<|And.intro @B32_some<|And.intro IF3_true<|And.intro q4w<|And.intro IG3_true<|And.intro q4x<|And.intro qw5<|And.intro A3_eq<|And.intro @qj<|And.intro GO3_true <|
 And.intro V3_func<|And.intro V3_yield<|And.intro N3_iface<|And.intro qgb<|And.intro lk_nil<|And.intro SUB_cons<|And.intro SUB_nil <|
 And.intro q0v<|And.intro SEQ3_ret<|And.intro q42<|And.intro q43<|And.intro q3k<|And.intro q0t<|And.intro BLK3_ret<|And.intro q4t<|And.intro q3e<|And.intro q4s <|
 And.intro q3g<|And.intro LNP_ret<|And.intro LNP_exit<|And.intro LN_succ<|And.intro q3h<|And.intro LQ3_ret<|And.intro LQ3_exit<|And.intro LQ3_goto<|And.intro q4z<|And.intro FIN3_ret<|And.intro q0u<|And.intro q3f<|And.intro RES3_nil<|And.intro RES3_tmp<|And.intro q3i<|And.intro q3j <|
 And.intro RT3_ret<|And.intro Lz_e<|And.intro Ly_e<|And.intro Fl_e<|And.intro Nf_e<|And.intro Fs_e<|And.intro Ns_e<|And.intro Xl_e<|And.intro Xs_e<|And.intro Bn_e<|And.intro Cb_e<|And.intro Gt_e<|And.intro tup0<|And.intro tup1 tup2
theorem OPS3:(∀ (v:AV),Op.move [v]=some v)/\(∀ (q:Bool) (a b:AV),Op.pick [AV.bool q,a,b]=some (bif q then a else b))/\(∀ (k:IntKind) (a b:Int),Op.bin BinOp.add [AV.int k a,AV.int k b]=some (AV.int k (wrapI k (a+b))))/\(∀ (k:IntKind) (a b:Int),Op.bin BinOp.sub [AV.int k a,AV.int k b]=some (AV.int k (wrapI k (a-b))))/\(∀ (k:IntKind) (a b:Int),Op.bin BinOp.mul [AV.int k a,AV.int k b]=some (AV.int k (wrapI k (a*b))))/\(∀ (k:IntKind) (a b:Int),Op.bin BinOp.eql [AV.int k a,AV.int k b]=some (AV.bool (decide (a=b))))/\(∀ (k:IntKind) (a b:Int),Op.bin BinOp.neq [AV.int k a,AV.int k b]=some (AV.bool (decide (a ≠ b))))/\(∀ (k:IntKind) (a b:Int),Op.bin BinOp.lss [AV.int k a,AV.int k b]=some (AV.bool (decide (a<b))))/\(∀ (k:IntKind) (a b:Int),Op.bin BinOp.leq [AV.int k a,AV.int k b]=some (AV.bool (decide (a<=b))))/\(∀ (k:IntKind) (a b:Int),Op.bin BinOp.gtr [AV.int k a,AV.int k b]=some (AV.bool (decide (b<a))))/\(∀ (k:IntKind) (a b:Int),Op.bin BinOp.geq [AV.int k a,AV.int k b]=some (AV.bool (decide (b<=a))))/\(∀ (k:IntKind) (a:Int) (k':IntKind),Op.wrap k [AV.int k' a]=some (AV.int k (wrapI k a)))/\(∀ (q:Bool),Op.un UnOp.not [AV.bool q]=some (AV.bool !q))/\(∀ (a b:List UInt8),Op.bin BinOp.eql [AV.str a,AV.str b]=some (AV.bool (decide (a=b))))/\(∀ (a b:List UInt8),Op.bin BinOp.neq [AV.str a,AV.str b]=some (AV.bool (decide (a ≠ b))))/\(∀ (s:List UInt8),Op.lenStr [AV.str s]=some (AV.int IntKind.i64 ↑s.length))/\(∀ (f n:Nat) (l:List AV),Op.mkFunc f n l=some (AV.fn (AFn.func f) (List.take n l) (List.drop n l)))/\(∀ (t:Nat) (v:AV),Op.mkIface t [v]=some (AV.iface t v))/\(∀ (off b o:Nat),Op.fieldAddr off [AV.ptr b o]=some (AV.ptr b (o+off)))/\(∀ (off:Nat) (l:List AV),Op.field off none [AV.agg l]=l[off]?)/\(∀ (q:Bool),wantV true (some (AV.bool q))=some q)/\(∀ (q:Bool),wantV false (some (AV.bool q))=some !q)/\(∀ (b:Bool),wantV b (some AV.undef)=some false)/\(∀ (b:Nat),Op.ptrTo b=AV.ptr b 0)/\(∀ (l:List AV),(AV.agg l).cells=l)/\(∀ (k:IntKind) (n:Int),(AV.int k n).cells=[AV.int k n])/\(∀ (b:Bool),(AV.bool b).cells=[AV.bool b])/\(∀ (s:List UInt8),(AV.str s).cells=[AV.str s])/\(∀ (b o:Nat),(AV.ptr b o).cells=[AV.ptr b o])/\(∀ (h:Decidable True),decide True=true)/\(∀ (h:Decidable False),decide False=false)/\(!true)=false/\(!false)=true/\(¬True)=False/\(¬False)=True/\(∀ {α:Type} (a b:α),(a ≠ b) = ¬a=b)/\(∀ (p:Prop),(True/\p)=p)/\(∀ (p:Prop),(p/\True)=p)/\(∀ (p:Prop),(False/\p)=False)/\(∀ (p:Prop),(p/\False)=False)/\(∀ {α:Type} (a b:α),(bif true then a else b)=a)/\(∀ {α:Type} (a b:α),(bif false then a else b)=b)/\(∀ {α:Type} {β:Type} (a:α) (f:α->Option β),(some a).bind f=f a)/\(∀ (n:Nat),n+0=n)/\(∀ (n:Nat),0+n=n)/\(∀ {α:Type} {a:α} {l:List α},(a::l)[0]? = some a)/\(∀ {α:Type} {a:α} {i:Nat} {l:List α},(a::l)[i+1]? = l[i]?)/\(∀ {α:Type} (as:List α),[]++as=as) /\ ∀ {α:Type} {a:α} {as bs:List α},a::as++bs=a::(as++bs) :=
 And.intro o_move<|And.intro o_pick<|And.intro @o_add<|And.intro @o_sub<|And.intro @o_mul<|And.intro @o_eql<|And.intro @o_neq<|And.intro @o_lss<|And.intro @o_leq<|And.intro @o_gtr<|And.intro @o_geq<|And.intro @o_wrap<|And.intro o_not <|
 And.intro o_seql<|And.intro o_sneq<|And.intro o_lenStr<|And.intro o_mkFunc<|And.intro q54<|And.intro q1j<|And.intro o_field1<|And.intro w_true<|And.intro w_false<|And.intro w_undef<|And.intro mkptr <|
 And.intro xx<|And.intro q5a<|And.intro q3t<|And.intro q5c<|And.intro q5b<|And.intro @decide_true<|And.intro @decide_false<|And.intro Bool.not_true<|And.intro Bool.not_false<|And.intro not_true_eq_false<|And.intro not_false_eq_true<|And.intro @ne_eq<|And.intro true_and<|And.intro vn<|And.intro false_and<|And.intro and_false <|
 And.intro @qz<|And.intro @xy<|And.intro @qf<|And.intro kz<|And.intro yv<|And.intro @ke<|And.intro @z5<|And.intro @jj @qci
theorem xh:type_of% cast0/\type_of% CTL3/\type_of% OPS3:=⟨cast0,CTL3,OPS3⟩
section
variable {α:Type} {enc:α->List AV} {e size:Nat} {H0 H H':AHeap} {v:AV} {xs:List α}
theorem BI2.to3 {α β:Type} {m g:Bool} {o:Option (α × β)} {K:Bool -> α -> β->Prop} (h:BI2 m o fun _ a b=>K g a b):B32 g o K:=by
 cases o with
 | none=>exact False.elim h
 | some a=>exact h
theorem append3s {H:AHeap} {e size bytes:Nat} {v:AV} {n:Nat} {cells:List AV} (h:Own H e size v n cells) {x:AV} {k:Nat} {new:List AV} (hx:Sl H size x k new) (hnew:allOne new=true) (hs:0<size)
 (hf:(n+k)*bytes<=140737488355328) (hf':n+k<=140737488355328) {K:Bool->AV->AHeap->Prop} {m:Bool}
 (hk:∀ v' H',Own H' e size v' (n+k) (cells++new)->Fr (OnS v) H H'->(∀ b,OnS v' b->OnS v b\/H.next<=b)->K m v' H'):B32 m (Op.append e size bytes [v,x] H) K :=
 BI2.to3 (m:=m) (qwa h hx hnew hs hf hf' hk)
theorem append3 {H:AHeap} {e size bytes:Nat} {v:AV} {n:Nat} {cells:List AV} (h:Own H e size v n cells) {zero:List AV} {x:AV} (hz:zero.length=size) (hx:x.cells.length=size) (hnew:allOne x.cells=true) (hs:0<size)
 (hf:(n+1)*bytes<=140737488355328) (hf':n+1<=140737488355328) {K:AObj->(Nat->AV)->Bool->AV->AHeap->Prop} {m:Bool}
 (hk:∀ v' H',Own H' e size v' (n+1) (cells++x.cells)->Fr (OnS v) H H'->(∀ b,OnS v' b->OnS v b\/H.next<=b)->K (.row x.cells e (0,0) true) (Op.sliceTo 1 1) m v' H') :
 B32 m (Op.buildSlice e 1 zero [(0,size)] [x]) fun g o mk=>B32 g (Op.append e size bytes [v,mk H.next] (H.alloc o)) (K o mk):=by
 have:=append1 (m:=m) h hz hx hnew hs hf hf' (K:=fun o mk _ v H=>K o mk m v H) hk
 obtain ⟨o,mk,h1,h2⟩:∃ o mk,Op.buildSlice e 1 zero [(0,size)] [x]=some (o,mk)/\BI2 true (Op.append e size bytes [v,mk H.next] (H.alloc o)) (fun _ v H=>K o mk m v H):=by
  unfold BI2 at this
  split at this
  ·rename_i a ha;exact ⟨a.1,a.2,ha,this⟩
  ·exact this.elim
 refine B32.intro h1 ?_
 unfold BI2 at h2
 split at h2
 ·rename_i a ha;exact B32.intro (a:=a.1) (b:=a.2) ha h2
 ·exact h2.elim
end
end
end Go.Am
namespace Go.Am
abbrev OR (c:List AV) (e:Nat):AObj:=.row c e (0,0) true
theorem qn (b o:Nat):Op.nilCheck [.ptr b o]=some (.ptr b o):=rfl
theorem xa (i:Nat) (l:List AV):Op.extract i [.tuple l]=l[i]?:=q53 i l
end Go.Am
