/- B4: Logic Logic2 Val Sim Val2 Val3 Iter Logic3 Logic4 Logic5 Mono3 Sim3 Mem3. -/
import Derived.Test.YtiibohocdbaekaaAmKB2
import Derived.Test.YtiibohocdbaekaaAmKB1
set_option linter.unusedVariables false
set_option linter.unusedSimpArgs false
namespace Go.Am
def aB:Bool:=true
def bt {α:Type} (m:Bool) (o:Option α) (K:α->Prop):Prop:=match o with
 | some a=>K a
 | none=>False
def eX {α β:Type} (m:Bool) (o:Option (α × β)) (K:α -> β->Prop):Prop:=match o with
 | some a=>K a.1 a.2
 | none=>False
def CM (m:Bool) (q:Bool) (A B:Prop):Prop:=match q with
 | true=>A
 | false=>B
@[congr] theorem Dx {α:Type} {m m':Bool} {o o':Option α} {K:α->Prop} (hm:m=m') (h:o=o'):bt m o K=bt m' o' K:=by rw [h,hm]
@[congr] theorem AL {α β:Type} {m m':Bool} {o o':Option (α × β)} {K:α -> β->Prop} (hm:m=m') (h:o=o'):eX m o K=eX m' o' K:=by rw [h,hm]
@[congr] theorem FF {m m' q q':Bool} {A B:Prop} (hm:m=m') (h:q=q'):CM m q A B=CM m' q' A B:=by rw [h,hm]
theorem bt.elim {α:Type} {m:Bool} {o:Option α} {K:α->Prop} (h:bt m o K):∃ a,o=some a/\K a:=by
 cases o with
 | none=>exact False.elim h
 | some a=>exact ⟨a,rfl,h⟩
theorem eX.elim {α β:Type} {m:Bool} {o:Option (α × β)} {K:α -> β->Prop} (h:eX m o K):∃ a b,o=some (a,b)/\K a b:=by
 cases o with
 | none=>exact False.elim h
 | some a=>exact ⟨a.1,a.2,rfl,h⟩
theorem bt.intro {α:Type} {m:Bool} {o:Option α} {K:α->Prop} {a:α} (h:o=some a) (hk:K a):bt m o K:=by subst h;exact hk
theorem eX.intro {α β:Type} {m:Bool} {o:Option (α × β)} {K:α -> β->Prop} {a:α} {b:β} (h:o=some (a,b)) (hk:K a b):eX m o K:=by subst h;exact hk
theorem CM.cases {m:Bool} {q:Bool} {A B:Prop} (h1:q=true->A) (h2:q=false->B):CM m q A B:=by
 cases q with
 | true=>exact h1 rfl
 | false=>exact h2 rfl
def asBool:AV->Option Bool
 | .bool q=>some q
 | _=>none
noncomputable section
structure aM where
 prog:fK
 told:bE
 mute:Nat->Bool
 ok:∀ f vs up H,mute f=false->told f vs up H=none
def aM.call (M:aM) (n:Nat):bE:=fV M.prog M.told n
def aM.func (M:aM) (f:Nat):Option aq:=cond (M.mute f) none (M.prog.func f)
def aM.lH (M:aM):Nat->String->Option Nat:=M.prog.lH
theorem aM.pE {M:aM} {f:Nat} {fn:aq} (h:M.func f=some fn):M.mute f=false/\M.prog.func f=some fn:=by
 unfold aM.func at h;cases hm:M.mute f with
 | true=>rw [hm] at h;cases h
 | false=>rw [hm] at h;exact ⟨rfl,h⟩
theorem aM.qB {M:aM} {f:Nat} (h:M.mute f=false) (n:Nat) (vs:List AV) (up:Option aC) (H:AHeap):M.call (n+1) f vs up H=yL M.prog (M.call n) n f vs up H:=by
 show (match M.told f vs up H with|some r=>some r|none=>yL M.prog (fV M.prog M.told n) n f vs up H)=_;rw [M.ok f vs up H h];rfl
variable (AP:aM)
def pS (n k:Nat) (ctx:Ctx):RT:=⟨AP.prog,AP.call n,rounds AP.prog (AP.call n) n k,n,ctx⟩
def nh (f:Nat) (vs:List AV) (up:Option aC) (H:AHeap) (e:bu) (up':Option aC) (H':AHeap):Prop:=∃ n0,∀ n,n0<=n->AP.call n f vs up H=some (e,up',H')
def iK (f:Nat) (vs:List AV) (H:AHeap) (e:bu) (H':AHeap):Prop:=nh AP f vs none H e none H'
def mr (l:Nat) (vs:List AV) (H:AHeap) (e:bu) (H':AHeap):Prop:=∃ n0,∀ n k,n0<=n->n0<=k->rounds AP.prog (AP.call n) n k vs l H=some (e,H')
def nK:fk->List AV->AHeap->bu->AHeap->Prop
 | .func g=>iK AP g
 | .yield l=>mr AP l
def im (m:Bool) (f:fk) (vs:List AV) (H:AHeap) (K:AV->AHeap->Prop) (E:aC->AHeap->Prop):Prop :=
 ∃ e H',nK AP f vs H e H'/\match e with
  | .ret v=>K v H'
  | .panic c=>E c H'
@[congr] theorem AX {AP:aM} {m m':Bool} {f:fk} {vs vs':List AV} {H:AHeap} {K:AV->AHeap->Prop} {E:aC->AHeap->Prop} (hm:m=m') (h:vs=vs'):im AP m f vs H K E=im AP m' f vs' H K E:=by rw [h,hm]
def Dv (m:Bool) (vs:List AV) (K:fk->List AV->Prop):Prop:=match vs with
 | .fn (.func g) first cap::args=>K (.func g) (first++(args++cap))
 | .fn (.yield l) first []::args=>K (.yield l) (first++args)
 | _=>False
@[congr] theorem FB {m m':Bool} {vs vs':List AV} {K:fk->List AV->Prop} (hm:m=m') (h:vs=vs'):Dv m vs K=Dv m' vs' K:=by rw [h,hm]
def Cj (m:Bool) (name:String) (vs:List AV) (K:fk->List AV->Prop):Prop:=match vs with
 | .iface t v::args=>bt aB (AP.lH t name) λ g=>K (.func g) (v::args)
 | _=>False
@[congr] theorem E8 {AP:aM} {m m':Bool} {name:String} {vs vs':List AV} {K:fk->List AV->Prop} (hm:m=m') (h:vs=vs'):Cj AP m name vs K=Cj AP m' name vs' K:=by rw [h,hm]
def kE (tm:T AV):List bD->(List AV->Prop)->Prop
 | [],K=>K []
 | .tmp t::xs,K=>bt aB (tm.get t) λ v=>kE tm xs λ vs=>K (v::vs)
 | .const v::xs,K=>kE tm xs λ vs=>K (v::vs)
 | .c7 g::xs,K=>kE tm xs λ vs=>K (.ptr g 0::vs)
 | .func f::xs,K=>kE tm xs λ vs=>K (.fn (.func f) [] []::vs)
theorem kE.elim {tm:T AV}:∀ {l:List bD} {K:List AV->Prop},kE tm l K -> ∃ vs,gV tm l=some vs/\K vs
 | [],K,h=>⟨[],rfl,h⟩
 | .tmp t::xs,K,h=>by
  obtain ⟨v,hv,h⟩:=bt.elim (m:=aB) h;obtain ⟨vs,h1,h2⟩:=kE.elim h;exact ⟨v::vs,by simp [gV,lA,hv,h1],h2⟩
 | .const v::xs,K,h=>by
  obtain ⟨vs,h1,h2⟩:=kE.elim (l:=xs) h;exact ⟨v::vs,by simp [gV,lA,h1],h2⟩
 | .c7 v::xs,K,h=>by
  obtain ⟨vs,h1,h2⟩:=kE.elim (l:=xs) h;exact ⟨_,by simp [gV,lA,h1],h2⟩
 | .func v::xs,K,h=>by
  obtain ⟨vs,h1,h2⟩:=kE.elim (l:=xs) h;exact ⟨_,by simp [gV,lA,h1],h2⟩
def vY (tm:T AV) (x:bD) (K:AV->Prop):Prop:=match x with
 | .tmp t=>bt aB (tm.get t) K
 | .const v=>K v
 | .c7 g=>K (.ptr g 0)
 | .func f=>K (.fn (.func f) [] [])
theorem vY.elim {tm:T AV} {x:bD} {K:AV->Prop} (h:vY tm x K):∃ v,lA tm x=some v/\K v:=by
 cases x with
 | tmp t=>exact bt.elim (m:=aB) h
 | const v=>exact ⟨v,rfl,h⟩
 | c7 v=>exact ⟨_,rfl,h⟩
 | func v=>exact ⟨_,rfl,h⟩
abbrev bX:=aH->St->Prop
def wQ (ps:Option (List Nat)) (tm:T AV) (aS:List aN) (up:Option aC) (Q:bX) (c:aC) (H:AHeap):Prop:=match ps with
 | some ds=>Q (.panic c) ⟨forget ds tm,aS,up,H⟩
 | none=>False
def nG (m:Bool) (ctx:Ctx) (up:Option aC) (K:AV->Option aC->Prop):Prop:=ctx.round=none/\match up with
 | some ((v,false)::older)=>K v (some ((v,true)::older))
 | _=>K .nili up
@[congr] theorem Bg {m m':Bool} {ctx:Ctx} {up up':Option aC} {K:AV->Option aC->Prop} (hm:m=m') (h:up=up'):nG m ctx up K=nG m' ctx up' K:=by rw [h,hm]
def rU (m:Bool) (ctx:Ctx) (vs:List AV) (aS:List aN) (K:List aN->Prop):Prop:=ctx.round=none/\match vs with
 | .fn (.func f) first cap::args=>K (.fn (.func f) (first++(args++cap))::aS)
 | _=>False
@[congr] theorem Dl {m m':Bool} {ctx:Ctx} {vs vs':List AV} {aS:List aN} {K:List aN->Prop} (hm:m=m') (h:vs=vs'):rU m ctx vs aS K=rU m' ctx vs' aS K:=by rw [h,hm]
def eh (vs:List AV) (H:AHeap) (E:aC->AHeap->Prop):Prop:=match vs with
 | [.iface t v]=>E [(.iface t v,false)] H
 | _=>False
@[congr] theorem yE {vs vs':List AV} {H:AHeap} {E:aC->AHeap->Prop} (h:vs=vs'):eh vs H E=eh vs' H E:=by rw [h]
def kD (ctx:Ctx) (dst:Option Nat) (ps:Option (List Nat)) (st:St) (Q:bX) (K:St->Prop) (vs:List AV):dH->Prop
 | .pure f=>bt aB (f vs) λ v=>K ⟨cU dst v st.tm,st.aS,st.up,st.H⟩
 | .read f=>bt aB (f vs st.H) λ v=>K ⟨cU dst v st.tm,st.aS,st.up,st.H⟩
 | .alloc f=>eX aB (f vs) λ o mk=>K ⟨cU dst (mk st.H.next) st.tm,st.aS,st.up,st.H.alloc o⟩
 | .eF f=>eX aB (f vs st.H) λ v H=>K ⟨cU dst v st.tm,st.aS,st.up,H⟩
 | .eM g=>im AP aB (.func g) vs st.H (λ v H=>K ⟨cU dst v st.tm,st.aS,st.up,H⟩) (wQ ps st.tm st.aS st.up Q)
 | .eN=>Dv aB vs λ f vs=>im AP aB f vs st.H (λ v H=>K ⟨cU dst v st.tm,st.aS,st.up,H⟩) (wQ ps st.tm st.aS st.up Q)
 | .invoke name=>Cj AP aB name vs λ f vs=>im AP aB f vs st.H (λ v H=>K ⟨cU dst v st.tm,st.aS,st.up,H⟩) (wQ ps st.tm st.aS st.up Q)
 | .recover=>match vs with
  | []=>nG aB ctx st.up λ v up=>K ⟨cU dst v st.tm,st.aS,up,st.H⟩
  | _=>False
 | .defer=>rU aB ctx vs st.aS λ aS=>K ⟨cU dst .undef st.tm,aS,st.up,st.H⟩
 | .panic=>eh vs st.H (wQ ps st.tm st.aS st.up Q)
def Iw (dst:Option Nat) (st:St) (vs:List AV):dH->Prop
 | .read f=>match dst with
  | some d=>bt aB (f vs st.H) λ v=>bt aB (st.tm.get d) λ v'=>v=v'
  | none=>False
 | _=>False
def oP (ctx:Ctx) (s:aU) (st:St) (Q:bX) (K:St->Prop):Prop :=
 match s.eJ with
 | false=>match s.guard with
  | none=>kE st.tm s.args λ vs=>kD AP ctx s.dst s.bM st Q K vs s.op
  | some g=>bt aB (aA g.2 (st.tm.get g.1)) λ w=>CM aB w (kE st.tm s.args λ vs=>kD AP ctx s.dst s.bM st Q K vs s.op) (K ⟨cU s.dst .undef st.tm,st.aS,st.up,st.H⟩)
 | true=>match s.guard with
  | none=>kE st.tm s.args λ vs=>Iw s.dst st vs s.op/\K st
  | some g=>bt aB (aA g.2 (st.tm.get g.1)) λ w=>CM aB w (kE st.tm s.args λ vs=>Iw s.dst st vs s.op/\K st) (s.dst.isSome=true/\K st)
def lQ (ctx:Ctx):List aU->St->bX->Prop
 | [],st,Q=>Q .normal st
 | s::rest,st,Q=>oP AP ctx s st Q λ st'=>lQ ctx rest st' Q
def KL (W:St->bX->Prop) (Q:bX):bX:=λ e st=>match e with
 | .normal=>W st Q
 | e=>Q e st
def BLK (id:Nat) (Q:bX):bX:=λ e st=>match e with
 | .exit id'=>Q (cond (Nat.beq id id') .normal (.exit id')) st
 | e=>Q e st
def SCP (b:ah) (Q:bX):bX:=λ e st=>match e with
 | .goto l=>wT b l=false/\Q (.goto l) st
 | e=>Q e st
def gg (ae:Option (List Nat)) (st:St):St:=match ae with
 | none=>st
 | some ks=>{ st with tm:=LG st.tm ks .nil }
def CY (W:St->bX->Prop) (ae:Option (List Nat)) (st:St) (Q:bX):Prop :=
 ∃ I:Nat->St->Prop,(∃ n,I n st) /\ ∀ n st,I n st->W (gg ae st) λ e st'=>match e with
  | .normal=>∃ m,m<n/\I m st'
  | e=>Q e st'
def ME (st:St) (aS:List aN) (l:Nat) (Q:bX) (e:bu) (H:AHeap):Prop:=match e with
 | .panic c=>Q (.panic c) { st with aS:=aS,H:=H }
 | .ret _=>∃ s p f k tm d,H.get l=some (.loop s p f k tm d)/\s ≠ .busy/\Q (kM p) { st with aS:=aS,H:=H.set l (.loop .exhausted p f k tm d) }
def ij (ctx:Ctx) (st:St) (k:Nat) (H0:AHeap) (aS:List aN) (d:Nat) (Q:bX):AV->Prop
 | .fn (.func g) first cap=>∃ e H',iK AP g (first++(.fn (.yield H0.next) [] []::cap)) (H0.alloc (.loop .ready none ctx.fn k st.tm d)) e H'/\ME st aS H0.next Q e H'
 | _=>False
def AJ (ctx:Ctx) (k:Nat) (st:St) (Q:bX) (v:AV):Prop:=match ctx.round with
 | none=>ij AP ctx st k (st.H.alloc (.deferred (some []))) (.fp st.H.next::st.aS) st.H.next Q v
 | some l=>bt aB (rJ st.H l) λ d=>ij AP ctx st k st.H st.aS d Q v
def WP (ctx:Ctx):ah->St->bX->Prop
 | .skip,st,Q=>Q .normal st
 | .label _,st,Q=>Q .normal st
 | .region steps,st,Q=>lQ AP ctx steps st Q
 | .seq a b,st,Q=>WP ctx a st (KL (WP ctx b) Q)
 | .cond c a b,st,Q=>vY st.tm c λ v=>bt aB (asBool v) λ q=>CM aB q (WP ctx a st Q) (WP ctx b st Q)
 | .block id b,st,Q=>WP ctx b st (BLK id Q)
 | .loop ae b,st,Q=>CY (WP ctx b) ae st Q
 | .exit id,st,Q=>Q (.exit id) st
 | .goto l,st,Q=>Q (.goto l) st
 | .ret,st,Q=>Q .ret st
 | .stuck,_,_=>False
 | .scope b,st,Q=>WP ctx b st (SCP b Q)
 | .rangeFunc f k,st,Q=>vY st.tm f λ v=>AJ AP ctx k st Q v
section
variable (ctx:Ctx) (st:St) (Q:bX)
theorem N9 (s:aU) (l:List aU):lQ AP ctx (s::l) st Q=oP AP ctx s st Q λ st'=>lQ AP ctx l st' Q:=propext j4
end
def EX (ctx:Ctx) (c:ah) (st:St) (r:aH × St):Prop:=∃ n0,∀ n k,n0<=n->n0<=k->(bf c).run (pS AP n k ctx) st=some r
def EXS (ctx:Ctx) (l:List aU) (st:St) (r:aH × St):Prop:=∃ n0,∀ n k,n0<=n->n0<=k->(dY l).run (pS AP n k ctx) st=some r
theorem nK.run {AP:aM} {f:fk} {vs:List AV} {H:AHeap} {e:bu} {H':AHeap} (h:nK AP f vs H e H') :
 ∃ n0,∀ n k,n0<=n->n0<=k->bS (AP.call n) (rounds AP.prog (AP.call n) n k) f vs H=some (e,H'):=by
 cases f with
 | func g=>obtain ⟨n0,h⟩:=h;exact ⟨n0,λ n k hn _=>by simp [bS,h n hn]⟩
 | yield l=>obtain ⟨n0,h⟩:=h;exact ⟨n0,λ n k hn hk=>by simp [bS,h n k hn hk]⟩
theorem qy9:(∀ v,bJ v v=true)/\(∀ l,c9 l l=true):=by
 have e1:∀ n,Nat.beq n n=true:=λ n=>by simp
 have e2:∀ k,oa k k=true:=λ k=>by cases k<;>rfl
 have e3:∀ i,pN i i=true:=λ i=>by rw [zL];simp
 have e4:∀ s,rz s s=true:=λ s=>by rw [F9];simp
 refine ⟨λ v=>?_,λ l=>?_⟩
 ·refine AV.rec (motive_1:=λ v=>bJ v v=true) (motive_2:=λ l=>c9 l l=true) ?_ ?_ ?_ ?_ ?_ ?_ ?_ ?_ ?_ ?_ ?_ ?_ ?_ ?_ ?_ ?_ ?_ ?_ ?_ v
  all_goals (intros;first|rfl|(simp only [bJ,c9,e1,e2,e3,e4,jd,beq_self_eq_true, *];done) | (rename_i f _ _ _ _;cases f<;>simp only [bJ,c9,e1,jd, *]))
 ·refine AV.rec_1 (motive_1:=λ v=>bJ v v=true) (motive_2:=λ l=>c9 l l=true) ?_ ?_ ?_ ?_ ?_ ?_ ?_ ?_ ?_ ?_ ?_ ?_ ?_ ?_ ?_ ?_ ?_ ?_ ?_ l
  all_goals (intros;first|rfl|(simp only [bJ,c9,e1,e2,e3,e4,jd,beq_self_eq_true, *];done) | (rename_i f _ _ _ _;cases f<;>simp only [bJ,c9,e1,jd, *]))
theorem q8q (v:AV):bJ v v=true:=qy9.1 v
theorem Iw.run {d:Option Nat} {st:St} {vs:List AV} {op:dH} (h:Iw d st vs op):∃ t,d=some t/\kK (T.iW (T.path t)).run st vs op=true:=by
 cases op with
 | read f =>
  cases d with
  | none=>exact False.elim h
  | some t =>
   refine ⟨t,rfl,?_⟩;obtain ⟨v,h1,h⟩:=bt.elim (m:=aB) h;obtain ⟨v',h2,h⟩:=bt.elim (m:=aB) h;subst h;have h2':(T.iW (T.path t)).run st.tm=some v:=by rw [T.fN];exact h2
   simp [kK,h1,h2',q8q]
 | _=>exact False.elim h
theorem kD.run {AP:aM} {ctx:Ctx} {dst:Option Nat} {ps:Option (List Nat)} {st:St} {Q:bX} {K:St->Prop} {vs:List AV} {op:dH} (h:kD AP ctx dst ps st Q K vs op)
 {kk:Nat->Nat->St->dR} (hK:∀ st,K st -> ∃ e st',Q e st' /\ ∃ n0,∀ n k,n0<=n->n0<=k->kk n k st=some (e,st')) :
 ∃ e st',Q e st' /\ ∃ n0,∀ n k,n0<=n->n0<=k->(kH (gO dst).run ps op).run (pS AP n k ctx) st (kk n k) vs=some (e,st'):=by
 have hp:∀ v tm,(gO dst).run v tm=cU dst v tm:=N7 dst;have call:∀ {f vs},im AP aB f vs st.H (λ v H=>K ⟨cU dst v st.tm,st.aS,st.up,H⟩) (wQ ps st.tm st.aS st.up Q) ->
  ∃ e st',Q e st' /\ ∃ n0,∀ n k,n0<=n->n0<=k->((bS (AP.call n) (rounds AP.prog (AP.call n) n k) f vs st.H).bind λ r=>dn (gO dst).run ps st (kk n k) r)=some (e,st'):=by
  rintro f vs ⟨e,H',h1,h⟩;obtain ⟨n0,h1⟩:=h1.run;cases e with
  | ret v =>
   obtain ⟨e,st',hq,n1,h2⟩:=hK _ h;refine ⟨e,st',hq,max n0 n1,λ n k hn hk=>?_⟩;rw [h1 n k (by omega) (by omega)]
   simpa [dn,hp] using h2 n k (by omega) (by omega)
  | panic c =>
   cases ps with
   | none=>exact False.elim h
   | some ds =>
    refine ⟨_,_,h,n0,λ n k hn hk=>?_⟩;rw [h1 n k (by omega) (by omega)];simp [dn]
 cases op with
 | pure f =>
  obtain ⟨v,h1,h⟩:=bt.elim (m:=aB) h;obtain ⟨e,st',hq,n1,h2⟩:=hK _ h;exact ⟨e,st',hq,n1,λ n k hn hk=>by simp [kH,tS,h1,hp,h2 n k hn hk]⟩
 | read f =>
  obtain ⟨v,h1,h⟩:=bt.elim (m:=aB) h;obtain ⟨e,st',hq,n1,h2⟩:=hK _ h;exact ⟨e,st',hq,n1,λ n k hn hk=>by simp [kH,tD,h1,hp,h2 n k hn hk]⟩
 | alloc f =>
  simp only [kD] at h;obtain ⟨o,mk,h1,h⟩:=eX.elim (m:=aB) h;obtain ⟨e,st',hq,n1,h2⟩:=hK _ h;exact ⟨e,st',hq,n1,λ n k hn hk=>by simp [kH,oR,h1,hp,h2 n k hn hk]⟩
 | eF f =>
  simp only [kD] at h;obtain ⟨o,mk,h1,h⟩:=eX.elim (m:=aB) h;obtain ⟨e,st',hq,n1,h2⟩:=hK _ h;exact ⟨e,st',hq,n1,λ n k hn hk=>by simp [kH,Dt,h1,hp,h2 n k hn hk]⟩
 | eM f=>exact call h
 | eN =>
  simp only [kD,Dv] at h;split at h
  ·exact call h
  ·exact call h
  ·exact False.elim h
 | invoke name =>
  simp only [kD,Cj] at h;split at h
  ·obtain ⟨g,hg,h⟩:=bt.elim (m:=aB) h;obtain ⟨e,st',hq,n1,h2⟩:=call h;exact ⟨e,st',hq,n1,λ n k hn hk=>by simpa [kH,mC,pS,(show AP.prog.lH _ name=some g from hg)] using h2 n k hn hk⟩
  ·exact False.elim h
 | recover =>
  simp only [kD] at h;split at h
  ·obtain ⟨hr,h⟩:=h;split at h
   ·rename_i v older hup;obtain ⟨e,st',hq,n1,h2⟩:=hK _ h;exact ⟨e,st',hq,n1,λ n k hn hk=>by simpa [kH,I8,pS,hr,Gg,hup,hp] using h2 n k hn hk⟩
   ·rename_i hup;obtain ⟨e,st',hq,n1,h2⟩:=hK _ h;refine ⟨e,st',hq,n1,λ n k hn hk=>?_⟩;have:Gg (gO dst).run st=⟨cU dst .nili st.tm,st.aS,st.up,st.H⟩:=by
     unfold Gg;split
     ·rename_i v older hu;exact (hup _ _ hu).elim
     ·rw [hp]
    simpa [kH,I8,pS,hr,this] using h2 n k hn hk
  ·exact False.elim h
 | defer =>
  obtain ⟨hr,h⟩:=h;split at h
  ·obtain ⟨e,st',hq,n1,h2⟩:=hK _ h;exact ⟨e,st',hq,n1,λ n k hn hk=>by simpa [kH,oz,pS,hr,hp] using h2 n k hn hk⟩
  ·exact False.elim h
 | panic =>
  simp only [kD,eh] at h;split at h
  ·cases ps with
   | none=>exact False.elim h
   | some ds=>exact ⟨_,_,h,0,λ n k hn hk=>by simp [kH,oI,dn]⟩
  ·exact False.elim h
theorem oP.run {AP:aM} {ctx:Ctx} {s:aU} {st:St} {Q:bX} {K:St->Prop} (h:oP AP ctx s st Q K)
 {kk:Nat->Nat->St->dR} (hK:∀ st,K st -> ∃ e st',Q e st' /\ ∃ n0,∀ n k,n0<=n->n0<=k->kk n k st=some (e,st')) :
 ∃ e st',Q e st' /\ ∃ n0,∀ n k,n0<=n->n0<=k->(dQ s).run (pS AP n k ctx) (kk n k) st=some (e,st'):=by
 obtain ⟨eJ,dst,guard,args,op,ps⟩:=s;have hp:∀ v tm,(gO dst).run v tm=cU dst v tm:=N7 dst;have hc:∀ g,(T.iW (T.path g)).run st.tm=st.tm.get g:=λ g=>by rw [T.fN];rfl
 cases eJ with
 | false =>
  cases guard with
  | none =>
   obtain ⟨vs,h1,h⟩:=kE.elim h;obtain ⟨e,st',hq,n0,h2⟩:=h.run hK;exact ⟨e,st',hq,n0,λ n k hn hk=>by simpa [dQ,Au,h1] using h2 n k hn hk⟩
  | some g =>
   obtain ⟨w,hw,h⟩:=bt.elim (m:=aB) h;cases w with
   | true =>
    obtain ⟨vs,h1,h⟩:=kE.elim h;obtain ⟨e,st',hq,n0,h2⟩:=h.run hK;exact ⟨e,st',hq,n0,λ n k hn hk=>by simpa [dQ,hc,hw,Au,h1] using h2 n k hn hk⟩
   | false =>
    obtain ⟨e,st',hq,n0,h2⟩:=hK _ h;exact ⟨e,st',hq,n0,λ n k hn hk=>by simpa [dQ,hc,hw,hp] using h2 n k hn hk⟩
 | true =>
  cases guard with
  | none =>
   obtain ⟨vs,h1,hk,h'⟩:=kE.elim h;obtain ⟨t,rfl,hk⟩:=hk.run;obtain ⟨e,st',hq,n0,h2⟩:=hK _ h';exact ⟨e,st',hq,n0,λ n k hn hkk=>by simpa [dQ,Au,h1,hk] using h2 n k hn hkk⟩
  | some g =>
   obtain ⟨w,hw,h⟩:=bt.elim (m:=aB) h;cases w with
   | true =>
    obtain ⟨vs,h1,hk,h'⟩:=kE.elim h;obtain ⟨t,rfl,hk⟩:=hk.run;obtain ⟨e,st',hq,n0,h2⟩:=hK _ h';exact ⟨e,st',hq,n0,λ n k hn hkk=>by simpa [dQ,hc,hw,Au,h1,hk] using h2 n k hn hkk⟩
   | false =>
    obtain ⟨hd,h⟩:=h;obtain ⟨e,st',hq,n0,h2⟩:=hK _ h;cases dst with
    | none=>cases hd
    | some d=>exact ⟨e,st',hq,n0,λ n k hn hkk=>by simpa [dQ,hc,hw] using h2 n k hn hkk⟩
theorem lQ.run {AP:aM} {ctx:Ctx}:∀ {l:List aU} {st:St} {Q:bX},lQ AP ctx l st Q -> ∃ e st',Q e st'/\EXS AP ctx l st (e,st')
 | [],st,Q,h=>⟨_,_,h,0,λ _ _ _ _=>rfl⟩
 | s::rest,st,Q,h=>by
  obtain ⟨e,st',hq,n0,h⟩:=oP.run (kk:=λ n k=>(dY rest).run (pS AP n k ctx)) h λ st' hs=>lQ.run hs;exact ⟨e,st',hq,n0,h⟩
theorem sQ {AP:aM} {ctx:Ctx} {ae:Option (List Nat)} {b:ah} {Q:bX} {I:Nat->St->Prop}
 (hb:∀ n st,I n st -> ∃ e st',(match e with | .normal=>∃ m,m<n/\I m st'|e=>Q e st')/\EX AP ctx b (gg ae st) (e,st')) :
 ∀ m n,n<=m -> ∀ st,I n st -> ∃ e st',Q e st' /\ ∃ n0 c,∀ n k,n0<=n->n0<=k -> ∀ c',c<=c'->dO ae ((bf b).run (pS AP n k ctx)) c' st=some (e,st'):=by
 intro m
 induction m with
 | zero =>
  intro n hn st hi;obtain ⟨e,st',h,n0,hx⟩:=hb n st hi;cases e with
  | normal=>obtain ⟨j,hj,_⟩:=h;omega
  | exit id=>exact ⟨_,_,h,n0,1,λ n k hn hk c' hc=>by obtain ⟨c,rfl⟩:∃ c,c'=c+1:=⟨c'-1,by omega⟩;have:=hx n k hn hk;cases ae<;>simp [dO,gg] at this ⊢<;>simp [this]⟩
  | goto l=>exact ⟨_,_,h,n0,1,λ n k hn hk c' hc=>by obtain ⟨c,rfl⟩:∃ c,c'=c+1:=⟨c'-1,by omega⟩;have:=hx n k hn hk;cases ae<;>simp [dO,gg] at this ⊢<;>simp [this]⟩
  | ret=>exact ⟨_,_,h,n0,1,λ n k hn hk c' hc=>by obtain ⟨c,rfl⟩:∃ c,c'=c+1:=⟨c'-1,by omega⟩;have:=hx n k hn hk;cases ae<;>simp [dO,gg] at this ⊢<;>simp [this]⟩
  | panic p=>exact ⟨_,_,h,n0,1,λ n k hn hk c' hc=>by obtain ⟨c,rfl⟩:∃ c,c'=c+1:=⟨c'-1,by omega⟩;have:=hx n k hn hk;cases ae<;>simp [dO,gg] at this ⊢<;>simp [this]⟩
 | succ m ih =>
  intro n hn st hi;obtain ⟨e,st',h,n0,hx⟩:=hb n st hi;cases e with
  | normal =>
   obtain ⟨j,hj,hi'⟩:=h;obtain ⟨e,st2,hq,n1,c,h2⟩:=ih j (by omega) st' hi';refine ⟨e,st2,hq,max n0 n1,c+1,λ n k hn hk c' hc=>?_⟩;obtain ⟨c'',rfl⟩:∃ c,c'=c+1:=⟨c'-1,by omega⟩
   have:=hx n k (by omega) (by omega);have h3:=h2 n k (by omega) (by omega) c'' (by omega);cases ae<;>simp [dO,gg] at this ⊢<;>simp [this,h3]
  | exit id=>exact ⟨_,_,h,n0,1,λ n k hn hk c' hc=>by obtain ⟨c,rfl⟩:∃ c,c'=c+1:=⟨c'-1,by omega⟩;have:=hx n k hn hk;cases ae<;>simp [dO,gg] at this ⊢<;>simp [this]⟩
  | goto l=>exact ⟨_,_,h,n0,1,λ n k hn hk c' hc=>by obtain ⟨c,rfl⟩:∃ c,c'=c+1:=⟨c'-1,by omega⟩;have:=hx n k hn hk;cases ae<;>simp [dO,gg] at this ⊢<;>simp [this]⟩
  | ret=>exact ⟨_,_,h,n0,1,λ n k hn hk c' hc=>by obtain ⟨c,rfl⟩:∃ c,c'=c+1:=⟨c'-1,by omega⟩;have:=hx n k hn hk;cases ae<;>simp [dO,gg] at this ⊢<;>simp [this]⟩
  | panic p=>exact ⟨_,_,h,n0,1,λ n k hn hk c' hc=>by obtain ⟨c,rfl⟩:∃ c,c'=c+1:=⟨c'-1,by omega⟩;have:=hx n k hn hk;cases ae<;>simp [dO,gg] at this ⊢<;>simp [this]⟩
theorem ij.run {AP:aM} {ctx:Ctx} {st:St} {k0:Nat} {H0:AHeap} {aS:List aN} {d:Nat} {Q:bX} {v:AV} (h:ij AP ctx st k0 H0 aS d Q v) :
 ∃ e st',Q e st' /\ ∃ n0,∀ n k,n0<=n->n0<=k->fh (AP.call n) (rounds AP.prog (AP.call n) n k) ctx st k0 H0 aS d v=some (e,st'):=by
 unfold ij at h;split at h
 ·obtain ⟨e,H',⟨n0,hc⟩,h⟩:=h;cases e with
  | panic c=>exact ⟨_,_,h,n0,λ n k hn hk=>by simp [fh,bS,hc n hn,FV]⟩
  | ret v =>
   obtain ⟨s,p,f,k,tm,d,hg,hs,h⟩:=h;refine ⟨_,_,h,n0,λ n k hn hk=>?_⟩;simp only [fh,bS,hc n hn,FV,qn,hg]
 ·exact False.elim h
theorem WP.run {AP:aM} {ctx:Ctx}:∀ {c:ah} {st:St} {Q:bX},WP AP ctx c st Q -> ∃ e st',Q e st'/\EX AP ctx c st (e,st')
 | .skip,st,Q,h=>⟨_,_,h,0,λ _ _ _ _=>rfl⟩
 | .label _,st,Q,h=>⟨_,_,h,0,λ _ _ _ _=>rfl⟩
 | .exit _,st,Q,h=>⟨_,_,h,0,λ _ _ _ _=>rfl⟩
 | .goto _,st,Q,h=>⟨_,_,h,0,λ _ _ _ _=>rfl⟩
 | .ret,st,Q,h=>⟨_,_,h,0,λ _ _ _ _=>rfl⟩
 | .stuck,st,Q,h=>False.elim h
 | .region steps,st,Q,h=>lQ.run h
 | .seq a b,st,Q,h=>by
  obtain ⟨e,bU,h1,n0,hx⟩:=WP.run (c:=a) h;cases e with
  | normal =>
   obtain ⟨e,st2,hq,n1,hy⟩:=WP.run (c:=b) h1;exact ⟨e,st2,hq,max n0 n1,λ n k hn hk=>by simp [bf,hx n k (by omega) (by omega),nM,hy n k (by omega) (by omega)]⟩
  | exit id=>exact ⟨_,_,h1,n0,λ n k hn hk=>by simp [bf,hx n k hn hk,nM]⟩
  | goto id=>exact ⟨_,_,h1,n0,λ n k hn hk=>by simp [bf,hx n k hn hk,nM]⟩
  | ret=>exact ⟨_,_,h1,n0,λ n k hn hk=>by simp [bf,hx n k hn hk,nM]⟩
  | panic p=>exact ⟨_,_,h1,n0,λ n k hn hk=>by simp [bf,hx n k hn hk,nM]⟩
 | .cond c a b,st,Q,h=>by
  obtain ⟨v,hv,h⟩:=vY.elim h;obtain ⟨q,hq,h⟩:=bt.elim (m:=aB) h;have hv':v=.bool q:=by
   unfold asBool at hq;split at hq
   ·injection hq with hq;rw [hq]
   ·cases hq
  subst hv';cases q with
  | true =>
   obtain ⟨e,bU,h1,n0,hx⟩:=WP.run (c:=a) h;exact ⟨e,bU,h1,n0,λ n k hn hk=>by simp [bf,Bh,hv,nA,hx n k hn hk]⟩
  | false =>
   obtain ⟨e,bU,h1,n0,hx⟩:=WP.run (c:=b) h;exact ⟨e,bU,h1,n0,λ n k hn hk=>by simp [bf,Bh,hv,nA,hx n k hn hk]⟩
 | .block id b,st,Q,h=>by
  obtain ⟨e,bU,h1,n0,hx⟩:=WP.run (c:=b) h;cases e with
  | exit id'=>exact ⟨_,_,h1,n0,λ n k hn hk=>by simp [bf,hx n k hn hk,fR]⟩
  | normal=>exact ⟨_,_,h1,n0,λ n k hn hk=>by simp [bf,hx n k hn hk,fR]⟩
  | goto id=>exact ⟨_,_,h1,n0,λ n k hn hk=>by simp [bf,hx n k hn hk,fR]⟩
  | ret=>exact ⟨_,_,h1,n0,λ n k hn hk=>by simp [bf,hx n k hn hk,fR]⟩
  | panic p=>exact ⟨_,_,h1,n0,λ n k hn hk=>by simp [bf,hx n k hn hk,fR]⟩
 | .scope b,st,Q,h=>by
  obtain ⟨e,bU,h1,n0,hx⟩:=WP.run (c:=b) h;cases e with
  | exit id'=>exact ⟨_,_,h1,n0,λ n k hn hk=>by simp [bf,hx n k hn hk,gB]⟩
  | normal=>exact ⟨_,_,h1,n0,λ n k hn hk=>by simp [bf,hx n k hn hk,gB]⟩
  | goto id=>exact ⟨_,_,h1.2,n0,λ n k hn hk=>by simp [bf,hx n k hn hk,gB,h1.1]⟩
  | ret=>exact ⟨_,_,h1,n0,λ n k hn hk=>by simp [bf,hx n k hn hk,gB]⟩
  | panic p=>exact ⟨_,_,h1,n0,λ n k hn hk=>by simp [bf,hx n k hn hk,gB]⟩
 | .loop ae b,st,Q,⟨I,⟨n,hi⟩,h⟩=>by
  obtain ⟨e,st',hq,n0,c,hx⟩:=sQ (AP:=AP) (ctx:=ctx) (ae:=ae) (b:=b) (Q:=Q) (I:=I) (λ n st hi=>by
   obtain ⟨e,st',h1,h2⟩:=WP.run (c:=b) (h n st hi);exact ⟨e,st',h1,h2⟩) n n (qi n) st hi
  exact ⟨e,st',hq,max n0 c,λ n k hn hk=>hx n k (by omega) (by omega) n (by omega)⟩
 | .rangeFunc f k0,st,Q,h=>by
  obtain ⟨v,hv,h⟩:=vY.elim h;unfold AJ at h;cases hr:ctx.round with
  | none =>
   rw [hr] at h;obtain ⟨e,st',hq,n0,hx⟩:=ij.run h;exact ⟨e,st',hq,n0,λ n k hn hk=>by simpa [bf,Bh,hv,kQ,pS,hr] using hx n k hn hk⟩
  | some l =>
   rw [hr] at h;obtain ⟨d,hd,h⟩:=bt.elim (m:=aB) h;obtain ⟨e,st',hq,n0,hx⟩:=ij.run h;exact ⟨e,st',hq,n0,λ n k hn hk=>by simpa [bf,Bh,hv,kQ,pS,hr,hd] using hx n k hn hk⟩
def ru (AP:aM) (rs:List cS) (tm:T AV) (Q:bu->AHeap->Prop):List aN->Option aC->AHeap->Prop
 | [],none,H=>bt aB (cG H tm rs) λ l=>Q (.ret (de l)) H
 | [],some c,H=>Q (.panic c) H
 | .fp b::ds,m,H=>H.get b=some (.deferred (some []))/\ru AP rs tm Q ds m (H.set b (.deferred none))
 | .fn (.func f) args::ds,m,H=>∃ v up' H',nh AP f args (some (m.getD [])) H (.ret v) (some up') H'/\bt aB (iP m up') λ m'=>ru AP rs tm Q ds m' H'
 | .fn (.yield _) _::_,_,_=>False
theorem ru.run {AP:aM} {rs:List cS} {tm:T AV} {Q:bu->AHeap->Prop}:∀ {ds:List aN} {m:Option aC} {H:AHeap},ru AP rs tm Q ds m H ->
 ∃ e H',Q e H' /\ ∃ n0,∀ n,n0<=n->bH (AP.call n) rs tm ds m H=some (e,H')
 | [],none,H,h=>by
  obtain ⟨l,hl,h⟩:=bt.elim (m:=aB) h;exact ⟨_,_,h,0,λ n _=>by simp [bH,hl]⟩
 | [],some c,H,h=>⟨_,_,h,0,λ n _=>by simp [bH]⟩
 | .fp b::ds,m,H,⟨hb,h⟩=>by
  obtain ⟨e,H',hq,n0,hx⟩:=ru.run h;exact ⟨e,H',hq,n0,λ n hn=>by simp [bH,hb,hx n hn]⟩
 | .fn (.func f) args::ds,m,H,⟨v,up',H',⟨n0,hc⟩,h⟩=>by
  obtain ⟨m',hm,h⟩:=bt.elim (m:=aB) h;obtain ⟨e,H2,hq,n1,hx⟩:=ru.run h;exact ⟨e,H2,hq,max n0 n1,λ n hn=>by simp [bH,hc n (by omega),hm,hx n (by omega)]⟩
 | .fn (.yield _) _::_,_,_,h=>False.elim h
def FIN (AP:aM) (rs:List cS) (Q:bu->Option aC->AHeap->Prop):bX:=λ e st=>match e with
 | .normal=>ru AP rs st.tm (λ e H=>Q e st.up H) st.aS none st.H
 | .ret=>ru AP rs st.tm (λ e H=>Q e st.up H) st.aS none st.H
 | .panic c=>ru AP rs st.tm (λ e H=>Q e st.up H) st.aS (some c) st.H
 | _=>False
theorem q4t {AP:aM} {f:Nat} {fn:aq} (hf:AP.func f=some fn) {vs:List AV} {up:Option aC} {H:AHeap} {Q:bu->Option aC->AHeap->Prop}
 (h:WP AP ⟨none,f⟩ fn.body ⟨fM 0 vs .nil,[],up,H⟩ (FIN AP fn.results Q)):∃ e up' H',nh AP f vs up H e up' H'/\Q e up' H':=by
 obtain ⟨hmu,hf⟩:=aM.pE hf;obtain ⟨e,st,h1,n0,hx⟩:=h.run;have key:∀ m,ru AP fn.results st.tm (λ e H=>Q e st.up H) st.aS m st.H->(∀ call,kC call fn (e,st)=(bH call fn.results st.tm st.aS m st.H).bind λ q=>some (q.1,st.up,q.2)) ->
  ∃ e up' H',nh AP f vs up H e up' H'/\Q e up' H':=by
  intro m h1 he;obtain ⟨e',H',hq,n1,hy⟩:=h1.run;refine ⟨e',st.up,H',⟨max n0 n1+1,λ n hn=>?_⟩,hq⟩;obtain ⟨n,rfl⟩:∃ j,n=j+1:=⟨n-1,by omega⟩
  have:=hx n n (by omega) (by omega);simp only [pS] at this;rw [aM.qB hmu];simp only [yL,hf,qn,exec,this,he,hy n (by omega)]
 cases e with
 | normal=>exact key none h1 λ _=>rfl
 | ret=>exact key none h1 λ _=>rfl
 | panic c=>exact key (some c) h1 λ _=>rfl
 | exit _=>exact False.elim h1
 | goto _=>exact False.elim h1
theorem q7r {AP:aM} {f:Nat} {fn:aq} (hf:AP.func f=some fn) {vs:List AV} {H:AHeap} {Q:bu->AHeap->Prop}
 (h:WP AP ⟨none,f⟩ fn.body ⟨fM 0 vs .nil,[],none,H⟩ (FIN AP fn.results λ e up H=>up=none/\Q e H)):∃ e H',iK AP f vs H e H'/\Q e H':=by
 obtain ⟨e,up',H',h1,rfl,h2⟩:=q4t hf h;exact ⟨e,H',h1,h2⟩
def RE (l:Nat) (Q:bu->AHeap->Prop):bX:=λ e st=>st.aS=[]/\match e with
 | .panic c=>Q (.panic c) st.H
 | e=>bt aB (bR st.H l (cond (p7 e) .ready .done) (gj e)) λ H=>Q (.ret (.bool (p7 e))) H
def RB (W:St->bX->Prop) (l:Nat) (Q:bu->AHeap->Prop):bX:=λ e st=>match e with
 | .normal=>bt aB (beginRound st.H l) λ H=>W { st with H:=H } (RE l Q)
 | _=>False
theorem qxy {AP:aM} {l:Nat} {H:AHeap} {s:iq} {p:Option ep} {f k:Nat} {tm:T AV} {d:Nat} {fn:aq} {lp:dq} {vs:List AV} {tm1:T AV} {Q:bu->AHeap->Prop}
 (hl:H.get l=some (.loop s p f k tm d)) (hf:AP.func f=some fn) (hk:nth fn.loops k=some lp) (hb:C5 tm lp.params vs=some tm1)
 (h:WP AP ⟨some l,f⟩ lp.assign ⟨tm1,[],none,H⟩ (RB (WP AP ⟨some l,f⟩ lp.body) l Q)):∃ e H',mr AP l vs H e H'/\Q e H':=by
 obtain ⟨hmu,hf⟩:=aM.pE hf;obtain ⟨e,st,h1,n0,hx⟩:=h.run;cases e with
 | normal =>
  obtain ⟨H2,hbr,h1⟩:=bt.elim (m:=aB) h1;obtain ⟨e,st2,⟨hd,h2⟩,n1,hy⟩:=WP.run h1;have key:∀ e' H',Q e' H'->xK l (e,st2)=some (e',H') -> ∃ e H',mr AP l vs H e H'/\Q e H':=by
   intro e' H' hq he;refine ⟨e',H',⟨max n0 n1+1,λ n j hn hj=>?_⟩,hq⟩;obtain ⟨j,rfl⟩:∃ i,j=i+1:=⟨j-1,by omega⟩
   have hx':=hx n j (by omega) (by omega);have hy':=hy n j (by omega) (by omega);simp only [pS] at hx' hy';simp only [rounds,roundOf,hl,hf,qn,hk,hb,exec,hx',hbr,hy',hd,roundOf.noDefs,xh,he]
  cases e with
  | panic c=>exact key _ _ h2 rfl
  | normal=>obtain ⟨H3,h3,h2⟩:=bt.elim (m:=aB) h2;exact key _ _ h2 (by simp [xK,h3])
  | exit id=>obtain ⟨H3,h3,h2⟩:=bt.elim (m:=aB) h2;exact key _ _ h2 (by simp [xK,h3])
  | goto id=>obtain ⟨H3,h3,h2⟩:=bt.elim (m:=aB) h2;exact key _ _ h2 (by simp [xK,h3])
  | ret=>obtain ⟨H3,h3,h2⟩:=bt.elim (m:=aB) h2;exact key _ _ h2 (by simp [xK,h3])
 | exit _=>exact False.elim h1
 | goto _=>exact False.elim h1
 | ret=>exact False.elim h1
 | panic _=>exact False.elim h1
theorem iK.tC {AP:aM} {f:Nat} {vs:List AV} {H:AHeap} {e:bu} {H':AHeap} (h:iK AP f vs H e H'):∃ n,AP.call n f vs none H=some (e,none,H'):=by
 obtain ⟨n,h⟩:=h;exact ⟨n,h n (qi n)⟩
end
end Go.Am
namespace Go.Am
abbrev Env:=List (Nat × AV)
def lG (dst:Option Nat) (v:AV) (E:Env):Env:=match dst with
 | some d=>(d,v)::E
 | none=>E
def BI {α:Type} (m:Bool) (o:Option α) (K:Bool -> α->Prop):Prop:=match o with
 | some a=>K aB a
 | none=>False
def mQ {α β:Type} (m:Bool) (o:Option (α × β)) (K:Bool -> α -> β->Prop):Prop:=match o with
 | some a=>K aB a.1 a.2
 | none=>False
def IG (m:Bool) (q:Bool) (A B:Bool->Prop):Prop:=match q with
 | true=>A aB
 | false=>B aB
def LK {α:Type} (m:Bool) (o:Option α) (K:Bool -> α->Prop):Prop:=match o with
 | some a=>K m a
 | none=>False
theorem yU {α:Type} (a:α) (K:Bool -> α->Prop):LK true (some a) K=K true a:=propext j4
@[congr] theorem GB {α:Type} {m m':Bool} {o o':Option α} {K:Bool -> α->Prop} (hm:m=m') (h:o=o'):LK m o K=LK m' o' K:=by subst hm;subst h;rfl
@[congr] theorem G6 {α:Type} {m m':Bool} {o o':Option α} {K:Bool -> α->Prop} (hm:m=m') (h:o=o'):BI m o K=BI m' o' K:=by subst hm;subst h;rfl
@[congr] theorem Fb {α β:Type} {m m':Bool} {o o':Option (α × β)} {K:Bool -> α -> β->Prop} (hm:m=m') (h:o=o'):mQ m o K=mQ m' o' K:=by subst hm;subst h;rfl
@[congr] theorem HM {m m' q q':Bool} {A B:Bool->Prop} (hm:m=m') (h:q=q'):IG m q A B=IG m' q' A B:=by subst hm;subst h;rfl
theorem BI.intro {α:Type} {m:Bool} {o:Option α} {K:Bool -> α->Prop} {a:α} (h:o=some a) (hk:K aB a):BI m o K:=by subst h;exact hk
theorem mQ.intro {α β:Type} {m:Bool} {o:Option (α × β)} {K:Bool -> α -> β->Prop} {a:α} {b:β} (h:o=some (a,b)) (hk:K aB a b):mQ m o K:=by subst h;exact hk
theorem IG.cases {m:Bool} {q:Bool} {A B:Bool->Prop} (h1:q=true->A aB) (h2:q=false->B aB):IG m q A B:=by
 cases q with
 | true=>exact h1 rfl
 | false=>exact h2 rfl
noncomputable section
variable (AP:aM)
def CA (m:Bool) (f:fk) (vs:List AV) (H:AHeap) (K:Bool->AV->AHeap->Prop) (E:aC->AHeap->Prop):Prop:=im AP m f vs H (K aB) E
@[congr] theorem Hz {AP:aM} {m m':Bool} {f f':fk} {vs vs':List AV} {H:AHeap} {K:Bool->AV->AHeap->Prop} {E:aC->AHeap->Prop} (hm:m=m') (hf:f=f') (h:vs=vs'):CA AP m f vs H K E=CA AP m' f' vs' H K E:=by subst hm;subst h;subst hf;rfl
theorem CA.ret {AP:aM} {m:Bool} {f:Nat} {vs:List AV} {H:AHeap} {K:Bool->AV->AHeap->Prop} {E:aC->AHeap->Prop} {v:AV} {H':AHeap} (h:iK AP f vs H (.ret v) H') (hk:K aB v H'):CA AP m (.func f) vs H K E :=
 ⟨_,_,h,hk⟩
theorem CA.panic {AP:aM} {m:Bool} {f:Nat} {vs:List AV} {H:AHeap} {K:Bool->AV->AHeap->Prop} {E:aC->AHeap->Prop} {c:aC} {H':AHeap} (h:iK AP f vs H (.panic c) H') (hk:E c H'):CA AP m (.func f) vs H K E :=
 ⟨_,_,h,hk⟩
def VI (m:Bool) (vs:List AV) (K:Bool->fk->List AV->Prop):Prop:=Dv m vs (K aB)
@[congr] theorem Ig {m m':Bool} {vs vs':List AV} {K:Bool->fk->List AV->Prop} (hm:m=m') (h:vs=vs'):VI m vs K=VI m' vs' K:=by subst hm;subst h;rfl
def IV (m:Bool) (name:String) (vs:List AV) (K:Bool->fk->List AV->Prop):Prop:=Cj AP m name vs (K aB)
@[congr] theorem GG {AP:aM} {m m':Bool} {name:String} {vs vs':List AV} {K:Bool->fk->List AV->Prop} (hm:m=m') (h:vs=vs'):IV AP m name vs K=IV AP m' name vs' K:=by subst hm;subst h;rfl
def RC (m:Bool) (ctx:Ctx) (up:Option aC) (K:Bool->AV->Option aC->Prop):Prop:=nG m ctx up (K aB)
@[congr] theorem G8 {m m':Bool} {ctx:Ctx} {up up':Option aC} {K:Bool->AV->Option aC->Prop} (hm:m=m') (h:up=up'):RC m ctx up K=RC m' ctx up' K:=by subst hm;subst h;rfl
def DF (m:Bool) (ctx:Ctx) (vs:List AV) (aS:List aN) (K:Bool->List aN->Prop):Prop:=rU m ctx vs aS (K aB)
@[congr] theorem GY {m m':Bool} {ctx:Ctx} {vs vs':List AV} {aS:List aN} {K:Bool->List aN->Prop} (hm:m=m') (h:vs=vs'):DF m ctx vs aS K=DF m' ctx vs' aS K:=by subst hm;subst h;rfl
end
end Go.Am
namespace Go.Am
theorem xbz (n:Int):aV .i64 n=(n+9223372036854775808) % 18446744073709551616-9223372036854775808:=by
 simp [aV,IntKind.wrap,IntKind.bits,IntKind.signed];split<;>omega
theorem yw {n:Int} (h:-9223372036854775808<=n) (h':n<9223372036854775808):aV .i64 n=n:=by rw [xbz];omega
section
variable (k:IntKind) (a b:Int)
theorem C8 (v:AV):Op.move [v]=some v:=rfl
theorem Et (q:Bool) (a b:AV):Op.pick [.bool q,a,b]=some (cond q a b):=rfl
theorem Gk:Op.bin .add [.int k a,.int k b]=some (.int k (aV k (a+b))):=by cases k<;>rfl
theorem Hw:Op.bin .sub [.int k a,.int k b]=some (.int k (aV k (a-b))):=by cases k<;>rfl
theorem IA:Op.bin .mul [.int k a,.int k b]=some (.int k (aV k (a*b))):=by cases k<;>rfl
theorem Hg (hb:b ≠ 0):Op.bin .quo [.int k a,.int k b]=some (.int k (aV k (a.tdiv b))):=by
 have:pN b 0=false:=by rw [zL];simpa using hb
 cases k<;>simp [Op.bin,jN,cY,oa,ic,dJ,this]
theorem Bi (hb:b ≠ 0):Op.bin .rem [.int k a,.int k b]=some (.int k (a.tmod b)):=by
 have:pN b 0=false:=by rw [zL];simpa using hb
 cases k<;>simp [Op.bin,jN,cY,oa,ic,dJ,this]
theorem G7:Op.bin .eql [.int k a,.int k b]=some (.bool (decide (a=b))):=by
 have:pN a b=decide (a=b):=by rw [zL];rfl
 cases k<;>simp [Op.bin,jN,cY,oa,ic,dJ,this]
theorem Il:Op.bin .neq [.int k a,.int k b]=some (.bool (decide (a ≠ b))):=by
 have:pN a b=decide (a=b):=by rw [zL];rfl
 cases k<;>simp [Op.bin,jN,cY,oa,ic,dJ,this]
theorem HN:Op.bin .lss [.int k a,.int k b]=some (.bool (decide (a<b))):=by
 cases k<;>simp [Op.bin,jN,cY,oa,ic,dJ,Jq]
theorem Hu:Op.bin .leq [.int k a,.int k b]=some (.bool (decide (a<=b))):=by
 cases k<;>simp [Op.bin,jN,cY,oa,ic,dJ,yA]
theorem GC:Op.bin .gtr [.int k a,.int k b]=some (.bool (decide (b<a))):=by
 cases k<;>simp [Op.bin,jN,cY,oa,ic,dJ,Jq]
theorem GJ:Op.bin .geq [.int k a,.int k b]=some (.bool (decide (b<=a))):=by
 cases k<;>simp [Op.bin,jN,cY,oa,ic,dJ,yA]
theorem CX (k':IntKind):Op.wrap k [.int k' a]=some (.int k (aV k a)):=rfl
theorem G4 (q:Bool):Op.un .not [.bool q]=some (.bool (!q)):=rfl
theorem q99 (a b:List UInt8):rz a b=decide (a=b):=by
 by_cases h:a=b
 ·subst h;simp [F9]
 ·simp [F9,h]
theorem Ej (a b:List UInt8):Op.bin .eql [.str a,.str b]=some (.bool (decide (a=b))):=by
 simp only [Op.bin,jN,kU,q99]
theorem CW (a b:List UInt8):Op.bin .neq [.str a,.str b]=some (.bool (decide (a ≠ b))):=by
 simp [Op.bin,jN,kU,q99]
theorem ue (s:List UInt8):Op.oV [.str s]=some (.int .i64 s.length):=by simp [Op.oV,gw,Aj]
theorem xaz (i:Nat) (l:List AV):Op.extract i [.tuple l]=l[i]?:=by simp [Op.extract,iV]
theorem sg (f n:Nat) (l:List AV):Op.cu f n l=some (.fn (.func f) (l.take n) (l.drop n)):=rfl
theorem xa0 (t:Nat) (v:AV):Op.py t [v]=some (.iface t v):=rfl
theorem q5g (off b o:Nat):Op.fieldAddr off [.ptr b o]=some (.ptr b (o+off)):=rfl
theorem vV (off:Nat) (l:List AV):Op.field off none [.agg l]=l[off]?:=by simp [Op.field,partAt,iV]
theorem Dh (q:Bool):aA true (some (.bool q))=some q:=by cases q<;>rfl
theorem zJ (q:Bool):aA false (some (.bool q))=some (!q):=by cases q<;>rfl
theorem xV (b:Bool):aA b (some .undef)=some false:=rfl
end
structure Fr (W:Nat->Prop) (H H':AHeap):Prop where
 next:H.next<=H'.next
 ae:∀ b,b<H.next -> ¬ W b->H'.get b=H.get b
def Em:Nat->Prop:=λ _=>False
def On (b:Nat):Nat->Prop:=λ x=>x=b
theorem Fr.refl {W:Nat->Prop} (H:AHeap):Fr W H H:=⟨qi _,λ _ _ _=>rfl⟩
theorem Fr.trans {W W':Nat->Prop} {H H1 H2:AHeap} (a:Fr W H H1) (b:Fr W' H1 H2) (h:∀ x,W' x->W x\/H.next<=x):Fr W H H2 :=
 ⟨xt a.next b.next,λ x hx hw=>by
  rw [b.ae x (qp hx a.next) (λ hw'=>(h x hw').elim hw (λ q=>by omega)),a.ae x hx hw]⟩
theorem Fr.em {W:Nat->Prop} {H H1 H2:AHeap} (a:Fr W H H1) (b:Fr Em H1 H2):Fr W H H2:=a.trans b λ _ h=>h.elim
theorem Fr.mono {W W':Nat->Prop} {H H':AHeap} (a:Fr W H H') (h:∀ x,x<H.next->W x->W' x):Fr W' H H':=⟨a.next,λ x hx hw=>a.ae x hx λ q=>hw (h x hx q)⟩
theorem xl (H:AHeap) (o:bL):(H.alloc o).next=H.next+1:=rfl
theorem EZ (H:AHeap) (b:Nat) (o:bL):(H.set b o).next=H.next:=rfl
theorem Al (H:AHeap) (b:Nat):(H.kill b).next=H.next:=rfl
theorem Fr.alloc {W:Nat->Prop} {H H1:AHeap} (a:Fr W H H1) (o:bL):Fr W H (H1.alloc o) :=
 ⟨FH a.next,λ x hx hw=>by rw [AHeap.bn,qf (by have:=a.next;omega),a.ae x hx hw]⟩
theorem Fr.set {W:Nat->Prop} {H H1:AHeap} (a:Fr W H H1) {b:Nat} (h:W b\/H.next<=b) (o:bL):Fr W H (H1.set b o) :=
 ⟨a.next,λ x hx hw=>by rw [AHeap.aK,qf (by rintro rfl;exact h.elim hw (λ q=>by omega)),a.ae x hx hw]⟩
theorem Fr.kill {W:Nat->Prop} {H H1:AHeap} (a:Fr W H H1) {b:Nat} (h:W b\/H.next<=b):Fr W H (H1.kill b) :=
 ⟨a.next,λ x hx hw=>by rw [AHeap.kW,qf (by rintro rfl;exact h.elim hw (λ q=>by omega)),a.ae x hx hw]⟩
theorem xc {H:AHeap} {b:Nat} {c:List AV} {e:Nat} {fz:Nat × Nat} {ow:Bool} (h:H.get b=some (.row c e fz ow)):H.bQ b=some c:=by simp [AHeap.bQ,h]
theorem Kq {H:AHeap} {b m s:Nat} {c:List AV} {e:Nat} {fz:Nat × Nat} (h:H.get b=some (.grown m s c e fz)):H.bQ b=some c:=by simp [AHeap.bQ,h]
theorem q7t {H H':AHeap} {b:Nat} (h:H'.get b=H.get b):H'.bQ b=H.bQ b:=by simp [AHeap.bQ,h]
theorem Fr.cells {W:Nat->Prop} {H H':AHeap} (a:Fr W H H') {b:Nat} (hb:b<H.next) (hw:¬ W b):H'.bQ b=H.bQ b:=q7t (a.ae b hb hw)
theorem ze {H:AHeap} {b:Nat} {c:List AV} (h:H.bQ b=some c) (o:Nat):Op.aa [.ptr b o] H=c[o]?:=by simp [Op.aa,AHeap.aa,h,iV]
theorem wE {H:AHeap} {b:Nat} {c:List AV} (h:H.bQ b=some c) {o n:Nat} (hn:o+n<=c.length):Op.ao n [.ptr b o] H=some (.agg ((c.drop o).take n)):=by
 simp only [Op.ao,AHeap.ao,h,qn,oY];rw [qr (by omega)];rfl
def Sl (H:AHeap) (size:Nat) (v:AV) (n:Nat) (cells:List AV):Prop :=
 cells.length=n*size/\match v with
 | .nils=>n=0
 | .slice b o m c=>m=n/\n<=c/\(n=0\/b<H.next /\ ∃ all,H.bQ b=some all/\d8 all o (n*size)=some cells)
 | .gslice b i m s alt k=>k=n/\s=size/\i+n<=m/\(n=0\/b<H.next /\ ∃ all,H.bQ b=some all/\d8 all (i*size) (n*size)=some cells)
 | .eslice b=>n=0/\b<H.next
 | _=>False
def aO:AV->Nat
 | .slice b _ _ _=>b
 | .gslice b _ _ _ _ _=>b
 | .eslice b=>b
 | _=>0
def cm (size:Nat):AV->Nat->Nat
 | .slice _ o _ _,j=>o+j*size
 | .gslice _ i _ s _ _,j=>i*s+j*s
 | _,_=>0
theorem Sl.dS {H:AHeap} {size:Nat} {v:AV} {n:Nat} {cells:List AV} (h:Sl H size v n cells):dS v=some n:=by
 obtain ⟨_,h⟩:=h;split at h
 ·subst h;rfl
 ·obtain ⟨rfl,_⟩:=h;rfl
 ·obtain ⟨rfl,_⟩:=h;rfl
 ·obtain ⟨rfl,_⟩:=h;rfl
 ·exact h.elim
theorem Sl.len {H:AHeap} {size:Nat} {v:AV} {n:Nat} {cells:List AV} (h:Sl H size v n cells):Op.bP [v]=some (.int .i64 n):=by
 obtain ⟨_,h⟩:=h;split at h
 ·subst h;rfl
 ·obtain ⟨rfl,_⟩:=h;rfl
 ·obtain ⟨rfl,_⟩:=h;rfl
 ·obtain ⟨rfl,_⟩:=h;rfl
 ·exact h.elim
theorem NU {z:Int} {i n:Nat} (hz:z=i) (h:i<n):within z n=some i:=by
 subst hz;show cond (Nat.blt i n) (some i) none=some i;have:Nat.blt i n=true:=by simpa [nN] using h
 rw [this];rfl
theorem Ef {i j:Nat} (h:i ≠ j):Nat.beq i j=false:=by
 cases q:Nat.beq i j with
 | false=>rfl
 | true=>exact (h (Nat.eq_of_beq_eq_true q)).elim
theorem zE {i n:Nat} (h:i<n):Nat.blt i n=true:=by simpa [nN] using h
theorem ym {i n:Nat} (h:i<=n):Nat.ble i n=true:=by simpa using h
theorem Sl.idx {H:AHeap} {size:Nat} {v:AV} {n:Nat} {cells:List AV} (h:Sl H size v n cells) {i:Nat} (hi:i<n) {z:Int} (hz:z=i) (k:IntKind) :
 Op.aP size [v,.int k z]=some (.ptr (aO v) (cm size v i)):=by
 obtain ⟨hl,h⟩:=h;split at h
 ·omega
 ·rename_i b o m c;obtain ⟨rfl,hc,h⟩:=h;have h1:=zE hi;simp [Op.aP,Am.dS,NU hz hi,elemAt,h1,aO,cm]
 ·rename_i b j m s alt k;obtain ⟨rfl,rfl,hm,h⟩:=h;have h1:=zE hi;have h2:=zE (show j+i<m by omega);simp [Op.aP,Am.dS,NU hz hi,elemAt,h1,h2,aO,cm]
 ·omega
 ·exact h.elim
theorem JV {α:Type} {l r:List α} {o n:Nat} (h:d8 l o n=some r):n<=l.length-o/\r=(l.drop o).take n:=by
 rw [oY] at h;split at h
 ·rename_i hn;injection h with h;exact ⟨hn,h.symm⟩
 ·cases h
theorem Sl.at {H:AHeap} {size:Nat} {v:AV} {n:Nat} {cells:List AV} (hs0:0<size) (h:Sl H size v n cells) {i:Nat} (hi:i<n) :
 aO v<H.next /\ ∃ all,H.bQ (aO v)=some all/\cm size v i+size<=all.length /\ ∀ j,j<size->all[cm size v i+j]? = cells[i*size+j]?:=by
 obtain ⟨hl,h⟩:=h;have hps:0<n*size:=Nat.mul_pos (by omega) hs0;have hsz:i*size+size<=n*size:=by rw [<-pW];exact kc _ hi
 split at h
 ·omega
 ·rename_i b o m c;obtain ⟨rfl,hc,h⟩:=h;rcases h with h|⟨hb,all,h1,h2⟩
  ·omega
  obtain ⟨h3,rfl⟩:=JV h2;refine ⟨hb,all,h1,?_,λ j hj=>?_⟩
  ·simp only [cm];simp at hl;omega
  ·simp only [cm];rw [kq,qr (by omega),ya];congr 1;omega
 ·rename_i b q m s alt k;obtain ⟨rfl,rfl,hm,h⟩:=h;rcases h with h|⟨hb,all,h1,h2⟩
  ·omega
  obtain ⟨h3,rfl⟩:=JV h2;refine ⟨hb,all,h1,?_,λ j hj=>?_⟩
  ·simp only [cm];simp at hl;omega
  ·simp only [cm];rw [kq,qr (by omega),ya];congr 1;omega
 ·omega
 ·exact h.elim
theorem Sl.fr {H H':AHeap} {W:Nat->Prop} {size:Nat} {v:AV} {n:Nat} {cells:List AV} (h:Sl H size v n cells) (f:Fr W H H') (hw:n=0 \/ ¬ W (aO v)):Sl H' size v n cells:=by
 obtain ⟨hl,h⟩:=h;refine ⟨hl,?_⟩;split at h
 ·exact h
 ·obtain ⟨h1,h2,h3⟩:=h;refine ⟨h1,h2,?_⟩;rcases h3 with h3|⟨hb,all,h3,h4⟩
  ·exact .inl h3
  ·rcases hw with hw|hw
   ·exact .inl hw
   ·exact .inr ⟨qp hb f.next,all,by rw [f.cells hb hw];exact h3,h4⟩
 ·obtain ⟨h1,h2,h0,h3⟩:=h;refine ⟨h1,h2,h0,?_⟩;rcases h3 with h3|⟨hb,all,h3,h4⟩
  ·exact .inl h3
  ·rcases hw with hw|hw
   ·exact .inl hw
   ·exact .inr ⟨qp hb f.next,all,by rw [f.cells hb hw];exact h3,h4⟩
 ·exact ⟨h.1,qp h.2 f.next⟩
 ·exact h.elim
theorem Sl.em {H H':AHeap} {size:Nat} {v:AV} {n:Nat} {cells:List AV} (h:Sl H size v n cells) (f:Fr Em H H'):Sl H' size v n cells:=h.fr f (.inr id)
theorem Sl.first {H:AHeap} {size:Nat} {v:AV} {n:Nat} {cells:List AV} (h:Sl H size v n cells):firstCells H size n v=some cells:=by
 obtain ⟨hl,h⟩:=h;split at h
 ·subst h;simp at hl;subst hl;rfl
 ·rename_i b o m c;obtain ⟨rfl,hc,h⟩:=h;rcases h with rfl|⟨hb,all,h1,h2⟩
  ·simp at hl;subst hl;rfl
  ·by_cases hn:m=0
   ·subst hn;simp at hl;subst hl;rfl
   ·have:Nat.beq m 0=false:=Ef hn;simp only [firstCells,this,zg,AHeap.ao,h1,qn,h2]
 ·rename_i b i m s alt k;obtain ⟨rfl,rfl,hm,h⟩:=h;rcases h with rfl|⟨hb,all,h1,h2⟩
  ·simp at hl;subst hl;rfl
  ·by_cases hn:k=0
   ·subst hn;simp at hl;subst hl;rfl
   ·have:Nat.beq k 0=false:=Ef hn;have h3:=zE (show i<m by omega);simp [firstCells,this,h3,AHeap.ao,h1,h2]
 ·obtain ⟨rfl,_⟩:=h;simp at hl;subst hl;rfl
 ·exact h.elim
def dP {α:Type} (enc:α->List AV) (size:Nat) (H:AHeap) (v:AV) (xs:List α):Prop:=Sl H size v xs.length (xs.flatMap enc)
section
variable {α:Type} {enc:α->List AV} {size:Nat} {H H':AHeap} {v:AV} {xs:List α}
theorem dP.len (h:dP enc size H v xs):Op.bP [v]=some (.int .i64 xs.length):=Sl.len h
theorem dP.fr {W:Nat->Prop} (h:dP enc size H v xs) (f:Fr W H H') (hw:¬ W (aO v)):dP enc size H' v xs:=Sl.fr h f (.inr hw)
theorem dP.em (h:dP enc size H v xs) (f:Fr Em H H'):dP enc size H' v xs:=Sl.em h f
theorem Cg (hs:∀ x,(enc x).length=size):∀ (xs:List α) {i:Nat} {x:α},xs[i]? = some x -> ∀ {j:Nat},j<size->(xs.flatMap enc)[i*size+j]? = (enc x)[j]?
 | [],i,x,h,j,hj=>by simp at h
 | y::ys,0,x,h,j,hj=>by
  simp at h;subst h;rw [jv,km (by rw [hs];omega)];simp
 | y::ys,i+1,x,h,j,hj=>by
  simp only [zt] at h;rw [jv,jq (by rw [hs,pW];omega),hs,<-Cg hs ys h hj];congr 1;rw [pW];omega
theorem BR {i:Nat} {x:α} (h:xs[i]? = some x):i<xs.length:=(qm.1 h).1
theorem dP.idx (h:dP enc size H v xs) {i:Nat} {x:α} (hx:xs[i]? = some x) {z:Int} (hz:z=i) (k:IntKind):Op.aP size [v,.int k z]=some (.ptr (aO v) (cm size v i)) :=
 Sl.idx h (BR hx) hz k
theorem dP.aa (hs:∀ x,(enc x).length=size) (h:dP enc size H v xs) {i:Nat} {x:α} (hx:xs[i]? = some x) {j:Nat} (hj:j<size):Op.aa [.ptr (aO v) (cm size v i+j)] H=(enc x)[j]?:=by
 obtain ⟨_,all,h1,h2,h3⟩:=Sl.at (by omega) h (BR hx);rw [ze h1,h3 j hj,Cg hs xs hx hj]
theorem dP.na (hs:∀ x,(enc x).length=size) (h:dP enc size H v xs) {i:Nat} {x:α} (hx:xs[i]? = some x) (hj:0<size):Op.aa [.ptr (aO v) (cm size v i)] H=(enc x)[0]?:=h.aa hs hx hj
theorem dP.ao (hs:∀ x,(enc x).length=size) (hs0:0<size) (h:dP enc size H v xs) {i:Nat} {x:α} (hx:xs[i]? = some x):Op.ao size [.ptr (aO v) (cm size v i)] H=some (.agg (enc x)):=by
 obtain ⟨_,all,h1,h2,h3⟩:=Sl.at hs0 h (BR hx);rw [wE h1 h2];congr 2;refine kx λ j=>?_
 by_cases hj:j<size
 ·rw [kq,qr hj,ya,h3 j hj,Cg hs xs hx hj]
 ·rw [zm (by simp;omega),zm (by rw [hs];omega)]
end
def Own (H:AHeap) (e size:Nat) (v:AV) (n:Nat) (cells:List AV):Prop :=
 cells.length=n*size/\(n=0/\(v=.nils \/ ∃ b,v=.slice b 0 0 0/\b<H.next) \/ ∃ b,v=.gslice b 0 n size 0 n/\b<H.next/\H.get b=some (.grown n size cells e (0,0)))
def bC (v:AV):Nat->Prop:=λ x=>v ≠ .nils/\x=aO v
theorem Own.nil (H:AHeap) (e size:Nat):Own H e size .nils 0 []:=⟨by simp,.inl ⟨rfl,.inl rfl⟩⟩
theorem Own.sl {H:AHeap} {e size:Nat} {v:AV} {n:Nat} {cells:List AV} (h:Own H e size v n cells):Sl H size v n cells:=by
 obtain ⟨hl,⟨rfl,rfl|⟨b,rfl,hb⟩⟩|⟨b,rfl,h1,h2⟩⟩:=h
 ·exact ⟨hl,rfl⟩
 ·exact ⟨hl,rfl,qi _,.inl rfl⟩
 ·refine ⟨hl,rfl,rfl,by omega,.inr ⟨h1,cells,Kq h2,?_⟩⟩;rw [oY,qr (by simp [hl])];simp [<-hl]
theorem Own.fr {H H':AHeap} {W:Nat->Prop} {e size:Nat} {v:AV} {n:Nat} {cells:List AV} (h:Own H e size v n cells) (f:Fr W H H') (hw:∀ x,bC v x -> ¬ W x):Own H' e size v n cells:=by
 obtain ⟨hl,⟨h0,h|⟨b,rfl,hb⟩⟩|⟨b,rfl,h1,h2⟩⟩:=h
 ·exact ⟨hl,.inl ⟨h0,.inl h⟩⟩
 ·exact ⟨hl,.inl ⟨h0,.inr ⟨b,rfl,qp hb f.next⟩⟩⟩
 ·exact ⟨hl,.inr ⟨b,rfl,qp h1 f.next,by rw [f.ae b h1 (hw b ⟨by simp,rfl⟩)];exact h2⟩⟩
theorem Own.em {H H':AHeap} {e size:Nat} {v:AV} {n:Nat} {cells:List AV} (h:Own H e size v n cells) (f:Fr Em H H'):Own H' e size v n cells:=h.fr f λ _ _ h=>h
theorem Own.lt {H:AHeap} {e size:Nat} {v:AV} {n:Nat} {cells:List AV} (h:Own H e size v n cells):∀ x,bC v x->x<H.next:=by
 rintro x ⟨h1,rfl⟩;obtain ⟨hl,⟨h0,h|⟨b,rfl,hb⟩⟩|⟨b,rfl,h1,h2⟩⟩:=h
 ·exact (h1 h).elim
 ·exact hb
 ·exact h1
theorem Sl.one {H:AHeap} {size:Nat} {v:AV} {n:Nat} {cells:List AV} (h:Sl H size v n cells):bm v=true:=by
 obtain ⟨_,h⟩:=h;cases v<;>first|rfl|exact h.elim
theorem JZ {n bytes:Nat} (h1:n*bytes<=140737488355328) (h2:n<=140737488355328):fits n bytes=true:=by
 simp [fits,h1,h2]
theorem qzc {H:AHeap} {e size bytes:Nat} {v:AV} {n:Nat} {cells:List AV} (h:Own H e size v n cells) {x:AV} {k:Nat} {new:List AV} (hx:Sl H size x k new) (hnew:aY new=true) (hs:0<size)
 (hf:(n+k)*bytes<=140737488355328) (hf':n+k<=140737488355328) {K:Bool->AV->AHeap->Prop} {m:Bool}
 (hk:∀ v' H',Own H' e size v' (n+k) (cells++new)->Fr (bC v) H H'->(∀ b,bC v' b->bC v b\/H.next<=b)->K aB v' H'):mQ m (Op.append e size bytes [v,x] H) K:=by
 have hfit:=JZ hf hf';have hlen:new.length=k*size:=hx.1;have hs':=zE hs;have e1:∀ n,Nat.beq n n=true:=λ n=>by simp
 simp only [Op.append,hx.dS,hx.first,qn,hnew,xh];obtain ⟨hl,⟨rfl,rfl|⟨b,rfl,hb⟩⟩|⟨b,rfl,h1,h2⟩⟩:=h
 ·simp only [vp,yb] at hl;subst hl
  by_cases hk0:k=0
  ·subst hk0;simp at hlen;subst hlen;exact hk .nils H (Own.nil H e size) (Fr.refl H) λ b hb=>.inl hb
  ·have h0:Nat.beq k 0=false:=Ef hk0;simp only [bV,h0,zg,ye] at hfit ⊢;simp only [hfit,hs',jd,xh,cq,mQ];refine hk _ _ ⟨by simpa using hlen,.inr ⟨H.next,by simp,by rw [xl];omega,?_⟩⟩ ((Fr.refl H).alloc _) λ b hb=>.inr (by rw [hb.2];exact qi _);rw [AHeap.bn,qr rfl];simp
 ·simp only [vp,yb] at hl;subst hl
  by_cases hk0:k=0
  ·subst hk0;simp at hlen;subst hlen;simp only [bV,qe,ym (qi 0),xh,e1,mQ];exact hk _ H ⟨by simp,.inl ⟨rfl,.inr ⟨b,rfl,hb⟩⟩⟩ (Fr.refl H) λ b hb=>.inl hb
  ·have h0:Nat.beq k 0=false:=Ef hk0;have h3:Nat.ble k 0=false:=by cases hq:Nat.ble k 0 with|false=>rfl|true=>rw [wg] at hq;omega
   have h4:firstCells H size 0 (.slice b 0 0 0)=some []:=rfl;simp only [bV,ye,h3,zg] at hfit ⊢;simp only [hfit,ym (zp k),hs',jd,xh,h4,qn,jC,zy,cq,mQ];refine hk _ _ ⟨by simpa using hlen,.inr ⟨H.next,by simp,by rw [xl];omega,?_⟩⟩ ((Fr.refl H).alloc _) λ b hb=>.inr (by rw [hb.2];exact qi _);rw [AHeap.bn,qr rfl];simp
 ·by_cases hk0:k=0
  ·subst hk0;simp at hlen;subst hlen;simp only [bV,Nat.beq,xh,ye,ym (qi n),mQ];refine hk _ _ ⟨by simpa using hl,.inr ⟨b,rfl,h1,by simpa using h2⟩⟩ (Fr.refl H) λ b hb=>.inl hb
  ·have h0:Nat.beq k 0=false:=Ef hk0;have h3:Nat.ble (0+n+k) n=false:=by cases hq:Nat.ble (0+n+k) n with|false=>rfl|true=>rw [wg] at hq;omega
   simp only [bV,h0,zg,e1,ye,ym (qi n),hs',jd,xh] at h3 ⊢;simp only [h3,zg,hfit,xh,h2,e1,jd,Nat.beq,ym (zp (n*size)),cq,mQ];refine hk _ _ ⟨by simp [hl,hlen,kh],.inr ⟨H.next,by simp [Al],by rw [xl,Al];omega,?_⟩⟩ (((Fr.refl H).kill (.inl ⟨by simp,rfl⟩)).alloc _) λ b hb=>.inr (by rw [hb.2];exact qi _);rw [AHeap.bn,Al,qr rfl,jC]
theorem Kx (e n:Nat) (zero:List AV) (v:AV) (hz:zero.length=n) (hv:v.cells.length=n):Op.buildSlice e 1 zero [(0,n)] [v]=some (.row v.cells e (0,0) true,Op.sliceTo 1 1):=by
 have e1:∀ n,Nat.beq n n=true:=λ n=>by simp
 simp only [Op.buildSlice,dk,jC,za,ft,Aj,hv,e1,xh,wK,ye,hz,qr (qi n),AY,zy,qn];rw [j5 (by omega)];simp
theorem rS {H:AHeap} {size e:Nat} {cells:List AV} (hc:cells.length=size):Sl (H.alloc (.row cells e (0,0) true)) size (Op.sliceTo 1 1 H.next) 1 cells:=by
 refine ⟨by simp [hc],rfl,qi 1,.inr ⟨by rw [xl];omega,cells,xc (by rw [AHeap.bn,qr rfl]),?_⟩⟩;rw [oY,qr (by simp [hc])];simp [<-hc]
theorem xG {H:AHeap} {e size bytes:Nat} {v:AV} {n:Nat} {cells:List AV} (h:Own H e size v n cells) {zero:List AV} {x:AV} (hz:zero.length=size) (hx:x.cells.length=size) (hnew:aY x.cells=true) (hs:0<size)
 (hf:(n+1)*bytes<=140737488355328) (hf':n+1<=140737488355328) {K:bL->(Nat->AV)->Bool->AV->AHeap->Prop} {m:Bool}
 (hk:∀ v' H',Own H' e size v' (n+1) (cells++x.cells)->Fr (bC v) H H'->(∀ b,bC v' b->bC v b\/H.next<=b)->K (.row x.cells e (0,0) true) (Op.sliceTo 1 1) aB v' H') :
 mQ m (Op.buildSlice e 1 zero [(0,size)] [x]) λ g o mk=>mQ g (Op.append e size bytes [v,mk H.next] (H.alloc o)) (K o mk):=by
 rw [Kx e size zero x hz hx];have hfr:Fr Em H (H.alloc (.row x.cells e (0,0) true)):=(Fr.refl H).alloc _;refine mQ.intro rfl ?_;refine qzc (m:=aB) (h.em hfr) (rS hx) hnew hs hf hf' λ v' H' h1 h2 h3=>hk v' H' h1 ?_ λ b hb=>?_
 ·exact ⟨xt hfr.next h2.next,λ b hb hw=>by rw [h2.ae b (qp hb hfr.next) hw,hfr.ae b hb (λ q=>q)]⟩
 ·exact (h3 b hb).imp id λ q=>xt hfr.next q
theorem CY.intro {W:St->bX->Prop} {ae:Option (List Nat)} {st:St} {Q:bX} (I:Nat->St->Prop) (n:Nat) (h0:I n st)
 (h:∀ n st,I n st->W (gg ae st) λ e st'=>match e with
  | .normal=>∃ m,m<n/\I m st'
  | e=>Q e st'):CY W ae st Q:=⟨I,⟨n,h0⟩,h⟩
end Go.Am
namespace Go.Am
theorem As (H:AHeap) (tm:T AV) (t:Nat) (rs:List cS):cG H tm (.tmp t::rs)=(tm.get t).bind λ v=>(cG H tm rs).bind λ vs=>some (v::vs):=rfl
theorem xbe (H:AHeap) (tm:T AV) (t:Nat) (rs:List cS):cG H tm (.gA t::rs)=(((tm.get t).bind λ v=>Op.aa [v] H)).bind λ v=>(cG H tm rs).bind λ vs=>some (v::vs):=by
 simp only [cG,F7];congr 1;cases tm.get t with
 | none=>rfl
 | some v=>cases v<;>rfl
theorem xbf (H:AHeap) (tm:T AV) (n t:Nat) (rs:List cS):cG H tm (.cz n t::rs)=(((tm.get t).bind λ v=>Op.ao n [v] H)).bind λ v=>(cG H tm rs).bind λ vs=>some (v::vs):=by
 simp only [cG,F7];congr 1;cases tm.get t with
 | none=>rfl
 | some v=>cases v<;>rfl
theorem Mh (v:AV):de [v]=v:=rfl
theorem J9:de []=.tuple []:=rfl
theorem KZ (a b:AV) (l:List AV):de (a::b::l)=.tuple (a::b::l):=rfl
theorem Ii (b:Nat):Op.ptrTo b=.ptr b 0:=rfl
theorem qR (t:bT) (x y:AV) (H:AHeap) (q:Bool) (h:bg t x y=some q):Op.eq (.agg t) false [x,y] H=some (.bool q):=by simp [Op.eq,DL,h]
structure I3 where
 kind:Int
 time:Int
 core:Int
 block:Int
 Ln:Int
 lane:Int
 addr:Int
 value:Int
 code:Int
deriving DecidableEq
def I3.enc (x:I3):List AV:=[.int .i64 x.kind,.int .i64 x.time,.int .i64 x.core,.int .i64 x.block,.int .i64 x.Ln,.int .i64 x.lane,.int .i64 x.addr,.int .u64 x.value,.int .i64 x.code]
theorem I3.len (x:I3):x.enc.length=9:=rfl
end Go.Am
namespace Go.Am
theorem qz (H:AHeap) (o:bL):(H.alloc o).get H.next=some o:=by rw [AHeap.bn,qr rfl]
theorem KH {H:AHeap} {b:Nat} (h:b<H.next) (o:bL):(H.alloc o).get b=H.get b:=by rw [AHeap.bn,qf (by omega)]
theorem xe (H:AHeap) (b:Nat) (o:bL):(H.set b o).get b=some o:=by rw [AHeap.aK,qr rfl]
theorem ww {H:AHeap} {b b':Nat} (h:b ≠ b') (o:bL):(H.set b o).get b'=H.get b':=by rw [AHeap.aK,qf h]
theorem nV {H:AHeap} {b:Nat} {c:List AV} {e:Nat} (h:H.get b=some (.row c e (0,0) true)) {o n:Nat} {v:AV} (hv:v.cells.length=n) (hn:o+n<=c.length) (h1:aY v.cells=true) :
 Op.store n [.ptr b o,v] H=some (.undef,H.set b (.row (c.take o++v.cells++c.drop (o+n)) e (0,0) true)):=by
 have e1:∀ n,Nat.beq n n=true:=λ n=>by simp
 simp only [Op.store,Aj,hv,e1,xh,AHeap.store,h1,h];have:cN (0,0) o n=true:=by simp [cN]
 simp only [this,xh,wK,hv,qr hn,qn]
theorem q5w {H:AHeap} {b m s:Nat} {c:List AV} {e:Nat} (h:H.get b=some (.grown m s c e (0,0))) {o n:Nat} {v:AV} (hv:v.cells.length=n) (hn:o+n<=c.length) (h1:aY v.cells=true) :
 Op.store n [.ptr b o,v] H=some (.undef,H.set b (.grown m s (c.take o++v.cells++c.drop (o+n)) e (0,0))):=by
 have e1:∀ n,Nat.beq n n=true:=λ n=>by simp
 simp only [Op.store,Aj,hv,e1,xh,AHeap.store,h1,h];have:cN (0,0) o n=true:=by simp [cN]
 simp only [this,xh,wK,hv,qr hn,qn]
def dt {α:Type} (enc:α->List AV) (e size:Nat) (H:AHeap) (v:AV) (xs:List α):Prop:=Own H e size v xs.length (xs.flatMap enc)
structure oZ {α:Type} (enc:α->List AV) (e size:Nat) (H0 H:AHeap) (v:AV) (xs:List α):Prop where
 own:dt enc e size H v xs
 fr:Fr Em H0 H
 fresh:∀ b,bC v b->H0.next<=b
section
variable {α:Type} {enc:α->List AV} {e size:Nat} {H0 H H':AHeap} {v:AV} {xs:List α}
theorem dP.one (h:dP enc size H v xs):bm v=true:=Sl.one h
theorem oZ.nil (H:AHeap):oZ enc e size H H .nils ([]:List α):=⟨Own.nil H e size,Fr.refl H,λ b h=>(h.1 rfl).elim⟩
theorem oZ.sl (h:oZ enc e size H0 H v xs):dP enc size H v xs:=Own.sl h.own
theorem dt.sl (h:dt enc e size H v xs):dP enc size H v xs:=Own.sl h
theorem oZ.em (h:oZ enc e size H0 H v xs) (f:Fr Em H H'):oZ enc e size H0 H' v xs:=⟨Own.em h.own f,h.fr.em f,h.fresh⟩
theorem oZ.len (h:oZ enc e size H0 H v xs):Op.bP [v]=some (.int .i64 xs.length):=h.sl.len
theorem oZ.step (h:oZ enc e size H0 H v xs) {v':AV} {ys:List α} (h1:dt enc e size H' v' ys) (h2:Fr (bC v) H H') (h3:∀ b,bC v' b->bC v b\/H.next<=b):oZ enc e size H0 H' v' ys :=
 ⟨h1,h.fr.trans h2 λ x hx=>.inr (h.fresh x hx),λ b hb=>(h3 b hb).elim (h.fresh b) λ q=>xt h.fr.next q⟩
theorem MC {f:α->List AV} (hs:∀ x,(f x).length=size):∀ (xs:List α) {i:Nat} {x:α},xs[i]? = some x -> ∀ (y:α),(xs.set i y).flatMap f=(xs.flatMap f).take (i*size)++f y++(xs.flatMap f).drop (i*size+size)
 | [],i,x,h,y=>by simp at h
 | z::zs,0,x,h,y=>by
  simp at h;subst h;simp only [List.set_cons_zero,jv,vp,AY,zy,ye];rw [kw (by rw [hs];omega),j5 (by rw [hs];omega),zy]
 | z::zs,i+1,x,h,y=>by
  simp only [zt] at h;have e1:(f z++zs.flatMap f).take ((i+1)*size)=f z++(zs.flatMap f).take (i*size):=by
   rw [show (i+1)*size=(f z).length+i*size from by rw [hs,pW];omega,List.take_length_add_append]
  have e2:(f z++zs.flatMap f).drop ((i+1)*size+size)=(zs.flatMap f).drop (i*size+size):=by
   rw [show (i+1)*size+size=(f z).length+(i*size+size) from by rw [hs,pW];omega,List.drop_length_add_append]
  rw [List.set_cons_succ,jv,jv,MC hs zs h y,e1,e2];simp only [zk]
theorem xY (hs:∀ x,(enc x).length=size) (l:List α):(l.flatMap enc).length=l.length*size:=by
 induction l with
 | nil=>simp
 | cons a l ih=>rw [jv,qy,hs,ih,yi,pW];omega
theorem xT {L E:List AV} {k0 j:Nat} {u:AV} (hE:E.length=size) (hj:j<size) (hk:k0+size<=L.length) (h:∀ r,r<size->L[k0+r]? = E[r]?) :
 L.take k0++E.set j u++L.drop (k0+size)=L.set (k0+j) u:=by
 refine kx λ k=>?_;have h1:(L.take k0).length=k0:=by rw [jy];omega
 rw [zk,List.getElem?_set];rcases jr k k0 with q|q
 ·rw [km (by omega),kq,qr q,qf (by omega)]
 ·rw [jq (by omega),h1];obtain ⟨r,rfl⟩:∃ r,k=k0+r:=⟨k-k0,by omega⟩
  rw [show k0+r-k0=r from by omega];rcases jr r size with q'|q'
  ·rw [km (by rw [xd];omega),List.getElem?_set]
   by_cases hjr:j=r
   ·subst hjr;rw [qr rfl,qr rfl,qr (by omega),qr (by omega)]
   ·rw [qf hjr,qf (by omega),h r q']
  ·rw [jq (by rw [xd];omega),xd,ya,qf (by omega)];congr 1;omega
end
end Go.Am
namespace Go.Am
theorem pK {k mx d:Nat} {z:Int} (hz:z=k) (h:k<=mx) (kk:IntKind):bound (some (.int kk z)) d mx=some k:=by
 subst hz;show cond (Nat.ble k mx) (some k) none=some k;rw [ym h];rfl
theorem Sl.from {H:AHeap} {size:Nat} {v:AV} {n:Nat} {cells:List AV} (h:Sl H size v n cells) {k:Nat} (hk:k<=n) {z:Int} (hz:z=k) (kk:IntKind) :
 ∃ v',Op.aR size [some 0,none,none] [v,.int kk z]=some v'/\Sl H size v' (n-k) (cells.drop (k*size))/\(v'=.nils\/aO v'=aO v):=by
 obtain ⟨hl,h⟩:=h;have hlen:(cells.drop (k*size)).length=(n-k)*size:=by rw [j6,hl,Nat.sub_mul]
 have hkn:k*size<=n*size:=kc _ hk;have hsub:(n-k)*size=n*size-k*size:=Nat.sub_mul n k size;split at h
 ·subst h;have:k=0:=by omega
  subst this;refine ⟨.nils,?_,⟨hlen,rfl⟩,.inl rfl⟩;have hbn:bound none 0 0=some 0:=rfl;simp [Op.aR,arg,iV,df,hbn,pK hz (qi 0)]
 ·rename_i b o m c;obtain ⟨rfl,hc,h⟩:=h;have hb1:∀ d m,bound none d m=some d:=λ _ _=>rfl;refine ⟨.slice b (cond (Nat.beq c k) o (o+k*size)) (m-k) (c-k),by simp [Op.aR,arg,iV,df,hb1,pK hz hk],⟨hlen,rfl,by omega,?_⟩,.inr rfl⟩;rcases h with h|⟨hb,all,h1,h2⟩
  ·left;omega
  ·by_cases he:c=k
   ·left;omega
   ·right;obtain ⟨h3,rfl⟩:=JV h2;refine ⟨hb,all,h1,?_⟩;rw [Ef he,zg,oY,qr (by omega),List.drop_take,BQ];simp [hsub]
 ·rename_i b i m s alt q;obtain ⟨rfl,rfl,hm,h⟩:=h;have e1:∀ n,Nat.beq n n=true:=λ n=>by simp
  have hb1:∀ d m,bound none d m=some d:=λ _ _=>rfl;have hq:=ym (show q<=m-i by omega);have him:=ym (show i<=m by omega);refine ⟨.gslice b (i+k) m s (cond (Nat.beq k 0) alt (i*s)) (q-k),by simp only [Op.aR,arg,iV,jj,qn,df,hb1,pK hz hk,e1,him,hq,jd,xh],⟨hlen,rfl,rfl,by omega,?_⟩,.inr rfl⟩;rcases h with h|⟨hb,all,h1,h2⟩
  ·left;omega
  ·right;obtain ⟨h3,rfl⟩:=JV h2;refine ⟨hb,all,h1,?_⟩;rw [oY,qr (by rw [kh];omega),List.drop_take,BQ,kh];simp [hsub]
 ·rename_i b;obtain ⟨rfl,hb⟩:=h;have:k=0:=by omega
  subst this;have hbn:bound none 0 0=some 0:=rfl;refine ⟨.eslice b,?_,⟨hlen,rfl,hb⟩,.inr rfl⟩;simp [Op.aR,arg,iV,df,hbn,pK hz (qi 0)]
 ·exact h.elim
section
variable {α:Type} {enc:α->List AV} {size:Nat} {H H':AHeap} {v:AV} {xs:List α}
theorem qts (hs:∀ x,(enc x).length=size):∀ (xs:List α) (k:Nat),(xs.flatMap enc).drop (k*size)=(xs.drop k).flatMap enc
 | [],k=>by simp
 | x::xs,0=>by simp
 | x::xs,k+1=>by
  rw [jv,show (k+1)*size=(enc x).length+k*size from by rw [hs,pW];omega,List.drop_length_add_append,qts hs xs k];rfl
theorem dP.from (hs:∀ x,(enc x).length=size) (h:dP enc size H v xs) {k:Nat} (hk:k<=xs.length) {z:Int} (hz:z=k) (kk:IntKind) :
 ∃ v',Op.aR size [some 0,none,none] [v,.int kk z]=some v'/\dP enc size H v' (xs.drop k)/\(v'=.nils\/aO v'=aO v):=by
 obtain ⟨v',h1,h2,h3⟩:=Sl.from h hk hz kk
 refine ⟨v',h1,?_,h3⟩;unfold dP;rw [j6,<-qts hs];exact h2
def dA (enc:α->List AV) (e size:Nat) (H:AHeap) (v:AV) (xs:List α):Prop:=∃ b,v=.slice b 0 xs.length xs.length/\b<H.next/\H.get b=some (.row (xs.flatMap enc) e (0,0) true)
theorem dA.sl {e:Nat} (hs:∀ x,(enc x).length=size) (h:dA enc e size H v xs):dP enc size H v xs:=by
 obtain ⟨b,rfl,h1,h2⟩:=h;refine ⟨xY hs xs,rfl,qi _,.inr ⟨h1,_,xc h2,?_⟩⟩;rw [oY,qr (by rw [xY hs];omega),F0,zu (by rw [xY hs];omega)]
theorem dA.fr {e:Nat} {W:Nat->Prop} (h:dA enc e size H v xs) (f:Fr W H H') (hw:¬ W (aO v)):dA enc e size H' v xs:=by
 obtain ⟨b,rfl,h1,h2⟩:=h;exact ⟨b,rfl,qp h1 f.next,by rw [f.ae b h1 hw];exact h2⟩
theorem dA.lt {e:Nat} (h:dA enc e size H v xs):aO v<H.next:=by
 obtain ⟨b,rfl,h1,h2⟩:=h;exact h1
theorem dA.yS {e:Nat} (hs:∀ x,(enc x).length=size) (h:dA enc e size H v xs) {i:Nat} {x y:α} (hx:xs[i]? = some x) {j:Nat} (hj:j<size) {u:AV} (hu:bm u=true) (hy:enc y=(enc x).set j u) :
 ∃ H',Op.store 1 [.ptr (aO v) (cm size v i+j),u] H=some (.undef,H')/\dA enc e size H' v (xs.set i y)/\Fr (On (aO v)) H H':=by
 obtain ⟨b,rfl,h1,h2⟩:=h;have hi:=BR hx;have hl:=xY hs xs;have hb:(i+1)*size<=xs.length*size:=kc _ hi;rw [pW] at hb;have hc:u.cells=[u]:=by cases u<;>first|rfl|cases hu
 have hst:=nV h2 (o:=i*size+j) (n:=1) (v:=u) (by rw [hc];rfl) (by omega) (by rw [hc,nu];simpa using hu);have ho:cm size (AV.slice b 0 xs.length xs.length) i=i*size:=by simp [cm]
 rw [ho];refine ⟨_,hst,⟨b,?_,h1,?_⟩,(Fr.refl H).set (W:=On b) (.inl rfl) _⟩
 ·rw [xd]
 ·rw [xe,MC hs xs hx,hy,hc,xT (L:=xs.flatMap enc) (E:=enc x) (hs x) hj (by omega) (λ r hr=>Cg hs xs hx hr),List.set_eq_take_append_cons_drop,qr (by omega)];simp
end
theorem Jx (e bytes:Nat) (z:List AV) (n:Nat) (k k':IntKind) (h:n*bytes<=140737488355328) (h':n<=140737488355328) :
 Op.mkSlice e bytes z [.int k n,.int k' n]=some (.row (dk n z) e (0,0) true,Op.sliceTo n n):=by
 have h1:nJ 0 (n:Int)=true:=by rw [yA];simp
 have h2:nJ (n:Int) n=true:=by rw [yA];simp
 have h3:nJ ((n:Int)*(bytes:Int)) 140737488355328=true:=by rw [yA];simp;omega
 have h4:nJ (n:Int) 140737488355328=true:=by rw [yA];simp;omega
 simp [Op.mkSlice,h1,h2,h3,h4]
end Go.Am
namespace Go.Am
theorem q50 {tm:T AV} {x:bD} {K K':AV->Prop} (h:vY tm x K) (hk:∀ v,K v->K' v):vY tm x K':=by
 obtain ⟨v,h1,h2⟩:=h.elim;cases x with
 | tmp t=>simp only [lA] at h1;simp only [vY,bt,h1];exact hk v h2
 | const c=>injection h1 with h1;subst h1;exact hk _ h2
 | c7 c=>injection h1 with h1;subst h1;exact hk _ h2
 | func c=>injection h1 with h1;subst h1;exact hk _ h2
theorem Bq {tm:T AV}:∀ {l:List bD} {K K':List AV->Prop},kE tm l K->(∀ v,K v->K' v)->kE tm l K'
 | [],K,K',h,hk=>hk _ h
 | .tmp t::xs,K,K',h,hk=>by
  simp only [kE] at h ⊢;unfold bt at h ⊢;split at h
  ·exact Bq h λ vs=>hk _
  ·exact h.elim
 | .const v::xs,K,K',h,hk=>Bq (l:=xs) h λ vs=>hk _
 | .c7 v::xs,K,K',h,hk=>Bq (l:=xs) h λ vs=>hk _
 | .func v::xs,K,K',h,hk=>Bq (l:=xs) h λ vs=>hk _
theorem wD {α:Type} {m:Bool} {o:Option α} {K K':α->Prop} (h:bt m o K) (hk:∀ a,K a->K' a):bt m o K':=by
 cases o with
 | none=>exact h
 | some a=>exact hk a h
theorem qzb {α β:Type} {m:Bool} {o:Option (α × β)} {K K':α -> β->Prop} (h:eX m o K) (hk:∀ a b,K a b->K' a b):eX m o K':=by
 cases o with
 | none=>exact h
 | some a=>exact hk a.1 a.2 h
section
variable {AP:aM}
theorem I1 {m:Bool} {f:fk} {vs:List AV} {H:AHeap} {K K':AV->AHeap->Prop} {E E':aC->AHeap->Prop} (h:im AP m f vs H K E) (hk:∀ v H,K v H->K' v H) (he:∀ c H,E c H->E' c H):im AP m f vs H K' E':=by
 obtain ⟨e,H',h1,h2⟩:=h;refine ⟨e,H',h1,?_⟩;cases e with
 | ret v=>exact hk _ _ h2
 | panic c=>exact he _ _ h2
theorem ID {ps:Option (List Nat)} {tm:T AV} {aS:List aN} {up:Option aC} {Q Q':bX} (hq:∀ e st,Q e st->Q' e st) (c:aC) (H:AHeap) (h:wQ ps tm aS up Q c H):wQ ps tm aS up Q' c H:=by
 cases ps with
 | none=>exact h
 | some ds=>exact hq _ _ h
theorem q52 {ctx:Ctx} {dst:Option Nat} {ps:Option (List Nat)} {st:St} {Q Q':bX} {K K':St->Prop} {vs:List AV} {op:dH} (h:kD AP ctx dst ps st Q K vs op) (hq:∀ e st,Q e st->Q' e st) (hk:∀ st,K st->K' st):kD AP ctx dst ps st Q' K' vs op:=by
 cases op with
 | pure f=>exact wD (m:=aB) h λ _=>hk _
 | read f=>exact wD (m:=aB) h λ _=>hk _
 | alloc f=>simp only [kD] at h ⊢;exact qzb h λ _ _=>hk _
 | eF f=>simp only [kD] at h ⊢;exact qzb h λ _ _=>hk _
 | eM f=>exact I1 (m:=aB) h (λ _ _=>hk _) (ID hq)
 | eN =>
  simp only [kD,Dv] at h ⊢;split at h
  ·exact I1 h (λ _ _=>hk _) (ID hq)
  ·exact I1 h (λ _ _=>hk _) (ID hq)
  ·exact h.elim
 | invoke n =>
  simp only [kD,Cj] at h ⊢;split at h
  ·exact wD h λ _ q=>I1 q (λ _ _=>hk _) (ID hq)
  ·exact h.elim
 | recover =>
  simp only [kD,nG] at h ⊢;split at h
  ·refine ⟨h.1,?_⟩;have h2:=h.2;split at h2<;>exact hk _ h2
  ·exact h.elim
 | defer =>
  simp only [kD,rU] at h ⊢;refine ⟨h.1,?_⟩;have h2:=h.2;split at h2
  ·exact hk _ h2
  ·exact h2.elim
 | panic =>
  simp only [kD,eh] at h ⊢;split at h
  ·exact ID hq _ _ h
  ·exact h.elim
theorem q9d {ctx:Ctx} {s:aU} {st:St} {Q Q':bX} {K K':St->Prop} (h:oP AP ctx s st Q K) (hq:∀ e st,Q e st->Q' e st) (hk:∀ st,K st->K' st):oP AP ctx s st Q' K':=by
 obtain ⟨eJ,dst,guard,args,op,ps⟩:=s;cases eJ with
 | false =>
  cases guard with
  | none=>exact Bq h λ _ q=>q52 q hq hk
  | some g =>
   refine wD (m:=aB) h λ w q=>?_;cases w with
   | true=>exact Bq (K:=_) q λ _ q=>q52 q hq hk
   | false=>exact hk _ q
 | true =>
  cases guard with
  | none=>exact Bq h λ _ q=>⟨q.1,hk _ q.2⟩
  | some g =>
   refine wD (m:=aB) h λ w q=>?_;cases w with
   | true=>exact Bq (K:=_) q λ _ q=>⟨q.1,hk _ q.2⟩
   | false=>exact ⟨q.1,hk _ q.2⟩
theorem q53 {ctx:Ctx}:∀ {l:List aU} {st:St} {Q Q':bX},lQ AP ctx l st Q->(∀ e st,Q e st->Q' e st)->lQ AP ctx l st Q'
 | [],st,Q,Q',h,hq=>hq _ _ h
 | s::rest,st,Q,Q',h,hq=>q9d h hq λ st' h'=>q53 h' hq
theorem Fp {ctx:Ctx} {st:St} {k:Nat} {H0:AHeap} {aS:List aN} {d:Nat} {Q Q':bX} {v:AV} (h:ij AP ctx st k H0 aS d Q v) (hq:∀ e st,Q e st->Q' e st):ij AP ctx st k H0 aS d Q' v:=by
 unfold ij at h ⊢;split at h
 ·obtain ⟨e,H',h1,h2⟩:=h;refine ⟨e,H',h1,?_⟩;cases e with
  | panic c=>exact hq _ _ h2
  | ret v=>obtain ⟨s,p,f,k,tm,d,q1,q2,q3⟩:=h2;exact ⟨s,p,f,k,tm,d,q1,q2,hq _ _ q3⟩
 ·exact h.elim
theorem mj {ctx:Ctx}:∀ {c:ah} {st:St} {Q Q':bX},WP AP ctx c st Q->(∀ e st,Q e st->Q' e st)->WP AP ctx c st Q'
 | .skip,st,Q,Q',h,hq=>hq _ _ h
 | .label _,st,Q,Q',h,hq=>hq _ _ h
 | .exit _,st,Q,Q',h,hq=>hq _ _ h
 | .goto _,st,Q,Q',h,hq=>hq _ _ h
 | .ret,st,Q,Q',h,hq=>hq _ _ h
 | .stuck,st,Q,Q',h,hq=>h.elim
 | .region l,st,Q,Q',h,hq=>q53 h hq
 | .seq a b,st,Q,Q',h,hq=>mj (c:=a) h λ e st' h'=>by
  cases e with
  | normal=>exact mj (c:=b) h' hq
  | exit _=>exact hq _ _ h'
  | goto _=>exact hq _ _ h'
  | ret=>exact hq _ _ h'
  | panic _=>exact hq _ _ h'
 | .cond c a b,st,Q,Q',h,hq=>q50 h λ v q=>wD (m:=aB) q λ w q=>by
  cases w with
  | true=>exact mj (c:=a) q hq
  | false=>exact mj (c:=b) q hq
 | .block id b,st,Q,Q',h,hq=>mj (c:=b) h λ e st' h'=>by cases e<;>exact hq _ _ h'
 | .scope b,st,Q,Q',h,hq=>mj (c:=b) h λ e st' h'=>by
  cases e with
  | goto l=>exact ⟨h'.1,hq _ _ h'.2⟩
  | normal=>exact hq _ _ h'
  | exit _=>exact hq _ _ h'
  | ret=>exact hq _ _ h'
  | panic _=>exact hq _ _ h'
 | .loop ae b,st,Q,Q',⟨I,h0,h⟩,hq=>⟨I,h0,λ n st hi=>mj (c:=b) (h n st hi) λ e st' h'=>by cases e<;>first|exact h'|exact hq _ _ h'⟩
 | .rangeFunc f k,st,Q,Q',h,hq=>q50 h λ v q=>by
  unfold AJ at q ⊢;split at q
  ·exact Fp q hq
  ·exact wD (m:=aB) q λ d q=>Fp q hq
def dL:aH->Prop
 | .exit _=>True
 | .goto _=>True
 | .ret=>True
 | _=>False
end
end Go.Am
namespace Go.Am
noncomputable section
abbrev aJ:=aH->Env->List aN->AHeap->Prop
def lk (E:Env) (t:Nat):Option AV:=List.rec (motive:=λ _=>Option AV) none (λ p _ ih=>cond (Nat.beq p.1 t) (some p.2) ih) E
theorem sn (t:Nat):lk [] t=none:=rfl
theorem pq (k t:Nat) (v:AV) (E:Env):lk ((k,v)::E) t=if k=t then some v else lk E t:=by
 show cond (Nat.beq k t) (some v) (lk E t)=_;cases hb:Nat.beq k t with
 | true=>rw [qr (Nat.eq_of_beq_eq_true hb)];rfl
 | false=>rw [qf (GZ hb)];rfl
def bO (t:Nat) (l:List Nat):Bool:=List.rec (motive:=λ _=>Bool) false (λ x _ ih=>cond (Nat.beq x t) true ih) l
def dy (ks:List Nat) (E:Env) (tm:T AV):Prop:=∀ t v,lk E t=some v->tm.get t=some v/\bO t ks=true
def mY:Env->Env->Prop
 | [],_=>True
 | (k,v)::r,E=>lk E k=some v/\mY r E
theorem yX (E:Env):mY [] E=True:=rfl
theorem sr (k:Nat) (v:AV) (r E:Env):mY ((k,v)::r) E=(lk E k=some v/\mY r E):=rfl
theorem mY.look:∀ {A E:Env},mY A E -> ∀ {t:Nat} {v:AV},lk A t=some v->lk E t=some v
 | [],E,_,t,v,h=>by cases h
 | (k,w)::r,E,h,t,v,hl=>by
  rw [pq] at hl;split at hl
  ·rename_i e;subst e;injection hl with hl;subst hl;exact h.1
  ·exact mY.look h.2 hl
theorem mY.sub {ks:List Nat} {A E:Env} (h:mY A E) {tm:T AV} (he:dy ks E tm):dy ks A tm:=λ t v hl=>he t v (h.look hl)
def SS (A E:Env):Prop:=∀ t v,lk A t=some v->lk E t=some v
theorem mY.ss {A E:Env} (h:mY A E):SS A E:=λ t v hl=>h.look hl
theorem SS.sub {ks:List Nat} {A E:Env} (h:SS A E) {tm:T AV} (he:dy ks E tm):dy ks A tm:=λ t v hl=>he t v (h t v hl)
def B3 {α:Type} (m:Bool) (o:Option α) (K:Bool -> α->Prop):Prop:=match o with
 | some a=>K m a
 | none=>False
def aZ {α β:Type} (m:Bool) (o:Option (α × β)) (K:Bool -> α -> β->Prop):Prop:=match o with
 | some a=>K m a.1 a.2
 | none=>False
def br (m:Bool) (v:AV) (A B:Bool->Prop):Prop:=match v with
 | .bool q=>match q with
  | true=>A m
  | false=>B m
 | _=>False
def cd (m:Bool) (q:Bool) (A B:Bool->Prop):Prop:=match q with
 | true=>A m
 | false=>B m
def uG (m:Bool) (o o':Option AV) (K:Bool->Prop):Prop:=(∃ v,o=some v/\o'=some v)/\K m
def A3 (m:Bool) (e:Nat) (z:List AV) (H:AHeap) (K:Bool->AV->AHeap->Prop):Prop:=K m (.ptr H.next 0) (H.alloc (.row z e (0,0) true))
def JN {α:Type} (F:α->Prop) (K:α):Prop:=F K
def aw (m:Bool) (Q:aJ) (e:aH) (E:Env) (D:List aN) (H:AHeap):Prop:=Q e E D H
theorem zQ {α:Type} (a:α) (K:Bool -> α->Prop):B3 true (some a) K=K true a:=propext j4
theorem uf {α β:Type} (a:α) (b:β) (K:Bool -> α -> β->Prop):aZ true (some (a,b)) K=K true a b:=propext j4
theorem tR (A B:Bool->Prop):br true (.bool true) A B=A true:=propext j4
theorem q84 (A B:Bool->Prop):br true (.bool false) A B=B true:=propext j4
theorem sC (A B:Bool->Prop):cd true true A B=A true:=propext j4
theorem q85 (A B:Bool->Prop):cd true false A B=B true:=propext j4
theorem JJ (v:AV) (K:Bool->Prop):uG true (some v) (some v) K=K true:=propext ⟨λ h=>h.2,λ h=>⟨⟨v,rfl,rfl⟩,h⟩⟩
theorem Gm (e:Nat) (z:List AV) (H:AHeap) (K:Bool->AV->AHeap->Prop):A3 true e z H K=K true (.ptr H.next 0) (H.alloc (.row z e (0,0) true)):=propext j4
theorem qg {α:Type} (F:α->Prop) (K:α):JN F K=F K:=propext j4
theorem tV (Q:aJ) (e:aH) (E:Env) (D:List aN) (H:AHeap):aw true Q e E D H=Q e E D H:=propext j4
@[congr] theorem Hm {α:Type} {m m':Bool} {o o':Option α} {K:Bool -> α->Prop} (hm:m=m') (h:o=o'):B3 m o K=B3 m' o' K:=by subst hm;subst h;rfl
@[congr] theorem Fg {α β:Type} {m m':Bool} {o o':Option (α × β)} {K:Bool -> α -> β->Prop} (hm:m=m') (h:o=o'):aZ m o K=aZ m' o' K:=by subst hm;subst h;rfl
@[congr] theorem FG {m m':Bool} {v v':AV} {A B:Bool->Prop} (hm:m=m') (h:v=v'):br m v A B=br m' v' A B:=by subst hm;subst h;rfl
@[congr] theorem Fy {m m':Bool} {v v':Bool} {A B:Bool->Prop} (hm:m=m') (h:v=v'):cd m v A B=cd m' v' A B:=by subst hm;subst h;rfl
@[congr] theorem Fj {m m':Bool} {o o' p p':Option AV} {K:Bool->Prop} (hm:m=m') (h:o=o') (h':p=p'):uG m o p K=uG m' o' p' K:=by subst hm;subst h;subst h';rfl
@[congr] theorem HD {m m':Bool} {e:Nat} {z z':List AV} {H H':AHeap} {K:Bool->AV->AHeap->Prop} (hm:m=m') (h:z=z') (h':H=H'):A3 m e z H K=A3 m' e z' H' K:=by subst hm;subst h;subst h';rfl
theorem B3.elim {α:Type} {m:Bool} {o:Option α} {K:Bool -> α->Prop} (h:B3 m o K):∃ a,o=some a/\K m a:=by
 cases o with
 | none=>exact False.elim h
 | some a=>exact ⟨a,rfl,h⟩
theorem aZ.elim {α β:Type} {m:Bool} {o:Option (α × β)} {K:Bool -> α -> β->Prop} (h:aZ m o K):∃ a b,o=some (a,b)/\K m a b:=by
 cases o with
 | none=>exact False.elim h
 | some a=>exact ⟨a.1,a.2,rfl,h⟩
theorem LK.elim {α:Type} {m:Bool} {o:Option α} {K:Bool -> α->Prop} (h:LK m o K):∃ a,o=some a/\K m a:=by
 cases o with
 | none=>exact False.elim h
 | some a=>exact ⟨a,rfl,h⟩
theorem B3.intro {α:Type} {m:Bool} {o:Option α} {K:Bool -> α->Prop} {a:α} (h:o=some a) (hk:K m a):B3 m o K:=by subst h;exact hk
theorem aZ.intro {α β:Type} {m:Bool} {o:Option (α × β)} {K:Bool -> α -> β->Prop} {a:α} {b:β} (h:o=some (a,b)) (hk:K m a b):aZ m o K:=by subst h;exact hk
theorem br.cases {m:Bool} {q:Bool} {A B:Bool->Prop} (h1:q=true->A m) (h2:q=false->B m):br m (.bool q) A B:=by
 cases q with
 | true=>exact h1 rfl
 | false=>exact h2 rfl
theorem cd.cases {m:Bool} {q:Bool} {A B:Bool->Prop} (h1:q=true->A m) (h2:q=false->B m):cd m q A B:=by
 cases q with
 | true=>exact h1 rfl
 | false=>exact h2 rfl
theorem br.elim {m:Bool} {v:AV} {A B:Bool->Prop} (h:br m v A B):∃ q,v=.bool q/\(match q with|true=>A m|false=>B m):=by
 unfold br at h;split at h
 ·exact ⟨_,rfl,h⟩
 ·exact h.elim
section
variable (M:aM)
structure Kp where
 ae:List Nat
 cj:Bool
 named:List Nat
def c6 (K:List Nat) (E L:Env):Env:=List.rec (motive:=λ _=>Env) E (λ p _ ih=>cond (bO p.1 K) (p::ih) ih) L
def lX (ds:List Nat) (E:Env):Env:=List.rec (motive:=λ _=>Env) [] (λ p _ ih=>cond (bO p.1 ds) ih (p::ih)) E
def iI (L:Env):List Nat:=List.rec (motive:=λ _=>List Nat) [] (λ p _ ih=>p.1::ih) L
abbrev KR:=Bool->Env->Env->AHeap->Prop
def TV (E L R:Env) (t:Nat) (g:Bool) (K:Bool->Env->AV->Prop):Prop :=
 Option.rec (motive:=λ _=>Prop) (Option.rec (motive:=λ _=>Prop) (LK g (lk E t) λ g v=>K g ((t,v)::R) v) (λ v=>K g R v) (lk R t)) (λ v=>K g R v) (lk L t)
def pD (E L:Env) (l:List bD):Bool->Env->(Bool->Env->List AV->Prop)->Prop:=List.rec (motive:=λ _=>Bool->Env->(Bool->Env->List AV->Prop)->Prop) (λ g R K=>K g R [])
 (λ x _ ih g R K=>bD.casesOn x (λ t=>TV E L R t g λ g R v=>ih g R λ g R vs=>K g R (v::vs)) (λ v=>ih g R λ g R vs=>K g R (v::vs)) (λ b=>ih g R λ g R vs=>K g R (.ptr b 0::vs)) (λ f=>ih g R λ g R vs=>K g R (.fn (.func f) [] []::vs))) l
def C3 (m:Bool) (f:fk) (vs:List AV) (H:AHeap) (K:Bool->AV->AHeap->Prop):Prop:=∃ v H',nK M f vs H (.ret v) H'/\K m v H'
def P3 (m:Bool) (X:aC->AHeap->Prop) (f:fk) (vs:List AV) (H:AHeap) (K:Bool->AV->AHeap->Prop):Prop:=∃ e H',nK M f vs H e H'/\match e with
 | .ret v=>K m v H'
 | .panic c=>X c H'
@[congr] theorem Gu {M:aM} {m m':Bool} {f f':fk} {vs vs':List AV} {H H':AHeap} {K:Bool->AV->AHeap->Prop} (hm:m=m') (hf:f=f') (h:vs=vs') (h':H=H'):C3 M m f vs H K=C3 M m' f' vs' H' K:=by subst hm;subst h;subst hf;subst h';rfl
@[congr] theorem G1 {M:aM} {m m':Bool} {X:aC->AHeap->Prop} {f f':fk} {vs vs':List AV} {H H':AHeap} {K:Bool->AV->AHeap->Prop} (hm:m=m') (hf:f=f') (h:vs=vs') (h':H=H'):P3 M m X f vs H K=P3 M m' X f' vs' H' K:=by subst hm;subst h;subst hf;subst h';rfl
def V3 (m:Bool) (vs:List AV) (K:Bool->fk->List AV->Prop):Prop:=match vs with
 | .fn (.func g) first cap::args=>K m (.func g) (first++(args++cap))
 | .fn (.yield l) first []::args=>K m (.yield l) (first++args)
 | _=>False
@[congr] theorem GA {m m':Bool} {vs vs':List AV} {K:Bool->fk->List AV->Prop} (hm:m=m') (h:vs=vs'):V3 m vs K=V3 m' vs' K:=by subst hm;subst h;rfl
theorem xC (g:Nat) (first cap args:List AV) (K:Bool->fk->List AV->Prop):V3 true (.fn (.func g) first cap::args) K=K true (.func g) (first++(args++cap)):=propext j4
theorem rV (l:Nat) (first args:List AV) (K:Bool->fk->List AV->Prop):V3 true (.fn (.yield l) first []::args) K=K true (.yield l) (first++args):=propext j4
def N3 (m:Bool) (name:String) (vs:List AV) (K:Bool->fk->List AV->Prop):Prop:=match vs with
 | .iface t v::args=>B3 m (M.lH t name) λ m g=>K m (.func g) (v::args)
 | _=>False
@[congr] theorem Gx {M:aM} {m m':Bool} {name:String} {vs vs':List AV} {K:Bool->fk->List AV->Prop} (hm:m=m') (h:vs=vs'):N3 M m name vs K=N3 M m' name vs' K:=by subst hm;subst h;rfl
theorem ur (name:String) (t:Nat) (v:AV) (args:List AV) (K:Bool->fk->List AV->Prop):N3 M true name (.iface t v::args) K=B3 true (M.lH t name) λ m g=>K m (.func g) (v::args):=propext j4
def PX (ps:Option (List Nat)) (ks:List Nat) (Q:aJ) (E:Env) (D:List aN) (c:aC) (H:AHeap):Prop:=match ps with
 | some ds=>Q (.panic c) (lX ds (lX ks E)) D H
 | none=>False
def sE (cj:Bool) (ps:Option (List Nat)) (L:Env) (Q:aJ) (E:Env) (D:List aN) (g:Bool) (f:fk) (vs:List AV) (H:AHeap) (K:Bool->AV->AHeap->Prop):Prop :=
 cond cj (P3 M g (PX ps (iI L) Q E D) f vs H K) (C3 M g f vs H K)
def nU (cj:Bool) (dst:Option Nat) (ps:Option (List Nat)) (Q:aJ) (E:Env) (D:List aN) (L R:Env) (H:AHeap) (K:KR) (g:Bool) (vs:List AV):dH->Prop
 | .pure f=>B3 g (f vs) λ g v=>K g (lG dst v L) R H
 | .read f=>B3 g (f vs H) λ g v=>K g (lG dst v L) R H
 | .alloc f=>aZ g (f vs) λ g o mk=>K g (lG dst (mk H.next) L) R (H.alloc o)
 | .eF f=>aZ g (f vs H) λ g v H=>K g (lG dst v L) R H
 | .eM f=>sE M cj ps L Q E D g (.func f) vs H (λ g v H=>K g (lG dst v L) R H)
 | .eN=>V3 g vs λ g f vs=>sE M cj ps L Q E D g f vs H (λ g v H=>K g (lG dst v L) R H)
 | .invoke name=>N3 M g name vs λ g f vs=>sE M cj ps L Q E D g f vs H (λ g v H=>K g (lG dst v L) R H)
 | .panic=>cond cj (eh vs H (PX ps (iI L) Q E D)) False
 | _=>False
def NG (L E:Env) (d:Nat):Option AV:=Option.rec (motive:=λ _=>Option AV) (lk E d) (λ v=>some v) (lk L d)
def JA (dst:Option Nat) (E L R:Env) (H:AHeap) (K:KR) (g:Bool) (vs:List AV):dH->Prop
 | .read f=>match dst with
  | some d=>uG g (f vs H) (NG L E d) λ g=>K g L R H
  | none=>False
 | _=>False
def wO (cj:Bool) (s:aU) (Q:aJ) (E:Env) (D:List aN) (K:KR):KR:=λ g L R H =>
 pD E L s.args g R λ g R vs=>match s.eJ with
  | false=>nU M cj s.dst s.bM Q E D L R H K g vs s.op
  | true=>JA s.dst E L R H K g vs s.op
def jZ (cj:Bool) (Q:aJ) (E:Env) (D:List aN) (K:KR) (l:List aU):KR:=List.rec (motive:=λ _=>KR) K (λ s _ ih=>wO M cj s Q E D ih) l
abbrev yR:=Option (Nat × Bool) × List aU
def mu:Option (Nat × Bool)->Option (Nat × Bool)->Bool
 | none,none=>true
 | some (t,b),some (u,c)=>cond (Nat.beq t u) (cond b c (!c)) false
 | _,_=>false
def CD (l:List aU):List yR:=List.rec (motive:=λ _=>List yR) [] (λ s _ ih=>List.casesOn (motive:=λ _=>List yR) ih [(s.guard,[s])] λ g r=>cond (mu g.1 s.guard) ((g.1,s::g.2)::r) ((s.guard,[s])::g::r)) l
def Co (o:Option Nat) (t:Nat):Bool:=Option.rec (motive:=λ _=>Bool) false (λ d=>Nat.beq d t) o
def oU (t:Nat) (l:List aU):Bool:=List.rec (motive:=λ _=>Bool) true (λ s _ ih=>cond (Co s.dst t) false (cond s.eJ (cond s.dst.isSome ih false) ih)) l
def CT (n:Nat):Type:=Nat.rec (motive:=λ _=>Type) (AHeap->Prop) (λ _ T=>AV->T) n
def kN (n:Nat):(List AV->AHeap->Prop)->CT n:=Nat.rec (motive:=λ n=>(List AV->AHeap->Prop)->CT n) (λ f=>f []) (λ _ ih f v=>ih λ l=>f (v::l)) n
def jT (n:Nat):CT n->List AV->AHeap->Prop:=Nat.rec (motive:=λ n=>CT n->List AV->AHeap->Prop) (λ k _=>k) (λ _ ih k l=>List.casesOn (motive:=λ _=>AHeap->Prop) l (λ _=>False) λ v l=>ih (k v) l) n
def bo (l:List aU):List Nat->List Nat:=List.rec (motive:=λ _=>List Nat->List Nat) (λ acc=>acc) (λ s _ ih acc=>ih (cond s.eJ acc (Option.rec (motive:=λ _=>List Nat) acc (λ d=>d::acc) s.dst))) l
def gF (ks:List Nat) (L:Env):List AV->Env:=List.rec (motive:=λ _=>List AV->Env) (λ _=>L) (λ k _ ih l=>List.casesOn (motive:=λ _=>Env) l L λ v l=>(k,v)::ih l) ks
def mh (n:Nat):Env->List AV:=Nat.rec (motive:=λ _=>Env->List AV) (λ _=>[]) (λ _ ih L=>List.casesOn (motive:=λ _=>List AV) L [] λ p L=>p.2::ih L) n
def mK (n:Nat):List AV:=Nat.rec (motive:=λ _=>List AV) [] (λ _ ih=>.undef::ih) n
def Js (cj:Bool) (Q:aJ) (E:Env) (D:List aN) (x:yR) (K:KR):KR:=λ g L R H=>match x.1 with
 | none=>jZ M cj Q E D K x.2 g L R H
 | some q=>cond (oU q.1 x.2) (TV E L R q.1 g λ g R v=>JN (α:=Bool->CT (ct (bo x.2 [])))
  (λ k=>B3 g (aA q.2 (some v)) λ g w=>cd g w (λ g=>jZ M cj Q E D (λ g L _ H=>jT (ct (bo x.2 [])) (k g) (mh (ct (bo x.2 [])) L) H) x.2 g L R H) (λ g=>jT (ct (bo x.2 [])) (k g) (mK (ct (bo x.2 []))) H))
  (λ g=>kN (ct (bo x.2 [])) λ vs H=>K g (gF (bo x.2 []) L vs) R H)) False
def ra (cj:Bool) (Q:aJ) (E:Env) (D:List aN) (K:KR) (l:List yR):KR:=List.rec (motive:=λ _=>KR) K (λ x _ ih=>Js M cj Q E D x ih) l
def mf (cj:Bool) (Q:aJ) (E:Env) (D:List aN) (l:List aU) (g:Bool) (H:AHeap) (K:KR):Prop:=ra M cj Q E D K (CD l) g [] [] H
abbrev WX:=Bool->aJ->Env->List aN->AHeap->Prop
def ak (X:WX) (Q:aJ):aJ:=λ e E D H=>match e with
 | .normal=>X true Q E D H
 | e=>Q e E D H
def aI (id:Nat) (Q:aJ):aJ:=λ e E D H=>match e with
 | .exit id'=>Q (cond (Nat.beq id id') .normal (.exit id')) E D H
 | e=>Q e E D H
def o9 (b:ah) (Q:aJ):aJ:=λ e E D H=>match e with
 | .goto l=>wT b l=false/\Q (.goto l) E D H
 | e=>Q e E D H
abbrev Cs:=Nat->Env->List aN->AHeap->Prop
def LP3 (I:Cs) (n:Nat) (Q:aJ):aJ:=λ e E D H=>match e with
 | .normal=>∃ m E',I m E' D H/\SS E' E/\m<n
 | e=>Q e E D H
def bq (X:WX) (Q:aJ) (E:Env) (D:List aN) (H:AHeap):Prop :=
 ∃ I:Cs,(∃ n E0,I n E0 D H/\SS E0 E) /\ ∀ n E D H,I n E D H->X true (LP3 I n Q) E D H
def eS (ks:List Nat) (ctx:Ctx) (k:Nat) (E:Env) (D:List aN) (H:AHeap) (Q:aJ) (v:AV):Prop :=
 ∀ tm up,dy ks E tm->AJ M ctx k ⟨tm,D,up,H⟩ (λ e st=>st.up=up/\st.tm=tm/\Q e E st.aS st.H) v
def OV (E:Env) (x:bD) (g:Bool) (K:Bool->AV->Prop):Prop:=match x with
 | .tmp t=>LK g (lk E t) K
 | .const v=>K g v
 | .c7 b=>K g (.ptr b 0)
 | .func f=>K g (.fn (.func f) [] [])
def CV (E L R:Env) (x:bD) (g:Bool) (K:Bool->AV->Prop):Prop:=match x with
 | .tmp t=>TV E L R t g λ g _ v=>K g v
 | .const v=>K g v
 | .c7 b=>K g (.ptr b 0)
 | .func f=>K g (.fn (.func f) [] [])
def W3 (ctx:Ctx) (K:Kp):ah->Bool->aJ->Env->List aN->AHeap->Prop
 | .skip,g,Q,E,D,H=>aw g Q .normal E D H
 | .label _,g,Q,E,D,H=>aw g Q .normal E D H
 | .exit id,g,Q,E,D,H=>aw g Q (.exit id) E D H
 | .goto l,g,Q,E,D,H=>aw g Q (.goto l) E D H
 | .ret,g,Q,E,D,H=>aw g Q .ret E D H
 | .stuck,_,_,_,_,_=>False
 | .region l,g,Q,E,D,H=>mf M K.cj Q E D l g H λ g L _ H=>aw g Q .normal (c6 K.ae E L) D H
 | .seq a b,g,Q,E,D,H=>match a,b with
  | .region l,.cond c x y=>mf M K.cj Q E D l g H λ g L R H=>CV E L R c g λ g v=>br g v (λ g=>W3 ctx K x g Q (c6 K.ae E L) D H) (λ g=>W3 ctx K y g Q (c6 K.ae E L) D H)
  | .region l,.seq (.cond c x y) r=>mf M K.cj Q E D l g H λ g L R H=>CV E L R c g λ g v=>br g v (λ g=>W3 ctx K x g (ak (W3 ctx K r) Q) (c6 K.ae E L) D H) (λ g=>W3 ctx K y g (ak (W3 ctx K r) Q) (c6 K.ae E L) D H)
  | .region l,b=>mf M K.cj Q E D l g H λ g L _ H=>W3 ctx K b g Q (c6 K.ae E L) D H
  | a,b=>W3 ctx K a g (ak (W3 ctx K b) Q) E D H
 | .cond c x y,g,Q,E,D,H=>OV E c g λ g v=>br g v (λ g=>W3 ctx K x g Q E D H) (λ g=>W3 ctx K y g Q E D H)
 | .block id b,g,Q,E,D,H=>W3 ctx K b g (aI id Q) E D H
 | .scope b,g,Q,E,D,H=>W3 ctx K b g (o9 b Q) E D H
 | .loop (some _) _,_,_,_,_,_=>False
 | .loop none b,g,Q,E,D,H=>bq (W3 ctx K b) Q E D H
 | .rangeFunc f k,g,Q,E,D,H=>OV E f g λ g v=>eS M K.ae ctx k E D H Q v
end
structure gD (E L R:Env) (tm:T AV):Prop where
 l:∀ t v,lk L t=some v->tm.get t=some v
 r:∀ t v,lk L t=none->lk R t=some v->tm.get t=some v
 e:∀ t v,lk L t=none->lk E t=some v->tm.get t=some v
theorem gD.first {ks:List Nat} {E:Env} {tm:T AV} (h:dy ks E tm):gD E [] [] tm:=⟨λ _ _ h=>(by cases h),λ _ _ _ h=>(by cases h),λ t v _ hv=>(h t v hv).1⟩
theorem gD.put {E L R:Env} {tm:T AV} (h:gD E L R tm) (dst:Option Nat) (v:AV):gD E (lG dst v L) R (cU dst v tm):=by
 cases dst with
 | none=>exact h
 | some d =>
  show gD E ((d,v)::L) R (tm.set d v);refine ⟨λ t w hw=>?_,λ t w hn hw=>?_,λ t w hn hw=>?_⟩
  ·rw [pq] at hw;rw [T.aK];split at hw
   ·rename_i e;rw [qr e];exact hw
   ·rename_i e;rw [qf e];exact h.l t w hw
  ·rw [pq] at hn;rw [T.aK];split at hn
   ·cases hn
   ·rename_i e;rw [qf e];exact h.r t w hn hw
  ·rw [pq] at hn;rw [T.aK];split at hn
   ·cases hn
   ·rename_i e;rw [qf e];exact h.e t w hn hw
theorem TV.elim {E L R:Env} {t:Nat} {g:Bool} {K:Bool->Env->AV->Prop} {tm:T AV} (hr:gD E L R tm) (h:TV E L R t g K):∃ v R',tm.get t=some v/\gD E L R' tm/\K g R' v:=by
 unfold TV at h;cases hl:lk L t with
 | some v=>rw [hl] at h;exact ⟨v,R,hr.l t v hl,hr,h⟩
 | none =>
  rw [hl] at h;cases hq:lk R t with
  | some v=>rw [hq] at h;exact ⟨v,R,hr.r t v hl hq,hr,h⟩
  | none =>
   rw [hq] at h;obtain ⟨v,hv,h⟩:=LK.elim h;refine ⟨v,_,hr.e t v hl hv,⟨hr.l,λ u w hn hw=>?_,hr.e⟩,h⟩;rw [pq] at hw;split at hw
   ·rename_i e;subst e;injection hw with hw;subst hw;exact hr.e t v hl hv
   ·exact hr.r u w hn hw
theorem FP {tm:T AV}:∀ {l:List bD} {vs:List AV} {K:List AV->Prop},gV tm l=some vs->K vs->kE tm l K
 | [],vs,K,h,hk=>by injection h with h;subst h;exact hk
 | x::xs,vs,K,h,hk=>by
  simp only [gV,qb] at h;obtain ⟨v,h1,ws,h2,h3⟩:=h;injection h3 with h3;subst h3
  cases x with
  | tmp t=>exact bt.intro (m:=aB) h1 (FP h2 hk)
  | const c=>injection h1 with h1;subst h1;exact FP (K:=λ vs=>K (c::vs)) h2 hk
  | c7 c=>injection h1 with h1;subst h1;exact FP (K:=λ vs=>K (_::vs)) h2 hk
  | func c=>injection h1 with h1;subst h1;exact FP (K:=λ vs=>K (_::vs)) h2 hk
theorem pD.elim {E L:Env} {tm:T AV} {g:Bool}:∀ {l:List bD} {R:Env} {K:Bool->Env->List AV->Prop},gD E L R tm->pD E L l g R K -> ∃ vs R',gV tm l=some vs/\gD E L R' tm/\K g R' vs
 | [],R,K,hr,h=>⟨[],R,rfl,hr,h⟩
 | .tmp t::xs,R,K,hr,h=>by
  obtain ⟨v,R1,h1,hr1,h⟩:=TV.elim hr (show TV E L R t g (λ g R v=>pD E L xs g R λ g R vs=>K g R (v::vs)) from h);obtain ⟨vs,R2,h2,hr2,h⟩:=pD.elim hr1 h;exact ⟨v::vs,R2,by simp [gV,lA,h1,h2],hr2,h⟩
 | .const v::xs,R,K,hr,h=>by
  obtain ⟨vs,R2,h2,hr2,h⟩:=pD.elim (l:=xs) hr h;exact ⟨v::vs,R2,by simp [gV,lA,h2],hr2,h⟩
 | .c7 v::xs,R,K,hr,h=>by
  obtain ⟨vs,R2,h2,hr2,h⟩:=pD.elim (l:=xs) hr h;exact ⟨_,R2,by simp [gV,lA,h2],hr2,h⟩
 | .func v::xs,R,K,hr,h=>by
  obtain ⟨vs,R2,h2,hr2,h⟩:=pD.elim (l:=xs) hr h;exact ⟨_,R2,by simp [gV,lA,h2],hr2,h⟩
theorem JS (ds:List Nat):∀ (E:Env) (t:Nat),lk (lX ds E) t=if bO t ds then none else lk E t
 | [],t=>by simp [lX,sn]
 | (k,v)::r,t=>by
  show lk (cond (bO k ds) (lX ds r) ((k,v)::lX ds r)) t=_;cases hm:bO k ds with
  | true =>
   rw [xh,JS ds r,pq]
   by_cases e:k=t
   ·subst e;rw [hm];rfl
   ·rw [qf e]
  | false =>
   rw [zg,pq,JS ds r,pq]
   by_cases e:k=t
   ·subst e;rw [hm];simp
   ·rw [qf e,qf e]
theorem q3f:∀ (L:Env) (t:Nat),bO t (iI L)=false->lk L t=none
 | [],t,_=>rfl
 | (k,v)::r,t,h=>by
  have h:cond (Nat.beq k t) true (bO t (iI r))=false:=h;rw [pq];cases hb:Nat.beq k t with
  | true=>rw [hb] at h;cases h
  | false=>rw [hb,zg] at h;rw [qf (GZ hb)];exact q3f r t h
theorem q6q {t:Nat}:∀ {l:List Nat},t ∈ l->bO t l=true
 | x::r,h=>by
  show cond (Nat.beq x t) true (bO t r)=true;cases hb:Nat.beq x t with
  | true=>rfl
  | false =>
   rw [zg];rcases je.1 h with e|h
   ·exact (GZ hb e.symm).elim
   ·exact q6q h
theorem qwl:∀ (ds:List Nat) (tm:T AV) (t:Nat),t ∉ ds->(forget ds tm).get t=tm.get t
 | [],tm,t,_=>rfl
 | d::ds,tm,t,h=>by
  show (forget ds (tm.put d none)).get t=_;rw [qwl ds _ t (λ q=>h (CS _ q)),T.fY,qf (λ e=>h (by rw [e];exact DV ..))]
def QQ (ks:List Nat) (Q:aJ) (up:Option aC):bX:=λ e st=>st.up=up /\ ∃ E',dy ks E' st.tm/\Q e E' st.aS st.H
section
variable {M:aM} {ctx:Ctx} {cj:Bool} {Q:aJ} {E:Env} {D:List aN} {up:Option aC}
theorem PX.BL {Z:bX} (hp:∀ c tm H E',(∀ t v,lk E' t=some v->tm.get t=some v/\lk E t=some v)->Q (.panic c) E' D H->Z (.panic c) ⟨tm,D,up,H⟩) {ps:Option (List Nat)} {L R:Env} {tm:T AV} (hr:gD E L R tm) {c:aC} {H:AHeap} (h:PX ps (iI L) Q E D c H):wQ ps tm D up Z c H:=by
 cases ps with
 | none=>exact h
 | some ds =>
  refine hp _ _ _ _ (λ t v hv=>?_) h;rw [JS,JS] at hv;split at hv
  ·cases hv
  ·rename_i h1;split at hv
   ·cases hv
   ·rename_i h2;rw [qwl ds tm t (λ q=>h1 (q6q q))];exact ⟨hr.e t v (q3f L t (by simpa using h2)) hv,hv⟩
theorem sE.pH {Z:bX} (hp:∀ c tm H E',(∀ t v,lk E' t=some v->tm.get t=some v/\lk E t=some v)->Q (.panic c) E' D H->Z (.panic c) ⟨tm,D,up,H⟩) {ps:Option (List Nat)} {L R:Env} {tm:T AV} (hr:gD E L R tm) {g:Bool} {f:fk} {vs:List AV} {H:AHeap} {K:Bool->AV->AHeap->Prop} {K':AV->AHeap->Prop}
 (h:sE M cj ps L Q E D g f vs H K) (hk:∀ v H,K g v H->K' v H):im M aB f vs H K' (wQ ps tm D up Z):=by
 cases cj with
 | false =>
  obtain ⟨v,H',h1,h2⟩:=(show C3 M g f vs H K from h)
  exact ⟨_,H',h1,hk _ _ h2⟩
 | true =>
  obtain ⟨e,H',h1,h2⟩:=(show P3 M g (PX ps (iI L) Q E D) f vs H K from h)
  refine ⟨_,H',h1,?_⟩;cases e with
  | ret v=>exact hk _ _ h2
  | panic c=>exact PX.BL hp hr h2
theorem wO.body {Z:bX} (hp:∀ c tm H E',(∀ t v,lk E' t=some v->tm.get t=some v/\lk E t=some v)->Q (.panic c) E' D H->Z (.panic c) ⟨tm,D,up,H⟩) {s:aU} {K:KR} {g:Bool} {L R R0:Env} {tm:T AV} {H:AHeap} (hr:gD E L R tm) (hr0:gD E L R0 tm) (h:wO M cj s Q E D K g L R H) {KK:St->Prop}
 (hK:∀ L' R' tm' H',(s.eJ=true/\L'=L/\tm'=tm \/ ∃ v,s.eJ=false/\L'=lG s.dst v L/\tm'=cU s.dst v tm)->gD E L' R' tm'->gD E L' R0 tm'->K g L' R' H'->KK ⟨tm',D,up,H'⟩) :
 match s.eJ with
 | false=>kE tm s.args λ vs=>kD M ctx s.dst s.bM ⟨tm,D,up,H⟩ Z KK vs s.op
 | true=>kE tm s.args λ vs=>Iw s.dst ⟨tm,D,up,H⟩ vs s.op/\KK ⟨tm,D,up,H⟩:=by
 obtain ⟨eJ,dst,guard,args,op,ps⟩:=s;obtain ⟨vs,R1,h1,hr1,h⟩:=pD.elim hr h;cases eJ with
 | true =>
  refine FP h1 ?_;have h:JA dst E L R1 H K g vs op:=h;cases op with
  | read f =>
   cases dst with
   | none=>exact h.elim
   | some d =>
    have h:uG g (f vs H) (NG L E d) (λ g=>K g L R1 H):=h;obtain ⟨⟨v,e1,e2⟩,h⟩:=h;refine ⟨?_,hK L R1 tm H (.inl ⟨rfl,rfl,rfl⟩) hr1 hr0 h⟩;refine bt.intro (m:=aB) e1 (bt.intro (m:=aB) (a:=v) ?_ rfl);unfold NG at e2;cases hl:lk L d with
    | some w=>rw [hl] at e2;injection e2 with e2;subst e2;exact hr.l d w hl
    | none=>rw [hl] at e2;exact hr.e d v hl e2
  | _=>exact h.elim
 | false =>
  have put:∀ v H',K g (lG dst v L) R1 H'->KK ⟨cU dst v tm,D,up,H'⟩:=λ v H' hk=>hK _ R1 _ H' (.inr ⟨v,rfl,rfl,rfl⟩) (hr1.put dst v) (hr0.put dst v) hk;refine FP h1 ?_;have h:nU M cj dst ps Q E D L R1 H K g vs op:=h;cases op with
  | pure f=>simp only [nU] at h;obtain ⟨v,e,h⟩:=B3.elim h;exact bt.intro (m:=aB) e (put _ _ h)
  | read f=>simp only [nU] at h;obtain ⟨v,e,h⟩:=B3.elim h;exact bt.intro (m:=aB) e (put _ _ h)
  | alloc f=>simp only [nU] at h;simp only [kD];obtain ⟨o,mk,e,h⟩:=aZ.elim h;exact eX.intro (m:=aB) e (put _ _ h)
  | eF f=>simp only [nU] at h;simp only [kD];obtain ⟨v,H',e,h⟩:=aZ.elim h;exact eX.intro (m:=aB) e (put _ _ h)
  | eM f=>exact sE.pH hp hr1 h λ v H' hk=>put v H' hk
  | eN =>
   simp only [nU,V3] at h;simp only [kD,Dv];split at h
   ·exact sE.pH hp hr1 h λ v H' hk=>put v H' hk
   ·exact sE.pH hp hr1 h λ v H' hk=>put v H' hk
   ·exact h.elim
  | invoke n =>
   simp only [nU,N3] at h;simp only [kD,Cj];split at h
   ·obtain ⟨f,e,h⟩:=B3.elim h;exact bt.intro (m:=aB) e (sE.pH hp hr1 h λ v H' hk=>put v H' hk)
   ·exact h.elim
  | recover=>exact False.elim h
  | defer=>exact False.elim h
  | panic =>
   cases cj with
   | false=>exact False.elim h
   | true =>
    have h:eh vs H (PX ps (iI L) Q E D):=h;show eh vs H (wQ ps tm D up Z);unfold eh at h ⊢;split at h
    ·exact PX.BL hp hr1 h
    ·exact h.elim
def FY (g:Option (Nat × Bool)) (l:List aU):Prop:=∀ s ∈ l,s.guard=g
theorem jZ.free {Z:bX} (hp:∀ c tm H E',(∀ t v,lk E' t=some v->tm.get t=some v/\lk E t=some v)->Q (.panic c) E' D H->Z (.panic c) ⟨tm,D,up,H⟩) {K:KR} {g:Bool} {R0:Env} {rest:List aU} (hK:∀ L R tm H,gD E L R tm->gD E L R0 tm->K g L R H->lQ M ctx rest ⟨tm,D,up,H⟩ Z) :
 ∀ {l:List aU} {L R:Env} {tm:T AV} {H:AHeap},FY none l->gD E L R tm->gD E L R0 tm->jZ M cj Q E D K l g L R H->lQ M ctx (l++rest) ⟨tm,D,up,H⟩ Z
 | [],L,R,tm,H,_,hr,hr0,h=>hK _ _ _ _ hr hr0 h
 | s::l,L,R,tm,H,hg,hr,hr0,h=>by
  rw [D7,N9];have hs:s.guard=none:=hg s (DV ..);have:=wO.body hp (ctx:=ctx) (up:=up) (KK:=λ st'=>lQ M ctx (l++rest) st' Z) hr hr0 (show wO M cj s Q E D (jZ M cj Q E D K l) g L R H from h)
   λ L' R' tm' H' _ q1 q2 q3=>jZ.free hp hK (λ x hx=>hg x (CS _ hx)) q1 q2 q3
  obtain ⟨eJ,dst,guard,args,op,ps⟩:=s;subst hs;cases eJ<;>exact this
theorem NP:∀ (n:Nat) (f:List AV->AHeap->Prop) (l:List AV) (H:AHeap),l.length=n->jT n (kN n f) l H=f l H
 | 0,f,[],H,_=>rfl
 | n+1,f,v::l,H,h=>NP n (λ l=>f (v::l)) l H (by simpa using h)
 | 0,f,_::_,H,h=>by cases h
 | n+1,f,[],H,h=>by cases h
theorem sN {α:Type} (l:List α):ct l=l.length:=by
 induction l with
 | nil=>rfl
 | cons x l ih=>show ct l+1=_;rw [ih];rfl
theorem q66:∀ (ks:List Nat) (L:Env) (vs:List AV),vs.length=ks.length->mh ks.length (gF ks L vs)=vs
 | [],L,[],_=>rfl
 | k::ks,L,v::vs,h=>by
  show v::mh ks.length (gF ks L vs)=_;rw [q66 ks L vs (by simpa using h)]
 | [],L,_::_,h=>by cases h
 | _::_,L,[],h=>by cases h
theorem xbu:∀ n,(mK n).length=n
 | 0=>rfl
 | n+1=>by show (mK n).length+1=_;rw [xbu n]
theorem jZ.under {Z:bX} (hp:∀ c tm H E',(∀ t v,lk E' t=some v->tm.get t=some v/\lk E t=some v)->Q (.panic c) E' D H->Z (.panic c) ⟨tm,D,up,H⟩) {K:KR} {g:Bool} {R0:Env} {rest:List aU} {t:Nat} {b:Bool} {v:AV} (hw:aA b (some v)=some true) {kf:List Nat} {L0:Env} (hK:∀ vs R tm H,vs.length=kf.length->gD E (gF kf L0 vs) R tm->gD E (gF kf L0 vs) R0 tm->K g (gF kf L0 vs) R H->lQ M ctx rest ⟨tm,D,up,H⟩ Z) :
 ∀ {l:List aU} {acc:List Nat} {us:List AV} {L R:Env} {tm:T AV} {H:AHeap},bo l acc=kf->us.length=acc.length->L=gF acc L0 us->FY (some (t,b)) l->oU t l=true->tm.get t=some v->gD E L R tm->gD E L R0 tm->jZ M cj Q E D K l g L R H->lQ M ctx (l++rest) ⟨tm,D,up,H⟩ Z
 | [],acc,us,L,R,tm,H,e1,e2,e3,_,_,_,hr,hr0,h=>by
  have e1:acc=kf:=e1;subst e1;subst e3;exact hK _ _ _ _ e2 hr hr0 h
 | s::l,acc,us,L,R,tm,H,e1,e2,e3,hg,ho,ht,hr,hr0,h=>by
  rw [D7,N9];have hs:s.guard=some (t,b):=hg s (DV ..);have ho:cond (Co s.dst t) false (cond s.eJ (cond s.dst.isSome (oU t l) false) (oU t l))=true:=ho;have hd:Co s.dst t=false:=by cases q:Co s.dst t with
   | true=>rw [q] at ho;cases ho
   | false=>rfl
  rw [hd,zg] at ho;have ho':oU t l=true:=by
   cases hc:s.eJ with
   | false=>rw [hc] at ho;exact ho
   | true=>rw [hc] at ho;cases hd:s.dst.isSome with
    | true=>rw [hd] at ho;exact ho
    | false=>rw [hd] at ho;cases ho
  have:=wO.body hp (ctx:=ctx) (up:=up) (KK:=λ st'=>lQ M ctx (l++rest) st' Z) hr hr0 (show wO M cj s Q E D (jZ M cj Q E D K l) g L R H from h)
   λ L' R' tm' H' hq q1 q2 q3=>by
    have e1:bo l (cond s.eJ acc (Option.rec (motive:=λ _=>List Nat) acc (λ d=>d::acc) s.dst))=kf:=e1;obtain ⟨us',e2',e3'⟩:∃ us',us'.length=(cond s.eJ acc (Option.rec (motive:=λ _=>List Nat) acc (λ d=>d::acc) s.dst)).length/\L'=gF (cond s.eJ acc (Option.rec (motive:=λ _=>List Nat) acc (λ d=>d::acc) s.dst)) L0 us':=by
     rcases hq with ⟨hc,rfl,_⟩|⟨w,hc,rfl,_⟩
     ·rw [hc];exact ⟨us,e2,e3⟩
     ·rw [hc];cases s.dst with
      | none=>exact ⟨us,e2,e3⟩
      | some d=>exact ⟨w::us,by simpa using e2,by rw [e3];rfl⟩
    exact jZ.under hp hw hK e1 e2' e3' (λ x hx=>hg x (CS _ hx)) ho' (by
     rcases hq with ⟨_,_,rfl⟩|⟨w,_,_,rfl⟩
     ·exact ht
     ·cases hdd:s.dst with
      | none=>exact ht
      | some d =>
       rw [hdd] at hd;show (tm.set d w).get t=_;rw [T.aK,qf (GZ hd)];exact ht) q1 q2 q3
  obtain ⟨eJ,dst,guard,args,op,ps⟩:=s;subst hs;have e:aA b (tm.get t)=some true:=by rw [ht];exact hw
  cases eJ with
  | false=>exact bt.intro (m:=aB) e this
  | true=>exact bt.intro (m:=aB) e this
theorem jZ.over {Z:bX} {R0:Env} {rest:List aU} {t:Nat} {b:Bool} {v:AV} (hw:aA b (some v)=some false) {kf:List Nat} {L0:Env} {H:AHeap} (hK:∀ tm,gD E (gF kf L0 (mK kf.length)) R0 tm->lQ M ctx rest ⟨tm,D,up,H⟩ Z) :
 ∀ {l:List aU} {acc:List Nat} {tm:T AV},bo l acc=kf->FY (some (t,b)) l->oU t l=true->tm.get t=some v->gD E (gF acc L0 (mK acc.length)) R0 tm->lQ M ctx (l++rest) ⟨tm,D,up,H⟩ Z
 | [],acc,tm,e1,_,_,_,hr0=>by
  have e1:acc=kf:=e1;subst e1;exact hK _ hr0
 | s::l,acc,tm,e1,hg,ho,ht,hr0=>by
  rw [D7,N9];have hs:s.guard=some (t,b):=hg s (DV ..);have ho:cond (Co s.dst t) false (cond s.eJ (cond s.dst.isSome (oU t l) false) (oU t l))=true:=ho;have hd:Co s.dst t=false:=by cases q:Co s.dst t with
   | true=>rw [q] at ho;cases ho
   | false=>rfl
  rw [hd,zg] at ho;have e:aA b (tm.get t)=some false:=by rw [ht];exact hw
  have hg':FY (some (t,b)) l:=λ x hx=>hg x (CS _ hx);have e1:bo l (cond s.eJ acc (Option.rec (motive:=λ _=>List Nat) acc (λ d=>d::acc) s.dst))=kf:=e1;cases hc:s.eJ with
  | true =>
   rw [hc] at ho e1;cases hds:s.dst.isSome with
   | false=>rw [hds] at ho;cases ho
   | true =>
    rw [hds] at ho;have:=jZ.over hw hK e1 hg' ho ht hr0;obtain ⟨eJ,dst,guard,args,op,ps⟩:=s;subst hs;subst hc;exact bt.intro (m:=aB) e ⟨hds,this⟩
  | false =>
   rw [hc] at ho e1;have:=jZ.over hw hK (tm:=cU s.dst .undef tm) e1 hg' ho (by
    cases hdd:s.dst with
     | none=>exact ht
     | some d =>
      rw [hdd] at hd;show (tm.set d _).get t=_;rw [T.aK,qf (GZ hd)];exact ht) (by
    have:=hr0.put s.dst .undef;cases hdd:s.dst with
     | none=>rw [hdd] at this;exact this
     | some d=>rw [hdd] at this;exact this)
   obtain ⟨eJ,dst,guard,args,op,ps⟩:=s;subst hs;subst hc;exact bt.intro (m:=aB) e this
theorem sF {a b:Option (Nat × Bool)} (h:mu a b=true):a=b:=by
 cases a with
 | none=>cases b with
  | none=>rfl
  | some _=>cases h
 | some p=>cases b with
  | none=>cases h
  | some q =>
   obtain ⟨t,x⟩:=p;obtain ⟨u,y⟩:=q;have h:cond (Nat.beq t u) (cond x y (!y)) false=true:=h;cases hb:Nat.beq t u with
   | false=>rw [hb] at h;cases h
   | true =>
    rw [hb] at h;rw [Nat.eq_of_beq_eq_true hb];cases x<;>cases y<;>first|rfl|cases h
theorem sw:∀ (l:List aU),(CD l).flatMap (·.2)=l /\ ∀ x ∈ CD l,FY x.1 x.2
 | []=>⟨rfl,λ x hx=>by cases hx⟩
 | s::l=>by
  obtain ⟨h1,h2⟩:=sw l;have e:CD (s::l)=List.casesOn (motive:=λ _=>List yR) (CD l) [(s.guard,[s])] λ g r=>cond (mu g.1 s.guard) ((g.1,s::g.2)::r) ((s.guard,[s])::g::r):=rfl;rw [e];cases hg:CD l with
  | nil =>
   rw [hg] at h1;exact ⟨by simpa using h1,λ x hx=>by simp at hx;subst hx;intro y hy;simp at hy;subst hy;rfl⟩
  | cons g r =>
   rw [hg] at h1 h2;show (cond (mu g.1 s.guard) ((g.1,s::g.2)::r) ((s.guard,[s])::g::r)).flatMap _=_ /\ ∀ x ∈ cond (mu g.1 s.guard) ((g.1,s::g.2)::r) ((s.guard,[s])::g::r),_;cases hs:mu g.1 s.guard with
   | true =>
    refine ⟨by simpa using h1,λ x hx=>?_⟩;rcases je.1 hx with rfl|hx
    ·intro y hy;rcases je.1 hy with rfl|hy
     ·exact (sF hs).symm
     ·exact h2 g (DV ..) y hy
    ·exact h2 x (CS _ hx)
   | false =>
    refine ⟨by simpa using h1,λ x hx=>?_⟩;rcases je.1 hx with rfl|hx
    ·intro y hy;simp at hy;subst hy;rfl
    ·exact h2 x hx
theorem ra.Gy {Z:bX} (hp:∀ c tm H E',(∀ t v,lk E' t=some v->tm.get t=some v/\lk E t=some v)->Q (.panic c) E' D H->Z (.panic c) ⟨tm,D,up,H⟩) {K:KR} {g:Bool} (hK:∀ L R tm H,gD E L R tm->K g L R H->Z .normal ⟨tm,D,up,H⟩):∀ {gs:List yR} {L R:Env} {tm:T AV} {H:AHeap},(∀ x ∈ gs,FY x.1 x.2)->gD E L R tm->ra M cj Q E D K gs g L R H ->
 lQ M ctx (gs.flatMap (·.2)) ⟨tm,D,up,H⟩ Z
 | [],L,R,tm,H,_,hr,h=>hK _ _ _ _ hr h
 | x::gs,L,R,tm,H,hg,hr,h=>by
  rw [jv];have ih:∀ L R tm H,gD E L R tm->ra M cj Q E D K gs g L R H->lQ M ctx (gs.flatMap (·.2)) ⟨tm,D,up,H⟩ Z:=λ L R tm H hr h=>ra.Gy hp hK (λ x hx=>hg x (CS _ hx)) hr h;have hx:=hg x (DV ..);obtain ⟨q,l⟩:=x;cases q with
  | none=>exact jZ.free hp (R0:=R) (λ L R tm H q1 _ q2=>ih L R tm H q1 q2) hx hr hr (show jZ M cj Q E D (ra M cj Q E D K gs) l g L R H from h)
  | some q =>
   obtain ⟨t,b⟩:=q;cases ho:oU t l with
   | false =>
    have h:cond (oU t l) _ False:=h;rw [ho] at h;exact h.elim
   | true =>
    have h:cond (oU t l) _ False:=h;rw [ho,xh] at h;obtain ⟨v,R1,ht,hr1,h⟩:=TV.elim hr h;have kl:ct (bo l [])=(bo l []).length:=sN _;have h:B3 g (aA b (some v)) λ g w=>cd g w (λ g=>jZ M cj Q E D (λ g L' _ H=>jT (ct (bo l [])) (kN (ct (bo l [])) λ vs H=>ra M cj Q E D K gs g (gF (bo l []) L vs) R1 H) (mh (ct (bo l [])) L') H) l g L R1 H)
     (λ g=>jT (ct (bo l [])) (kN (ct (bo l [])) λ vs H=>ra M cj Q E D K gs g (gF (bo l []) L vs) R1 H) (mK (ct (bo l []))) H):=h
    obtain ⟨w,hw,h⟩:=B3.elim h;cases w with
    | true =>
     refine jZ.under hp (R0:=R1) hw (kf:=bo l []) (L0:=L) (λ vs R tm H q q1 q0 q2=>?_) (acc:=[]) (us:=[]) rfl rfl rfl hx ho ht hr1 hr1 h;rw [kl,q66 _ _ _ q,NP _ _ _ _ q] at q2;exact ih _ R1 tm H q0 q2
    | false =>
     have h:jT (ct (bo l [])) (kN (ct (bo l [])) λ vs H=>ra M cj Q E D K gs g (gF (bo l []) L vs) R1 H) (mK (ct (bo l []))) H:=h;rw [kl,NP _ _ _ _ (xbu _)] at h;exact jZ.over hw (kf:=bo l []) (L0:=L) (λ tm hq=>ih _ R1 tm H hq h) (acc:=[]) rfl hx ho ht hr1
theorem mf.Gy {Z:bX} (hp:∀ c tm H E',(∀ t v,lk E' t=some v->tm.get t=some v/\lk E t=some v)->Q (.panic c) E' D H->Z (.panic c) ⟨tm,D,up,H⟩) {l:List aU} {g:Bool} {H:AHeap} {K:KR} {tm:T AV} {ks:List Nat} (he:dy ks E tm) (h:mf M cj Q E D l g H K) (hK:∀ L R tm H,gD E L R tm->K g L R H->Z .normal ⟨tm,D,up,H⟩):lQ M ctx l ⟨tm,D,up,H⟩ Z:=by
 obtain ⟨h1,h2⟩:=sw l;have:=ra.Gy hp (ctx:=ctx) hK h2 (gD.first he) h
 rwa [h1] at this
end
end
end Go.Am
namespace Go.Am
noncomputable section
variable {M:aM} {ctx:Ctx} {K:Kp}
theorem Kl (ks:List Nat) (E:Env):∀ (L:Env) (t:Nat) (v:AV),bO t ks=true->lk (c6 ks E L) t=some v->lk L t=some v\/lk L t=none/\lk E t=some v
 | [],t,v,_,h=>.inr ⟨rfl,h⟩
 | (k,w)::r,t,v,ht,h=>by
  have h:lk (cond (bO k ks) ((k,w)::c6 ks E r) (c6 ks E r)) t=some v:=h;rw [pq];cases hm:bO k ks with
  | true =>
   rw [hm,xh,pq] at h;split at h
   ·rename_i e;rw [qr e];exact .inl h
   ·rename_i e;rw [qf e];exact Kl ks E r t v ht h
  | false =>
   rw [hm,zg] at h
   by_cases e:k=t
   ·subst e;rw [hm] at ht;cases ht
   ·rw [qf e];exact Kl ks E r t v ht h
theorem Ob (ks:List Nat) (E:Env) (hE:∀ t v,lk E t=some v->bO t ks=true):∀ (L:Env) (t:Nat) (v:AV),lk (c6 ks E L) t=some v->bO t ks=true
 | [],t,v,h=>hE t v h
 | (k,w)::r,t,v,h=>by
  have h:lk (cond (bO k ks) ((k,w)::c6 ks E r) (c6 ks E r)) t=some v:=h;cases hm:bO k ks with
  | true =>
   rw [hm,xh,pq] at h;split at h
   ·rename_i e;subst e;exact hm
   ·exact Ob ks E hE r t v h
  | false=>rw [hm,zg] at h;exact Ob ks E hE r t v h
theorem gD.ae {E L R:Env} {tm:T AV} (h:gD E L R tm) {ks:List Nat} (hE:∀ t v,lk E t=some v->bO t ks=true):dy ks (c6 ks E L) tm:=λ t v hv=>by
 have hm:=Ob ks E hE L t v hv;refine ⟨?_,hm⟩;rcases Kl ks E L t v hm hv with q|⟨q1,q2⟩
 ·exact h.l t v q
 ·exact h.e t v q1 q2
theorem dy.keys {ks:List Nat} {E:Env} {tm:T AV} (h:dy ks E tm):∀ t v,lk E t=some v->bO t ks=true:=λ t v hv=>(h t v hv).2
theorem dy.cj {ks:List Nat} {E E':Env} {tm tm':T AV} (h:dy ks E tm) (h':∀ t v,lk E' t=some v->tm'.get t=some v/\lk E t=some v):dy ks E' tm':=λ t v hv=>⟨(h' t v hv).1,(h t v (h' t v hv).2).2⟩
theorem TV.cv {E L R:Env} {x:bD} {g:Bool} {P:Bool->AV->Prop} {tm:T AV} (hr:gD E L R tm) (h:CV E L R x g P):∃ v,lA tm x=some v/\P g v:=by
 cases x with
 | tmp t=>obtain ⟨v,_,h1,_,h2⟩:=TV.elim hr (show TV E L R t g (λ g _ v=>P g v) from h);exact ⟨v,h1,h2⟩
 | const v=>exact ⟨v,rfl,h⟩
 | c7 v=>exact ⟨_,rfl,h⟩
 | func v=>exact ⟨_,rfl,h⟩
theorem OV.elim {ks:List Nat} {E:Env} {x:bD} {g:Bool} {P:Bool->AV->Prop} {tm:T AV} (hr:dy ks E tm) (h:OV E x g P):∃ v,lA tm x=some v/\P g v:=by
 cases x with
 | tmp t=>obtain ⟨v,h1,h2⟩:=LK.elim (show LK g (lk E t) P from h);exact ⟨v,(hr t v h1).1,h2⟩
 | const v=>exact ⟨v,rfl,h⟩
 | c7 v=>exact ⟨_,rfl,h⟩
 | func v=>exact ⟨_,rfl,h⟩
theorem q2c {tm:T AV} {x:bD} {v:AV} {P:AV->Prop} (h:lA tm x=some v) (hp:P v):vY tm x P:=by
 cases x with
 | tmp t=>exact bt.intro (m:=aB) h hp
 | const c=>injection h with h;subst h;exact hp
 | c7 c=>injection h with h;subst h;exact hp
 | func c=>injection h with h;subst h;exact hp
theorem br.wp {a b:ah} {g:Bool} {v:AV} {A B:Bool->Prop} {tm:T AV} {c:bD} {st:St} {Q:bX} (hv:lA st.tm c=some v) (h:br g v A B) (ha:A g->WP M ctx a st Q) (hb:B g->WP M ctx b st Q):WP M ctx (.cond c a b) st Q:=by
 obtain ⟨q,rfl,h⟩:=h.elim;refine q2c hv ?_;cases q with
 | true=>exact ha h
 | false=>exact hb h
def dh:ah->Nat
 | .seq a b=>dh a+dh b+1
 | .cond _ a b=>dh a+dh b+1
 | .block _ b=>dh b+1
 | .loop _ b=>dh b+1
 | .scope b=>dh b+1
 | _=>0
theorem W3.wp:∀ (n:Nat) (c:ah),dh c<=n -> ∀ {g:Bool} {Q:aJ} {E:Env} {D:List aN} {H:AHeap} {tm:T AV} {up:Option aC},W3 M ctx K c g Q E D H->dy K.ae E tm->WP M ctx c ⟨tm,D,up,H⟩ (QQ K.ae Q up):=by
 intro n
 induction n with
 | zero =>
  intro c hc g Q E D H tm up h he;cases c with
  | skip=>exact ⟨rfl,E,he,h⟩
  | label _=>exact ⟨rfl,E,he,h⟩
  | exit _=>exact ⟨rfl,E,he,h⟩
  | goto _=>exact ⟨rfl,E,he,h⟩
  | ret=>exact ⟨rfl,E,he,h⟩
  | stuck=>exact False.elim h
  | region l=>exact mf.Gy (λ c tm' H' E' h1 h2=>⟨rfl,E',he.cj h1,h2⟩) he (show mf M K.cj Q E D l g H _ from h) λ L R tm H hr hk=>⟨rfl,_,hr.ae he.keys,hk⟩
  | rangeFunc f k =>
   obtain ⟨v,hv,h⟩:=OV.elim he (show OV E f g _ from h);exact q2c hv (by
    have:=h tm up he;unfold AJ at this ⊢;split
    ·rename_i hr;rw [hr] at this;exact Fp this λ e st ⟨h1,h2,h3⟩=>⟨h1,E,by rw [h2];exact he,h3⟩
    ·rename_i l hr;rw [hr] at this;exact wD (m:=aB) this λ d q=>Fp q λ e st ⟨h1,h2,h3⟩=>⟨h1,E,by rw [h2];exact he,h3⟩)
  | seq _ _=>simp [dh] at hc
  | cond _ _ _=>simp [dh] at hc
  | block _ _=>simp [dh] at hc
  | loop _ _=>simp [dh] at hc
  | scope _=>simp [dh] at hc
 | succ n ih =>
  intro c hc g Q E D H tm up h he;have seqq:∀ {a b:ah} {tm:T AV} {H:AHeap},dh b<=n->WP M ctx a ⟨tm,D,up,H⟩ (QQ K.ae (ak (W3 M ctx K b) Q) up)->WP M ctx a ⟨tm,D,up,H⟩ (KL (WP M ctx b) (QQ K.ae Q up)):=λ {a b tm H} hb h=>mj h λ e st ⟨h1,E',h2,h3⟩=>by
   obtain ⟨tm',D',up',H'⟩:=st;subst h1;cases e with
   | normal=>exact ih b hb h3 h2
   | exit _=>exact ⟨rfl,E',h2,h3⟩
   | goto _=>exact ⟨rfl,E',h2,h3⟩
   | ret=>exact ⟨rfl,E',h2,h3⟩
   | panic _=>exact ⟨rfl,E',h2,h3⟩
  have cnd:∀ {c:bD} {x y:ah} {E:Env} {tm:T AV} {v:AV} {g:Bool} {Q:aJ} {H:AHeap},dh x<=n->dh y<=n->lA tm c=some v->dy K.ae E tm->br g v (λ g=>W3 M ctx K x g Q E D H) (λ g=>W3 M ctx K y g Q E D H)->WP M ctx (.cond c x y) ⟨tm,D,up,H⟩ (QQ K.ae Q up) :=
   λ {c x y E tm v g Q H} hx hy hv he h=>br.wp (tm:=tm) (st:=⟨tm,D,up,H⟩) hv h (λ h=>ih x hx h he) (λ h=>ih y hy h he)
  cases c with
  | seq a b =>
   have hab:dh a+dh b<=n:=by simp only [dh] at hc;omega
   have gen:W3 M ctx K a g (ak (W3 M ctx K b) Q) E D H->WP M ctx (.seq a b) ⟨tm,D,up,H⟩ (QQ K.ae Q up):=λ h=>seqq (a:=a) (b:=b) (by omega) (ih a (by omega) h he);have reg:∀ (l:List aU) (KF:KR),a=.region l->mf M K.cj Q E D l g H KF->(∀ L R tm H,gD E L R tm->KF g L R H->WP M ctx b ⟨tm,D,up,H⟩ (QQ K.ae Q up))->WP M ctx (.seq a b) ⟨tm,D,up,H⟩ (QQ K.ae Q up):=λ l KF e h' hk=>by
    subst e;exact mf.Gy (Z:=KL (WP M ctx b) (QQ K.ae Q up)) (λ c tm' H' E' h1 h2=>⟨rfl,E',he.cj h1,h2⟩) he h' hk
   cases a with
   | region l =>
    have plain:(mf M K.cj Q E D l g H λ g L _ H=>W3 M ctx K b g Q (c6 K.ae E L) D H)->WP M ctx (.seq (.region l) b) ⟨tm,D,up,H⟩ (QQ K.ae Q up):=λ h=>reg l _ rfl h λ L R tm H hr hk=>ih b (by omega) hk (hr.ae he.keys);cases b with
    | cond c x y =>
     have hxy:dh x+dh y+1<=n:=by simp only [dh] at hab;omega
     refine reg l _ rfl h λ L R tm H hr hk=>?_;obtain ⟨v,hv,hk⟩:=TV.cv hr hk;exact cnd (by omega) (by omega) hv (hr.ae he.keys) hk
    | seq b1 r =>
     cases b1 with
     | cond c x y =>
      have hxy:dh x+dh y+1+dh r+1<=n:=by simp only [dh] at hab;omega
      refine reg l _ rfl h λ L R tm H hr hk=>?_;obtain ⟨v,hv,hk⟩:=TV.cv hr hk;exact seqq (by omega) (cnd (by omega) (by omega) hv (hr.ae he.keys) hk)
     | _=>exact plain h
    | _=>exact plain h
   | _=>exact gen h
  | cond c x y =>
   have hab:dh x+dh y<=n:=by simp only [dh] at hc;omega
   obtain ⟨v,hv,h⟩:=OV.elim he (show OV E c g _ from h);exact cnd (by omega) (by omega) hv he h
  | block id b =>
   have hb:dh b<=n:=by simp only [dh] at hc;omega
   exact mj (c:=b) (ih b hb (show W3 M ctx K b g (aI id Q) E D H from h) he) λ e st ⟨h1,E',h2,h3⟩=>by cases e<;>exact ⟨h1,E',h2,h3⟩
  | scope b =>
   have hb:dh b<=n:=by simp only [dh] at hc;omega
   refine mj (c:=b) (ih b hb (show W3 M ctx K b g (o9 b Q) E D H from h) he) λ e st ⟨h1,E',h2,h3⟩=>?_;cases e with
   | goto l=>exact ⟨h3.1,h1,E',h2,h3.2⟩
   | normal=>exact ⟨h1,E',h2,h3⟩
   | exit _=>exact ⟨h1,E',h2,h3⟩
   | ret=>exact ⟨h1,E',h2,h3⟩
   | panic _=>exact ⟨h1,E',h2,h3⟩
  | loop ae b =>
   have hb:dh b<=n:=by simp only [dh] at hc;omega
   cases ae with
   | some _=>exact False.elim h
   | none =>
    obtain ⟨I,⟨n0,E0,h0,hs⟩,hstep⟩:=(show bq (W3 M ctx K b) Q E D H from h)
    refine ⟨λ n st=>st.up=up /\ ∃ E',dy K.ae E' st.tm/\I n E' st.aS st.H,⟨n0,rfl,E0,hs.sub he,h0⟩,λ n st ⟨h1,E',h2,h3⟩=>?_⟩;obtain ⟨tm',D',up',H'⟩:=st;subst h1;refine mj (c:=b) (ih b hb (hstep n E' D' H' h3) h2) λ e st ⟨k1,E2,k2,k3⟩=>?_;cases e with
    | normal=>obtain ⟨m,E3,q1,q2,q3⟩:=k3;exact ⟨m,q3,k1,E3,q2.sub k2,q1⟩
    | exit _=>exact ⟨k1,E2,k2,k3⟩
    | goto _=>exact ⟨k1,E2,k2,k3⟩
    | ret=>exact ⟨k1,E2,k2,k3⟩
    | panic _=>exact ⟨k1,E2,k2,k3⟩
  | skip=>exact ⟨rfl,E,he,h⟩
  | label _=>exact ⟨rfl,E,he,h⟩
  | exit _=>exact ⟨rfl,E,he,h⟩
  | goto _=>exact ⟨rfl,E,he,h⟩
  | ret=>exact ⟨rfl,E,he,h⟩
  | stuck=>exact False.elim h
  | region l=>exact ih _ (zp _) h he
  | rangeFunc f k=>exact ih _ (zp _) h he
def dv (E:Env) (H:AHeap):List cS->(List AV->Prop)->Prop
 | [],P=>P []
 | .tmp t::rs,P=>LK true (lk E t) λ _ v=>dv E H rs λ vs=>P (v::vs)
 | .gA a::rs,P=>LK true (lk E a) λ _ v=>B3 true (Op.aa [v] H) λ _ v=>dv E H rs λ vs=>P (v::vs)
 | .cz n a::rs,P=>LK true (lk E a) λ _ v=>B3 true (Op.ao n [v] H) λ _ v=>dv E H rs λ vs=>P (v::vs)
def jR (M:aM) (rs:List cS) (E:Env) (Q:bu->AHeap->Prop):List aN->Option aC->AHeap->Prop
 | [],none,H=>dv E H rs λ l=>Q (.ret (de l)) H
 | [],some c,H=>Q (.panic c) H
 | .fp b::ds,m,H=>H.get b=some (.deferred (some []))/\jR M rs E Q ds m (H.set b (.deferred none))
 | .fn (.func f) args::ds,m,H=>∃ v up' H',nh M f args (some (m.getD [])) H (.ret v) (some up') H'/\bt aB (iP m up') λ m'=>jR M rs E Q ds m' H'
 | .fn (.yield _) _::_,_,_=>False
theorem dv.elim {ks:List Nat} {E:Env} {tm:T AV} (he:dy ks E tm) {H:AHeap}:∀ {rs:List cS} {P:List AV->Prop},dv E H rs P -> ∃ l,cG H tm rs=some l/\P l
 | [],P,h=>⟨[],rfl,h⟩
 | .tmp t::rs,P,h=>by
  obtain ⟨v,h1,h⟩:=LK.elim (show LK true (lk E t) _ from h);obtain ⟨l,h2,h⟩:=dv.elim he h;exact ⟨v::l,by rw [As,(he t v h1).1,h2];rfl,h⟩
 | .gA t::rs,P,h=>by
  obtain ⟨v,h1,h⟩:=LK.elim (show LK true (lk E t) _ from h);obtain ⟨w,h2,h⟩:=B3.elim h;obtain ⟨l,h3,h⟩:=dv.elim he h;exact ⟨w::l,by rw [xbe,(he t v h1).1,qn,h2,qn,h3];rfl,h⟩
 | .cz n t::rs,P,h=>by
  obtain ⟨v,h1,h⟩:=LK.elim (show LK true (lk E t) _ from h);obtain ⟨w,h2,h⟩:=B3.elim h;obtain ⟨l,h3,h⟩:=dv.elim he h;exact ⟨w::l,by rw [xbf,(he t v h1).1,qn,h2,qn,h3];rfl,h⟩
theorem jR.KW {ks:List Nat} {E:Env} {tm:T AV} (he:dy ks E tm) {rs:List cS} {Q:bu->AHeap->Prop}:∀ {D:List aN} {m:Option aC} {H:AHeap},jR M rs E Q D m H->ru M rs tm Q D m H
 | [],none,H,h=>by obtain ⟨l,h1,h2⟩:=dv.elim he h;exact bt.intro (m:=aB) h1 h2
 | [],some c,H,h=>h
 | .fp b::ds,m,H,⟨h1,h2⟩=>⟨h1,jR.KW he h2⟩
 | .fn (.func f) args::ds,m,H,⟨v,up',H',h1,h2⟩=>⟨v,up',H',h1,wD h2 λ m' h=>jR.KW he h⟩
 | .fn (.yield _) _::_,_,_,h=>h
def aL (M:aM) (rs:List cS) (Q:bu->AHeap->Prop):aJ:=λ e E D H=>match e with
 | .normal=>jR M rs E Q D none H
 | .ret=>jR M rs E Q D none H
 | .panic c=>jR M rs E Q D (some c) H
 | _=>False
def kt (M:aM) (f:Nat) (vs:List AV) (H:AHeap) (Q:bu->AHeap->Prop):Prop:=∃ e H',iK M f vs H e H'/\Q e H'
def lF (Q:AV->AHeap->Prop) (e:bu) (H:AHeap):Prop:=match e with
 | .ret v=>Q v H
 | .panic _=>False
def jm (M:aM) (f:Nat) (vs:List AV) (H:AHeap) (Q:AV->AHeap->Prop):Prop:=kt M f vs H (lF Q)
theorem jm.elim {f:Nat} {vs:List AV} {H:AHeap} {Q:AV->AHeap->Prop} (h:jm M f vs H Q):∃ v H',iK M f vs H (.ret v) H'/\Q v H':=by
 obtain ⟨e,H',h1,h2⟩:=h;cases e with
 | ret v=>exact ⟨v,H',h1,h2⟩
 | panic _=>exact h2.elim
theorem jm.intro {f:Nat} {vs:List AV} {H:AHeap} {Q:AV->AHeap->Prop} {v:AV} {H':AHeap} (h:iK M f vs H (.ret v) H') (hq:Q v H'):jm M f vs H Q:=⟨_,H',h,hq⟩
theorem jm.mono {f:Nat} {vs:List AV} {H:AHeap} {Q Q':AV->AHeap->Prop} (h:jm M f vs H Q) (hq:∀ v H',Q v H'->Q' v H'):jm M f vs H Q':=by
 obtain ⟨v,H',h1,h2⟩:=h.elim;exact ⟨_,H',h1,hq _ _ h2⟩
theorem C3.q {m:Bool} {f:Nat} {vs:List AV} {H:AHeap} {R:AV->AHeap->Prop} {P:Bool->AV->AHeap->Prop} (h:jm M f vs H R) (hk:∀ v H',R v H'->P m v H'):C3 M m (.func f) vs H P:=by
 obtain ⟨v,H',h1,h2⟩:=h.elim;exact ⟨v,H',h1,hk v H' h2⟩
theorem C3.ret {m:Bool} {f:Nat} {vs:List AV} {H:AHeap} {P:Bool->AV->AHeap->Prop} {v:AV} {H':AHeap} (h:iK M f vs H (.ret v) H') (hk:P m v H'):C3 M m (.func f) vs H P:=⟨v,H',h,hk⟩
theorem C3.DQ {m:Bool} {l:Nat} {vs:List AV} {H:AHeap} {P:Bool->AV->AHeap->Prop} {v:AV} {H':AHeap} (h:mr M l vs H (.ret v) H') (hk:P m v H'):C3 M m (.yield l) vs H P:=⟨v,H',h,hk⟩
theorem P3.q {m:Bool} {X:aC->AHeap->Prop} {f:Nat} {vs:List AV} {H:AHeap} {R:bu->AHeap->Prop} {P:Bool->AV->AHeap->Prop} (h:kt M f vs H R) (hk:∀ v H',R (.ret v) H'->P m v H') (hx:∀ c H',R (.panic c) H'->X c H'):P3 M m X (.func f) vs H P:=by
 obtain ⟨e,H',h1,h2⟩:=h;refine ⟨e,H',h1,?_⟩;cases e with
 | ret v=>exact hk _ _ h2
 | panic c=>exact hx _ _ h2
def qT:Nat->List AV->Env
 | _,[]=>[]
 | i,v::vs=>(i,v)::qT (i+1) vs
def mb:Nat->Nat->List Nat->Bool
 | _,0,_=>true
 | i,n+1,ks=>bO i ks && mb (i+1) n ks
theorem qzd:∀ (vs:List AV) (i t:Nat) (tm:T AV),(fM i vs tm).get t=if i<=t then (match vs[t-i]? with|some v=>some v|none=>tm.get t) else tm.get t
 | [],i,t,tm=>by simp [fM]
 | v::vs,i,t,tm=>by
  rw [fM,qzd vs (i+1) t,T.aK]
  by_cases h:i=t
  ·subst h;simp;intro h;omega
  ·by_cases h2:i<=t
   ·have e:t-i=(t-(i+1))+1:=by omega
    rw [qr (show i+1<=t by omega),qr h2,qf h,e,zt]
   ·rw [qf (by omega),qf h2,qf h]
theorem xan:∀ (vs:List AV) (i t:Nat) (v:AV),lk (qT i vs) t=some v->i<=t/\vs[t-i]? = some v
 | [],i,t,v,h=>by cases h
 | w::vs,i,t,v,h=>by
  rw [qT,pq] at h;split at h
  ·rename_i e;subst e;injection h with h;subst h;simp
  ·obtain ⟨h1,h2⟩:=xan vs (i+1) t v h;refine ⟨by omega,?_⟩;have e:t-i=(t-(i+1))+1:=by omega
   rw [e,zt,h2]
theorem q29:∀ (n i:Nat) (ks:List Nat),mb i n ks=true -> ∀ t,i<=t->t<i+n->bO t ks=true
 | 0,i,ks,_,t,h1,h2=>by omega
 | n+1,i,ks,h,t,h1,h2=>by
  simp only [mb,xm] at h
  by_cases e:i=t
  ·subst e;exact h.1
  ·exact q29 n (i+1) ks h.2 t (by omega) (by omega)
theorem vO {ks:List Nat} {vs:List AV} (h:mb 0 vs.length ks=true):dy ks (qT 0 vs) (fM 0 vs .nil):=λ t v hv=>by
 obtain ⟨_,h2⟩:=xan vs 0 t v hv;rw [Dk] at h2;refine ⟨by rw [qzd,qr (zp _),Dk,h2],q29 _ 0 ks h t (zp _) ?_⟩;rw [ye];exact (qm.1 h2).1
structure Fn3 where
 n:Nat
 F:aq
 K:Kp
def pre:ah->List ah
 | .seq a b=>.seq a b::fU (pre a) (pre b)
 | .cond c a b=>.cond c a b::fU (pre a) (pre b)
 | .block i b=>.block i b::pre b
 | .loop k b=>.loop k b::pre b
 | .scope b=>.scope b::pre b
 | c=>[c]
def part (c:ah) (k:Nat):ah:=Option.rec (motive:=λ _=>ah) .stuck (λ c=>c) (nth (pre c) k)
def c8:ah->Nat
 | .seq a b=>c8 a+c8 b+1
 | .cond _ a b=>c8 a+c8 b+1
 | .block _ b=>c8 b+1
 | .loop _ b=>c8 b+1
 | .scope b=>c8 b+1
 | _=>1
theorem zG:∀ (c:ah),(pre c).length=c8 c
 | .seq a b=>by simp [pre,c8,jC,zG a,zG b]
 | .cond _ a b=>by simp [pre,c8,jC,zG a,zG b]
 | .block _ b=>by simp [pre,c8,zG b]
 | .loop _ b=>by simp [pre,c8,zG b]
 | .scope b=>by simp [pre,c8,zG b]
 | .skip=>rfl
 | .label _=>rfl
 | .exit _=>rfl
 | .goto _=>rfl
 | .ret=>rfl
 | .stuck=>rfl
 | .region _=>rfl
 | .rangeFunc _ _=>rfl
theorem K6 (c:ah):∃ l,pre c=c::l:=by cases c<;>exact ⟨_,rfl⟩
theorem J6 {α:Type}:∀ (l:List α) (i:Nat),nth l i=l[i]?
 | [],i=>rfl
 | x::l,0=>rfl
 | x::l,i+1=>by rw [zt,<-J6 l i];rfl
theorem Eg:∀ (r:ah) (k:Nat) (c:ah),(pre r)[k]? = some c -> ∃ l,(pre r).drop k=pre c++l:=by
 intro r
 induction r with
 | seq a b iha ihb =>
  intro k c h;cases k with
  | zero=>simp [pre] at h;subst h;exact ⟨[],by simp⟩
  | succ k =>
   simp only [pre,jC,zt] at h;simp only [pre,jC,GS]
   by_cases hk:k<(pre a).length
   ·rw [km hk] at h;obtain ⟨l,hl⟩:=iha k c h;exact ⟨l++pre b,by rw [kw (by omega),hl,zk]⟩
   ·rw [jq (by omega)] at h;obtain ⟨l,hl⟩:=ihb _ c h;refine ⟨l,?_⟩;rw [vy,j5 (by omega),zy,hl]
 | cond x a b iha ihb =>
  intro k c h;cases k with
  | zero=>simp [pre] at h;subst h;exact ⟨[],by simp⟩
  | succ k =>
   simp only [pre,jC,zt] at h;simp only [pre,jC,GS]
   by_cases hk:k<(pre a).length
   ·rw [km hk] at h;obtain ⟨l,hl⟩:=iha k c h;exact ⟨l++pre b,by rw [kw (by omega),hl,zk]⟩
   ·rw [jq (by omega)] at h;obtain ⟨l,hl⟩:=ihb _ c h;refine ⟨l,?_⟩;rw [vy,j5 (by omega),zy,hl]
 | block i b ih =>
  intro k c h;cases k with
  | zero=>simp [pre] at h;subst h;exact ⟨[],by simp⟩
  | succ k=>simp only [pre,zt] at h;simpa only [pre,GS] using ih k c h
 | loop i b ih =>
  intro k c h;cases k with
  | zero=>simp [pre] at h;subst h;exact ⟨[],by simp⟩
  | succ k=>simp only [pre,zt] at h;simpa only [pre,GS] using ih k c h
 | scope b ih =>
  intro k c h;cases k with
  | zero=>simp [pre] at h;subst h;exact ⟨[],by simp⟩
  | succ k=>simp only [pre,zt] at h;simpa only [pre,GS] using ih k c h
 | _ =>
  intro k c h;cases k with
  | zero=>simp [pre] at h;subst h;exact ⟨[],by simp [pre]⟩
  | succ k=>simp [pre] at h
theorem q3r {r:ah} {k:Nat} {c:ah} (h:(pre r)[k]? = some c):part r k=c:=by
 unfold part;rw [J6,h]
theorem q3q {r:ah} {k:Nat} {c:ah} (h:part r k=c) (hc:c ≠ .stuck):∀ (j:Nat) (d:ah),(pre c)[j]? = some d->part r (k+j)=d:=λ j d hd=>by
 have h1:(pre r)[k]? = some c:=by
  unfold part at h;rw [J6] at h;cases hq:(pre r)[k]? with
  | none=>rw [hq] at h;exact (hc h.symm).elim
  | some x=>rw [hq] at h;exact congrArg some h
 obtain ⟨l,hl⟩:=Eg r k c h1;refine q3r ?_;rw [<-ya,hl,km (qm.1 hd).1,hd]
theorem sm (c:ah):(pre c)[0]? = some c:=by obtain ⟨l,h⟩:=K6 c;rw [h];rfl
theorem zY {r:ah} {k:Nat} {c a b:ah} (h:part r k=c) (hc:c ≠ .stuck) (e:∃ x l,pre c=x::(pre a++l)):part r (k+1)=a:=by
 obtain ⟨x,l,e⟩:=e;obtain ⟨l',e'⟩:=K6 a;exact q3q h hc 1 a (by rw [e,e'];rfl)
theorem FD {r:ah} {k:Nat} {c a b:ah} (h:part r k=c) (hc:c ≠ .stuck) (e:∃ x,pre c=x::(pre a++pre b)):part r (k+1+c8 a)=b:=by
 obtain ⟨x,e⟩:=e;obtain ⟨l',e'⟩:=K6 b;rw [vj];exact q3q h hc (1+c8 a) b (by rw [e,Nat.add_comm,zt,jq (by rw [zG];exact qi _),zG,Nat.sub_self,e'];rfl)
def U (M:aM) (ctx:Ctx) (K:Kp) (X:Nat->WX):ah->Nat->WX
 | .skip,_,g,Q,E,D,H=>aw g Q .normal E D H
 | .label _,_,g,Q,E,D,H=>aw g Q .normal E D H
 | .exit id,_,g,Q,E,D,H=>aw g Q (.exit id) E D H
 | .goto l,_,g,Q,E,D,H=>aw g Q (.goto l) E D H
 | .ret,_,g,Q,E,D,H=>aw g Q .ret E D H
 | .stuck,_,_,_,_,_,_=>False
 | .region l,_,g,Q,E,D,H=>mf M K.cj Q E D l g H λ g L _ H=>aw g Q .normal (c6 K.ae E L) D H
 | .seq a b,k,g,Q,E,D,H=>match a,b with
  | .region l,.cond c x y=>mf M K.cj Q E D l g H λ g L R H=>CV E L R c g λ g v=>br g v (λ g=>(Bool.rec (motive:=λ _=>WX) (U M ctx K X x (k+3)) (X (k+3)) (bO (k+3) K.named)) g Q (c6 K.ae E L) D H) (λ g=>(Bool.rec (motive:=λ _=>WX) (U M ctx K X y (k+3+c8 x)) (X (k+3+c8 x)) (bO (k+3+c8 x) K.named)) g Q (c6 K.ae E L) D H)
  | .region l,.seq (.cond c x y) r=>mf M K.cj Q E D l g H λ g L R H=>CV E L R c g λ g v=>br g v (λ g=>(Bool.rec (motive:=λ _=>WX) (U M ctx K X x (k+4)) (X (k+4)) (bO (k+4) K.named)) g (ak (Bool.rec (motive:=λ _=>WX) (U M ctx K X r (k+4+c8 x+c8 y)) (X (k+4+c8 x+c8 y)) (bO (k+4+c8 x+c8 y) K.named)) Q) (c6 K.ae E L) D H)
   (λ g=>(Bool.rec (motive:=λ _=>WX) (U M ctx K X y (k+4+c8 x)) (X (k+4+c8 x)) (bO (k+4+c8 x) K.named)) g (ak (Bool.rec (motive:=λ _=>WX) (U M ctx K X r (k+4+c8 x+c8 y)) (X (k+4+c8 x+c8 y)) (bO (k+4+c8 x+c8 y) K.named)) Q) (c6 K.ae E L) D H)
  | .region l,b=>mf M K.cj Q E D l g H λ g L _ H=>(Bool.rec (motive:=λ _=>WX) (U M ctx K X b (k+2)) (X (k+2)) (bO (k+2) K.named)) g Q (c6 K.ae E L) D H
  | a,b=>(Bool.rec (motive:=λ _=>WX) (U M ctx K X a (k+1)) (X (k+1)) (bO (k+1) K.named)) g (ak (Bool.rec (motive:=λ _=>WX) (U M ctx K X b (k+1+c8 a)) (X (k+1+c8 a)) (bO (k+1+c8 a) K.named)) Q) E D H
 | .cond c x y,k,g,Q,E,D,H=>OV E c g λ g v=>br g v (λ g=>(Bool.rec (motive:=λ _=>WX) (U M ctx K X x (k+1)) (X (k+1)) (bO (k+1) K.named)) g Q E D H) (λ g=>(Bool.rec (motive:=λ _=>WX) (U M ctx K X y (k+1+c8 x)) (X (k+1+c8 x)) (bO (k+1+c8 x) K.named)) g Q E D H)
 | .block id b,k,g,Q,E,D,H=>(Bool.rec (motive:=λ _=>WX) (U M ctx K X b (k+1)) (X (k+1)) (bO (k+1) K.named)) g (aI id Q) E D H
 | .scope b,k,g,Q,E,D,H=>(Bool.rec (motive:=λ _=>WX) (U M ctx K X b (k+1)) (X (k+1)) (bO (k+1) K.named)) g (o9 b Q) E D H
 | .loop (some _) _,_,_,_,_,_,_=>False
 | .loop none b,k,g,Q,E,D,H=>bq (Bool.rec (motive:=λ _=>WX) (U M ctx K X b (k+1)) (X (k+1)) (bO (k+1) K.named)) Q E D H
 | .rangeFunc f n,_,g,Q,E,D,H=>OV E f g λ g v=>eS M K.ae ctx n E D H Q v
theorem Lj (r:ah):∀ (n:Nat) (c:ah),c8 c<=n -> ∀ k,part r k=c->U M ctx K (λ j=>W3 M ctx K (part r j)) c k=W3 M ctx K c:=by
 intro n
 induction n with
 | zero=>intro c hc;cases c<;>simp [c8] at hc
 | succ n ih =>
  intro c hc k hk;have sub:∀ (d:ah) (j:Nat),c8 d<=n->part r j=d->Bool.rec (motive:=λ _=>WX) (U M ctx K (λ j=>W3 M ctx K (part r j)) d j) (W3 M ctx K (part r j)) (bO j K.named)=W3 M ctx K d:=λ d j h1 h2=>by
   cases bO j K.named with
   | true=>show W3 M ctx K (part r j)=_;rw [h2]
   | false=>exact ih d h1 j h2
  have pl:=@zY r;have pr:=@FD r;cases c with
  | seq a b =>
   have e:pre (.seq a b)=.seq a b::(pre a++pre b):=by simp [pre,jC]
   have ha:=zY (b:=b) hk (by simp) ⟨_,_,e⟩;have hb:=FD hk (by simp) ⟨_,e⟩;have hs:c8 a+c8 b<=n:=by simp only [c8] at hc;omega
   have gen:(Bool.rec (motive:=λ _=>WX) (U M ctx K (λ j=>W3 M ctx K (part r j)) a (k+1)) (W3 M ctx K (part r (k+1))) (bO (k+1) K.named))=W3 M ctx K a/\(Bool.rec (motive:=λ _=>WX) (U M ctx K (λ j=>W3 M ctx K (part r j)) b (k+1+c8 a)) (W3 M ctx K (part r (k+1+c8 a))) (bO (k+1+c8 a) K.named))=W3 M ctx K b :=
    ⟨sub a _ (by omega) ha,sub b _ (by omega) hb⟩
   cases a with
   | region l =>
    have plain:(Bool.rec (motive:=λ _=>WX) (U M ctx K (λ j=>W3 M ctx K (part r j)) b (k+2)) (W3 M ctx K (part r (k+2))) (bO (k+2) K.named))=W3 M ctx K b:=sub b _ (by omega) hb;cases b with
    | cond c x y =>
     have e2:pre (.cond c x y)=.cond c x y::(pre x++pre y):=by simp [pre,jC]
     have hx:=zY (b:=y) hb (by simp) ⟨_,_,e2⟩;have hy:=FD hb (by simp) ⟨_,e2⟩;have hxy:c8 x+c8 y+1<=n:=by simp only [c8] at hs;omega
     have s1:=sub x (k+3) (by omega) hx;have s2:=sub y (k+3+c8 x) (by omega) hy;funext g Q E D H;simp only [U,W3,s1,s2]
    | seq b1 q =>
     cases b1 with
     | cond c x y =>
      have e1:pre (.seq (.cond c x y) q)=.seq (.cond c x y) q::(pre (.cond c x y)++pre q):=by simp [pre,jC]
      have e2:pre (.cond c x y)=.cond c x y::(pre x++pre y):=by simp [pre,jC]
      have hc2:=zY (b:=q) hb (by simp) ⟨_,_,e1⟩;have hq:=FD hb (by simp) ⟨_,e1⟩;have hx:=zY (b:=y) hc2 (by simp) ⟨_,_,e2⟩;have hy:=FD hc2 (by simp) ⟨_,e2⟩;have hxy:c8 x+c8 y+1+c8 q+1<=n:=by simp only [c8] at hs;omega
      have s1:=sub x (k+4) (by omega) hx;have s2:=sub y (k+4+c8 x) (by omega) hy;have s3:=sub q (k+4+c8 x+c8 y) (by omega) (by rw [<-hq];simp only [c8];congr 1;omega);funext g Q E D H;simp only [U,W3,s1,s2,s3]
     | _=>funext g Q E D H;simp only [U,W3] at plain ⊢;simp only [plain]
    | _=>funext g Q E D H;simp only [U,W3] at plain ⊢;simp only [plain]
   | _=>funext g Q E D H;simp only [U,W3] at gen ⊢;simp only [gen.1,gen.2]
  | cond c x y =>
   have e2:pre (.cond c x y)=.cond c x y::(pre x++pre y):=by simp [pre,jC]
   have hx:=zY (b:=y) hk (by simp) ⟨_,_,e2⟩;have hy:=FD hk (by simp) ⟨_,e2⟩;have hxy:c8 x+c8 y<=n:=by simp only [c8] at hc;omega
   have s1:=sub x (k+1) (by omega) hx;have s2:=sub y (k+1+c8 x) (by omega) hy;funext g Q E D H;simp only [U,W3,s1,s2]
  | block i b =>
   have s1:=sub b (k+1) (by simp only [c8] at hc;omega) (zY (b:=b) hk (by simp) ⟨.block i b,[],by simp [pre]⟩);funext g Q E D H;simp only [U,W3,s1]
  | scope b =>
   have s1:=sub b (k+1) (by simp only [c8] at hc;omega) (zY (b:=b) hk (by simp) ⟨.scope b,[],by simp [pre]⟩);funext g Q E D H;simp only [U,W3,s1]
  | loop i b =>
   have s1:=sub b (k+1) (by simp only [c8] at hc;omega) (zY (b:=b) hk (by simp) ⟨.loop i b,[],by simp [pre]⟩);funext g Q E D H;cases i with
   | none=>simp only [U,W3,s1]
   | some _=>rfl
  | _=>funext g Q E D H;rfl
theorem Hk:∃ F:aM->Ctx->Kp × ah->WX,F=λ M ctx p=>W3 M ctx p.1 p.2:=⟨_,rfl⟩
def W:aM->Ctx->Kp × ah->WX:=Classical.choose Hk
theorem jL (M:aM) (ctx:Ctx) (p:Kp × ah):W M ctx p=W3 M ctx p.1 p.2:=congrFun (congrFun (congrFun (Classical.choose_spec Hk) M) ctx) p
def funcAt (P:Program) (n:Nat):aq:=Option.rec (motive:=λ _=>aq) ⟨[],.stuck,[]⟩ (λ f=>f) ((aj P).func n)
def i5 (F:aq) (i:Nat):dq:=Option.rec (motive:=λ _=>dq) ⟨[],.stuck,.stuck⟩ (λ l=>l) (nth F.loops i)
theorem aF {M:aM} {ctx:Ctx} {K:Kp} {r:ah} {k:Nat} {g:Bool} {Q:aJ} {E:Env} {D:List aN} {H:AHeap} {R:Prop} (h:U M ctx K (λ j=>W M ctx (K,part r j)) (part r k) k g Q E D H=R):W M ctx (K,part r k) g Q E D H=R:=by
 rw [<-h];have e:(λ j=>W M ctx (K,part r j))=λ j=>W3 M ctx K (part r j):=by funext j;exact jL ..
 rw [e,Lj (M:=M) (ctx:=ctx) (K:=K) r _ (part r k) (qi _) k rfl,jL]
abbrev uu:AV:=.undef
theorem rb (c:ah):part c 0=c:=q3r (sm c)
theorem xw {α β:Type} {a b:α} {x y:β} (h:(a,x)=(b,y)):a=b/\x=y:=by injection h with h1 h2;exact ⟨h1,h2⟩
theorem It {M:aM} {f:Nat} {fn:aq} (hf:M.func f=some fn) {ks:Kp} {vs:List AV} (hk:mb 0 vs.length ks.ae=true) {H:AHeap} {Q:bu->AHeap->Prop}
 (h:W M ⟨none,f⟩ (ks,part fn.body 0) true (aL M fn.results Q) (qT 0 vs) [] H):kt M f vs H Q:=by
 rw [jL,rb] at h;refine q7r hf (mj (W3.wp (dh fn.body) fn.body (qi _) (up:=none) h (vO hk)) λ e st ⟨h1,E',h2,h3⟩=>?_);obtain ⟨tm,D,up,H'⟩:=st;have h1:up=none:=h1;subst h1;have mono:∀ {m:Option aC},jR M fn.results E' Q D m H'->ru M fn.results tm (λ e H=>(none:Option aC)=none/\Q e H) D m H':=λ {m} h=>by
  have h':jR M fn.results E' (λ e H=>(none:Option aC)=none/\Q e H) D m H':=by
   have e:(λ e H=>(none:Option aC)=none/\Q e H)=Q:=by funext e H;simp
   rw [e];exact h
  exact jR.KW h2 h'
 cases e with
 | normal=>exact mono h3
 | ret=>exact mono h3
 | panic c=>exact mono h3
 | exit _=>exact h3.elim
 | goto _=>exact h3.elim
section
variable (E:Env) (H:AHeap) (K:Bool->AV->Prop) (K2:Bool->AV->AHeap->Prop) (A B:Bool->Prop)
def Lz (E:Env) (n:Nat) (K:Bool->AV->Prop):Prop:=LK true (lk E n) K
def Ly (g:Bool) (E:Env) (n:Nat) (K:Bool->AV->Prop):Prop:=LK g (lk E n) K
def Fl (g:Bool) (i:Nat) (a:AV) (H:AHeap) (K:Bool->AV->Prop):Prop:=B3 g (Op.fieldAddr i [a]) λ g x=>B3 g (Op.aa [x] H) K
def Nf (g:Bool) (i:Nat) (a:AV) (H:AHeap) (K:Bool->AV->Prop):Prop:=B3 g (Op.nilCheck [a]) λ g x=>Fl g i x H K
def Fs (g:Bool) (i:Nat) (a b:AV) (H:AHeap) (K:Bool->AV->AHeap->Prop):Prop:=B3 g (Op.fieldAddr i [a]) λ g x=>aZ g (Op.store 1 [x,b] H) K
def Ns (g:Bool) (i:Nat) (a b:AV) (H:AHeap) (K:Bool->AV->AHeap->Prop):Prop:=B3 g (Op.nilCheck [a]) λ g x=>Fs g i x b H K
def Xl (g:Bool) (a b:AV) (H:AHeap) (K:Bool->AV->Prop):Prop:=B3 g (Op.aP 1 [a,b]) λ g x=>B3 g (Op.aa [x] H) K
def Xs (g:Bool) (a b c:AV) (H:AHeap) (K:Bool->AV->AHeap->Prop):Prop:=B3 g (Op.aP 1 [a,b]) λ g x=>aZ g (Op.store 1 [x,c] H) K
def Bn (g:Bool) (o:BinOp) (a b:AV) (K:Bool->AV->Prop):Prop:=B3 g (Op.bin o [a,b]) K
def Cb (g:Bool) (o:BinOp) (a b:AV) (A B:Bool->Prop):Prop:=B3 g (Op.bin o [a,b]) λ g v=>br g v A B
def Gt (g:Bool) (M:aM) (c:Ctx) (p:Kp × ah) (Q:aJ) (E:Env) (D:List aN) (H:AHeap):Prop:=aw g (ak (W M c p) Q) .normal E D H
theorem Mq (n:Nat):Lz E n K=LK true (lk E n) K:=propext j4
theorem LS (n:Nat):Ly true E n K=LK true (lk E n) K:=propext j4
theorem Lh (i:Nat) (a:AV):Fl true i a H K=B3 true (Op.fieldAddr i [a]) λ g x=>B3 g (Op.aa [x] H) K:=propext j4
theorem LB (i:Nat) (a:AV):Nf true i a H K=B3 true (Op.nilCheck [a]) λ g x=>Fl g i x H K:=propext j4
theorem KD (i:Nat) (a b:AV):Fs true i a b H K2=B3 true (Op.fieldAddr i [a]) λ g x=>aZ g (Op.store 1 [x,b] H) K2:=propext j4
theorem LF (i:Nat) (a b:AV):Ns true i a b H K2=B3 true (Op.nilCheck [a]) λ g x=>Fs g i x b H K2:=propext j4
theorem L4 (a b:AV):Xl true a b H K=B3 true (Op.aP 1 [a,b]) λ g x=>B3 g (Op.aa [x] H) K:=propext j4
theorem MN (a b c:AV):Xs true a b c H K2=B3 true (Op.aP 1 [a,b]) λ g x=>aZ g (Op.store 1 [x,c] H) K2:=propext j4
theorem L7 (o:BinOp) (a b:AV):Bn true o a b K=B3 true (Op.bin o [a,b]) K:=propext j4
theorem Mu (o:BinOp) (a b:AV):Cb true o a b A B=B3 true (Op.bin o [a,b]) λ g v=>br g v A B:=propext j4
theorem LI (M:aM) (c:Ctx) (p:Kp × ah) (Q:aJ) (D:List aN):Gt true M c p Q E D H=aw true (ak (W M c p) Q) .normal E D H:=propext j4
end
end
end Go.Am
namespace Go.Am
def Mv (g:Bool) (a:AV) (K:Bool->AV->Prop):Prop:=B3 g (Op.move [a]) K
theorem i7 (a:AV) (K:Bool->AV->Prop):Mv true a K=K true a:=propext j4
@[congr] theorem HP {g g':Bool} {a a':AV} {K:Bool->AV->Prop} (hg:g=g') (ha:a=a'):Mv g a K=Mv g' a' K:=by subst hg;subst ha;rfl
end Go.Am
namespace Go.Am
section
variable {M:aM} {ctx:Ctx} {cj:Bool} {Q Q':aJ} {E:Env} {D:List aN}
theorem Jc {α:Type} {m:Bool} {o:Option α} {K K':Bool -> α->Prop} (h:B3 m o K) (hk:∀ a,K m a->K' m a):B3 m o K':=by
 cases o with
 | none=>exact h
 | some a=>exact hk a h
theorem q5z {α β:Type} {m:Bool} {o:Option (α × β)} {K K':Bool -> α -> β->Prop} (h:aZ m o K) (hk:∀ a b,K m a b->K' m a b):aZ m o K':=by
 cases o with
 | none=>exact h
 | some a=>exact hk a.1 a.2 h
theorem q86 {α:Type} {m:Bool} {o:Option α} {K K':Bool -> α->Prop} (h:LK m o K) (hk:∀ a,K m a->K' m a):LK m o K':=by
 cases o with
 | none=>exact h
 | some a=>exact hk a h
theorem q51 {m:Bool} {v:AV} {A B A' B':Bool->Prop} (h:br m v A B) (ha:A m->A' m) (hb:B m->B' m):br m v A' B':=by
 obtain ⟨q,rfl,h⟩:=h.elim;cases q with
 | true=>exact ha h
 | false=>exact hb h
theorem Ki {L R:Env} {t:Nat} {g:Bool} {K K':Bool->Env->AV->Prop} (h:TV E L R t g K) (hk:∀ R v,K g R v->K' g R v):TV E L R t g K':=by
 unfold TV at h ⊢;cases hl:lk L t with
 | some v=>rw [hl] at h;exact hk _ _ h
 | none =>
  rw [hl] at h;cases hq:lk R t with
  | some v=>rw [hq] at h;exact hk _ _ h
  | none=>rw [hq] at h;exact q86 h λ v q=>hk _ _ q
theorem q89 {x:bD} {g:Bool} {K K':Bool->AV->Prop} (h:OV E x g K) (hk:∀ v,K g v->K' g v):OV E x g K':=by
 cases x with
 | tmp t=>simp only [OV] at h ⊢;exact q86 h hk
 | const v=>exact hk _ h
 | c7 b=>exact hk _ h
 | func f=>exact hk _ h
theorem Az {L R:Env} {x:bD} {g:Bool} {K K':Bool->AV->Prop} (h:CV E L R x g K) (hk:∀ v,K g v->K' g v):CV E L R x g K':=by
 cases x with
 | tmp t=>simp only [CV] at h ⊢;exact Ki h λ _ v=>hk v
 | const v=>exact hk _ h
 | c7 b=>exact hk _ h
 | func f=>exact hk _ h
theorem Ho {L:Env} {g:Bool}:∀ {l:List bD} {R:Env} {K K':Bool->Env->List AV->Prop},pD E L l g R K->(∀ R vs,K g R vs->K' g R vs)->pD E L l g R K'
 | [],R,K,K',h,hk=>hk _ _ h
 | .tmp t::xs,R,K,K',h,hk=>Ki (K:=λ g R v=>pD E L xs g R λ g R vs=>K g R (v::vs)) (K':=λ g R v=>pD E L xs g R λ g R vs=>K' g R (v::vs)) h λ R v q=>Ho (K:=λ g R vs=>K g R (v::vs)) (K':=λ g R vs=>K' g R (v::vs)) q λ R vs=>hk _ _
 | .const v::xs,R,K,K',h,hk=>Ho (l:=xs) (K:=λ g R vs=>K g R (v::vs)) (K':=λ g R vs=>K' g R (v::vs)) h λ R vs=>hk _ _
 | .c7 v::xs,R,K,K',h,hk=>Ho (l:=xs) (K:=λ g R vs=>K g R (.ptr v 0::vs)) (K':=λ g R vs=>K' g R (.ptr v 0::vs)) h λ R vs=>hk _ _
 | .func v::xs,R,K,K',h,hk=>Ho (l:=xs) (K:=λ g R vs=>K g R (.fn (.func v) [] []::vs)) (K':=λ g R vs=>K' g R (.fn (.func v) [] []::vs)) h λ R vs=>hk _ _
theorem q9a (hq:∀ e E D H,Q e E D H->Q' e E D H) {ps:Option (List Nat)} {ks:List Nat} {c:aC} {H:AHeap} (h:PX ps ks Q E D c H):PX ps ks Q' E D c H:=by
 cases ps with
 | none=>exact h
 | some _=>exact hq _ _ _ _ h
theorem J1 (hq:∀ e E D H,Q e E D H->Q' e E D H) {ps:Option (List Nat)} {L:Env} {g:Bool} {f:fk} {vs:List AV} {H:AHeap} {K K':Bool->AV->AHeap->Prop} (h:sE M cj ps L Q E D g f vs H K) (hk:∀ v H,K g v H->K' g v H):sE M cj ps L Q' E D g f vs H K':=by
 cases cj with
 | false=>obtain ⟨v,H',h1,h2⟩:=h;exact ⟨v,H',h1,hk _ _ h2⟩
 | true =>
  obtain ⟨e,H',h1,h2⟩:=h;refine ⟨e,H',h1,?_⟩;cases e with
  | ret v=>exact hk _ _ h2
  | panic c=>exact q9a hq h2
theorem rM (hq:∀ e E D H,Q e E D H->Q' e E D H) {s:aU} {K K':KR} {g:Bool} {L R:Env} {H:AHeap} (h:wO M cj s Q E D K g L R H) (hk:∀ L R H,K g L R H->K' g L R H):wO M cj s Q' E D K' g L R H:=by
 refine Ho (show pD E L s.args g R _ from h) λ R vs h=>?_;obtain ⟨eJ,dst,guard,args,op,ps⟩:=s;cases eJ with
 | true =>
  have h:JA dst E L R H K g vs op:=h;show JA dst E L R H K' g vs op;cases op with
  | read f =>
   cases dst with
   | none=>exact h
   | some d=>exact ⟨h.1,hk _ _ _ h.2⟩
  | _=>exact h
 | false =>
  have h:nU M cj dst ps Q E D L R H K g vs op:=h;show nU M cj dst ps Q' E D L R H K' g vs op;cases op with
  | pure f=>simp only [nU] at h ⊢;exact Jc h λ a=>hk _ _ _
  | read f=>simp only [nU] at h ⊢;exact Jc h λ a=>hk _ _ _
  | alloc f=>simp only [nU] at h ⊢;exact q5z h λ a b=>hk _ _ _
  | eF f=>simp only [nU] at h ⊢;exact q5z h λ a b=>hk _ _ _
  | eM f=>exact J1 hq h λ v H=>hk _ _ _
  | eN =>
   simp only [nU,V3] at h ⊢;split at h
   ·exact J1 hq h λ v H=>hk _ _ _
   ·exact J1 hq h λ v H=>hk _ _ _
   ·exact h.elim
  | invoke n =>
   simp only [nU,N3] at h ⊢;split at h
   ·exact Jc h λ a q=>J1 hq q λ v H=>hk _ _ _
   ·exact h.elim
  | recover=>exact h
  | defer=>exact h
  | panic =>
   cases cj with
   | false=>exact h
   | true =>
    have h:eh vs H (PX ps (iI L) Q E D):=h;show eh vs H (PX ps (iI L) Q' E D);unfold eh at h ⊢;split at h
    ·exact q9a hq h
    ·exact h.elim
theorem MX (hq:∀ e E D H,Q e E D H->Q' e E D H) {K K':KR} {g:Bool} (hk:∀ L R H,K g L R H->K' g L R H):∀ {l:List aU} {L R:Env} {H:AHeap},jZ M cj Q E D K l g L R H->jZ M cj Q' E D K' l g L R H
 | [],L,R,H,h=>hk _ _ _ h
 | s::l,L,R,H,h=>rM hq (show wO M cj s Q E D (jZ M cj Q E D K l) g L R H from h) λ L R H=>MX hq hk
theorem K3:∀ (n:Nat) {f f':List AV->AHeap->Prop},(∀ vs H,f vs H->f' vs H) -> ∀ (l:List AV) (H:AHeap),jT n (kN n f) l H->jT n (kN n f') l H
 | 0,f,f',hf,l,H,h=>hf [] H h
 | n+1,f,f',hf,[],H,h=>h
 | n+1,f,f',hf,v::l,H,h=>K3 n (f:=λ l=>f (v::l)) (f':=λ l=>f' (v::l)) (λ vs H=>hf _ _) l H h
theorem uZ (hq:∀ e E D H,Q e E D H->Q' e E D H) {x:yR} {K K':KR} {g:Bool} (hk:∀ L R H,K g L R H->K' g L R H) {L R:Env} {H:AHeap} (h:Js M cj Q E D x K g L R H):Js M cj Q' E D x K' g L R H:=by
 obtain ⟨q,l⟩:=x;cases q with
 | none=>exact MX hq hk (show jZ M cj Q E D K l g L R H from h)
 | some q =>
  cases ho:oU q.1 l with
  | false =>
   have h:cond (oU q.1 l) _ False:=h;rw [ho] at h;exact h.elim
  | true =>
   have h:cond (oU q.1 l) _ False:=h;rw [ho,xh] at h;show cond (oU q.1 l) _ False;rw [ho,xh];refine Ki h λ R1 v h=>?_;have h:B3 g (aA q.2 (some v)) λ g w=>cd g w (λ g=>jZ M cj Q E D (λ g L' _ H=>jT (ct (bo l [])) (kN (ct (bo l [])) λ vs H=>K g (gF (bo l []) L vs) R1 H) (mh (ct (bo l [])) L') H) l g L R1 H)
    (λ g=>jT (ct (bo l [])) (kN (ct (bo l [])) λ vs H=>K g (gF (bo l []) L vs) R1 H) (mK (ct (bo l []))) H):=h
   refine Jc (K':=λ g w=>cd g w (λ g=>jZ M cj Q' E D (λ g L' _ H=>jT (ct (bo l [])) (kN (ct (bo l [])) λ vs H=>K' g (gF (bo l []) L vs) R1 H) (mh (ct (bo l [])) L') H) l g L R1 H)
    (λ g=>jT (ct (bo l [])) (kN (ct (bo l [])) λ vs H=>K' g (gF (bo l []) L vs) R1 H) (mK (ct (bo l []))) H)) h λ w h=>?_
   cases w with
   | true=>exact MX hq (λ L' R H h=>K3 _ (λ vs H=>hk _ _ _) _ _ h) (show jZ M cj Q E D _ l g L R1 H from h)
   | false=>exact K3 _ (λ vs H=>hk _ _ _) _ _ h
theorem JC (hq:∀ e E D H,Q e E D H->Q' e E D H) {l:List aU} {K K':KR} {g:Bool} (hk:∀ L R H,K g L R H->K' g L R H) {H:AHeap} (h:mf M cj Q E D l g H K):mf M cj Q' E D l g H K':=by
 unfold mf at h ⊢;generalize CD l=gs at h ⊢;generalize ([]:Env)=L at h ⊢;have key:∀ (gs:List yR) (L R:Env) (H:AHeap),ra M cj Q E D K gs g L R H->ra M cj Q' E D K' gs g L R H:=by
  intro gs
  induction gs with
  | nil=>exact λ L R H h=>hk _ _ _ h
  | cons x gs ih=>exact λ L R H h=>uZ hq ih (show Js M cj Q E D x (ra M cj Q E D K gs) g L R H from h)
 exact key gs L L H h
theorem Ao {K:Kp}:∀ (n:Nat) (c:ah),dh c<=n -> ∀ {g:Bool} {Q Q':aJ} {E:Env} {D:List aN} {H:AHeap},(∀ e E D H,Q e E D H->Q' e E D H)->W3 M ctx K c g Q E D H->W3 M ctx K c g Q' E D H:=by
 intro n
 induction n with
 | zero =>
  intro c hc g Q Q' E D H hq h;cases c with
  | region l=>exact JC hq (λ L R H h=>hq _ _ _ _ h) h
  | rangeFunc f k =>
   have h:OV E f g λ g v=>eS M K.ae ctx k E D H Q v:=h;show OV E f g λ g v=>eS M K.ae ctx k E D H Q' v;have key:∀ v,eS M K.ae ctx k E D H Q v->eS M K.ae ctx k E D H Q' v:=λ v h tm up he=>by
    have:=h tm up he;unfold AJ at this ⊢;split
    ·rename_i hr;rw [hr] at this;exact Fp this λ e st ⟨h1,h2,h3⟩=>⟨h1,h2,hq _ _ _ _ h3⟩
    ·rename_i l hr;rw [hr] at this;exact wD (m:=aB) this λ d q=>Fp q λ e st ⟨h1,h2,h3⟩=>⟨h1,h2,hq _ _ _ _ h3⟩
   exact q89 h key
  | skip=>exact hq _ _ _ _ h
  | label _=>exact hq _ _ _ _ h
  | exit _=>exact hq _ _ _ _ h
  | goto _=>exact hq _ _ _ _ h
  | ret=>exact hq _ _ _ _ h
  | stuck=>exact h
  | seq _ _=>simp [dh] at hc
  | cond _ _ _=>simp [dh] at hc
  | block _ _=>simp [dh] at hc
  | loop _ _=>simp [dh] at hc
  | scope _=>simp [dh] at hc
 | succ n ih =>
  intro c hc g Q Q' E D H hq h;have sq:∀ {b:ah},dh b<=n -> ∀ e E D H,ak (W3 M ctx K b) Q e E D H->ak (W3 M ctx K b) Q' e E D H:=λ hb e E D H h=>by
   cases e with
   | normal=>exact ih _ hb hq h
   | _=>exact hq _ _ _ _ h
  cases c with
  | seq a b =>
   have hab:dh a+dh b<=n:=by simp only [dh] at hc;omega
   have gen:W3 M ctx K a g (ak (W3 M ctx K b) Q) E D H->W3 M ctx K a g (ak (W3 M ctx K b) Q') E D H:=λ h=>ih a (by omega) (sq (by omega)) h;cases a with
   | region l =>
    have plain:(mf M K.cj Q E D l g H λ g L _ H=>W3 M ctx K b g Q (c6 K.ae E L) D H)->mf M K.cj Q' E D l g H λ g L _ H=>W3 M ctx K b g Q' (c6 K.ae E L) D H:=λ h=>JC hq (λ L R H h=>ih b (by omega) hq h) h;have cv:∀ {L R:Env} {c:bD} {A B A' B':Bool->Prop},CV E L R c g (λ g v=>br g v A B)->(A g->A' g)->(B g->B' g)->CV E L R c g (λ g v=>br g v A' B'):=λ {L R c A B A' B'} h ha hb=>by
     exact Az h λ v h=>q51 h ha hb
    cases b with
    | cond c x y =>
     have hxy:dh x+dh y+1<=n:=by simp only [dh] at hab;omega
     exact JC hq (λ L R H h=>cv h (ih x (by omega) hq) (ih y (by omega) hq)) h
    | seq b1 r =>
     cases b1 with
     | cond c x y =>
      have hxy:dh x+dh y+1+dh r+1<=n:=by simp only [dh] at hab;omega
      exact JC hq (λ L R H h=>cv h (ih x (by omega) (sq (by omega))) (ih y (by omega) (sq (by omega)))) h
     | _=>exact plain h
    | _=>exact plain h
   | _=>exact gen h
  | cond c x y =>
   have hab:dh x+dh y<=n:=by simp only [dh] at hc;omega
   have h:OV E c g λ g v=>br g v (λ g=>W3 M ctx K x g Q E D H) (λ g=>W3 M ctx K y g Q E D H):=h;exact q89 (K':=λ g v=>br g v (λ g=>W3 M ctx K x g Q' E D H) (λ g=>W3 M ctx K y g Q' E D H)) h λ v h=>q51 h (ih x (by omega) hq) (ih y (by omega) hq)
  | block id b =>
   have hb:dh b<=n:=by simp only [dh] at hc;omega
   exact ih b hb (λ e E D H h=>by cases e<;>exact hq _ _ _ _ h) h
  | scope b =>
   have hb:dh b<=n:=by simp only [dh] at hc;omega
   exact ih b hb (λ e E D H h=>by cases e<;>first|exact hq _ _ _ _ h|exact ⟨h.1,hq _ _ _ _ h.2⟩) h
  | loop ae b =>
   have hb:dh b<=n:=by simp only [dh] at hc;omega
   cases ae with
   | some _=>exact h
   | none =>
    obtain ⟨I,h0,h1⟩:=h;exact ⟨I,h0,λ n E D H hi=>ih b hb (λ e E D H h=>by cases e<;>first|exact h|exact hq _ _ _ _ h) (h1 n E D H hi)⟩
  | _=>exact ih _ (zp _) hq h
end
theorem W.mono {M:aM} {ctx:Ctx} {p:Kp × ah} {g:Bool} {Q Q':aJ} {E:Env} {D:List aN} {H:AHeap} (h:W M ctx p g Q E D H) (hq:∀ e E D H,Q e E D H->Q' e E D H):W M ctx p g Q' E D H:=by
 rw [jL] at h ⊢;exact Ao _ p.2 (qi _) hq h
end Go.Am
namespace Go.Am
noncomputable section
variable (X:WX) (Q:aJ) (E:Env) (D:List aN) (H:AHeap) (I:Cs) (n:Nat)
theorem q4i:ak X Q .normal E D H=X true Q E D H:=propext j4
theorem uX:ak X Q .ret E D H=Q .ret E D H:=propext j4
theorem q9b (l:Nat):ak X Q (.exit l) E D H=Q (.exit l) E D H:=propext j4
theorem q9c (l:Nat):ak X Q (.goto l) E D H=Q (.goto l) E D H:=propext j4
theorem q7k (c:aC):ak X Q (.panic c) E D H=Q (.panic c) E D H:=propext j4
theorem q4d (i:Nat):aI i Q .normal E D H=Q .normal E D H:=propext j4
theorem t9 (i:Nat):aI i Q .ret E D H=Q .ret E D H:=propext j4
theorem q8y (i l:Nat):aI i Q (.goto l) E D H=Q (.goto l) E D H:=propext j4
theorem q68 (i:Nat) (c:aC):aI i Q (.panic c) E D H=Q (.panic c) E D H:=propext j4
theorem q8x (i l:Nat):aI i Q (.exit l) E D H=if i=l then Q .normal E D H else Q (.exit l) E D H:=by
 show Q (cond (Nat.beq i l) .normal (.exit l)) E D H=_
 by_cases h:i=l
 ·subst h;simp
 ·rw [qf h,Ef h];rfl
section
variable (M:aM) (rs:List cS) (Q:bu->AHeap->Prop) (P:List AV->Prop) (R:AV->AHeap->Prop)
theorem rP:aL M rs Q .ret E [] H=dv E H rs λ l=>Q (.ret (de l)) H:=propext j4
theorem q4g:aL M rs Q .normal E [] H=dv E H rs λ l=>Q (.ret (de l)) H:=propext j4
theorem q7f (c:aC):aL M rs Q (.panic c) E [] H=Q (.panic c) H:=propext j4
theorem vD:dv E H [] P=P []:=propext j4
theorem vQ (t:Nat):dv E H (.tmp t::rs) P=LK true (lk E t) λ _ v=>dv E H rs λ vs=>P (v::vs):=propext j4
theorem q7i (t:Nat):dv E H (.gA t::rs) P=LK true (lk E t) λ _ v=>B3 true (Op.aa [v] H) λ _ v=>dv E H rs λ vs=>P (v::vs):=propext j4
theorem q7j (n t:Nat):dv E H (.cz n t::rs) P=LK true (lk E t) λ _ v=>B3 true (Op.ao n [v] H) λ _ v=>dv E H rs λ vs=>P (v::vs):=propext j4
theorem yV (v:AV):lF R (.ret v) H=R v H:=propext j4
end
theorem BD:((0:Nat):Int)=0:=rfl
theorem xx (l:List AV):AV.cells (.agg l)=l:=rfl
theorem q9r (k:IntKind) (n:Int):AV.cells (.int k n)=[.int k n]:=rfl
theorem q7u (b:Bool):AV.cells (.bool b)=[.bool b]:=rfl
theorem q9t (s:List UInt8):AV.cells (.str s)=[.str s]:=rfl
theorem q9s (b o:Nat):AV.cells (.ptr b o)=[.ptr b o]:=rfl
def rk (I:Nat->Env->AHeap->Prop) (D:List aN) (n:Nat) (Q:aJ):aJ:=λ e E D' H=>match e with
 | .normal=>D'=D /\ ∃ m E',I m E' H/\mY E' E/\m<n
 | e=>Q e E D' H
theorem bq.intro {M:aM} {ctx:Ctx} {p:Kp × ah} {Q:aJ} {E:Env} {D:List aN} {H:AHeap} (I:Nat->Env->AHeap->Prop) (h0:∃ n E0,I n E0 H/\mY E0 E) (h:∀ n E H,I n E H->W M ctx p true (rk I D n Q) E D H):bq (W M ctx p) Q E D H:=by
 obtain ⟨n,E0,h1,h2⟩:=h0;refine ⟨λ n E D' H=>D'=D/\I n E H,⟨n,E0,⟨rfl,h1⟩,h2.ss⟩,λ n E D' H ⟨e,hi⟩=>?_⟩;subst e;refine W.mono (h n E H hi) λ e E D'' H hq=>?_;cases e with
 | normal=>obtain ⟨q,m,E',a,b,c⟩:=hq;exact ⟨m,E',⟨q,a⟩,b.ss,c⟩
 | _=>exact hq
def yK (P:Env->List aN->AHeap->Prop) (Q:aJ):aJ:=λ e E D H=>match e with
 | .normal=>P E D H
 | e=>Q e E D H
theorem q7g (P:Env->List aN->AHeap->Prop) (Q:aJ) (E:Env) (D:List aN) (H:AHeap):yK P Q .normal E D H=P E D H:=propext j4
theorem Ad (P:Env->List aN->AHeap->Prop) (Q:aJ) (E:Env) (D:List aN) (H:AHeap):yK P Q .ret E D H=Q .ret E D H:=propext j4
theorem uy (P:Env->List aN->AHeap->Prop) (Q:aJ) (E:Env) (D:List aN) (H:AHeap) (l:Nat):yK P Q (.exit l) E D H=Q (.exit l) E D H:=propext j4
def LN (X:WX) (Q:aJ):Nat->Env->List aN->AHeap->Prop
 | 0,_,_,_=>False
 | n+1,E,D,H=>X true (yK (LN X Q n) Q) E D H
theorem zU (X:WX) (Q:aJ) (n:Nat) (E:Env) (D:List aN) (H:AHeap):LN X Q (n+1) E D H=X true (yK (LN X Q n) Q) E D H:=propext j4
theorem q7h (I:Nat->Env->AHeap->Prop) (D:List aN) (n:Nat) (Q:aJ) (E:Env) (H:AHeap):rk I D n Q .normal E D H = ∃ m E',I m E' H/\mY E' E/\m<n:=propext ⟨λ h=>h.2,λ h=>⟨rfl,h⟩⟩
theorem zC (I:Nat->Env->AHeap->Prop) (D D':List aN) (n:Nat) (Q:aJ) (E:Env) (H:AHeap):rk I D n Q .ret E D' H=Q .ret E D' H:=propext j4
theorem uH (I:Nat->Env->AHeap->Prop) (D D':List aN) (n:Nat) (Q:aJ) (E:Env) (H:AHeap) (l:Nat):rk I D n Q (.exit l) E D' H=Q (.exit l) E D' H:=propext j4
theorem uO (I:Nat->Env->AHeap->Prop) (D D':List aN) (n:Nat) (Q:aJ) (E:Env) (H:AHeap) (l:Nat):rk I D n Q (.goto l) E D' H=Q (.goto l) E D' H:=propext j4
theorem q87 (I:Nat->Env->AHeap->Prop) (D D':List aN) (n:Nat) (Q:aJ) (E:Env) (H:AHeap) (c:aC):rk I D n Q (.panic c) E D' H=Q (.panic c) E D' H:=propext j4
theorem GM:(∀ {α:Type} (a:α) (K:Bool -> α->Prop),LK true (some a) K=K true a)/\(∀ {α:Type} (a:α) (K:Bool -> α->Prop),B3 true (some a) K=K true a)/\(∀ {α β:Type} (a:α) (b:β) (K:Bool -> α -> β->Prop),aZ true (some (a,b)) K=K true a b)/\(∀ (A B:Bool->Prop),br true (AV.bool true) A B=A true)/\(∀ (A B:Bool->Prop),br true (AV.bool false) A B=B true)/\(∀ (A B:Bool->Prop),cd true true A B=A true)/\(∀ (A B:Bool->Prop),cd true false A B=B true)/\(∀ (v:AV) (K:Bool->Prop),uG true (some v) (some v) K=K true)/\(∀ (e:Nat) (z:List AV) (H:AHeap) (K:Bool->AV->AHeap->Prop),A3 true e z H K=K true (AV.ptr H.next 0) (H.alloc (bL.row z e (0,0) true)))/\(∀ {α:Type} (F:α->Prop) (K:α),JN F K=F K)/\(∀ (Q:aJ) (e:aH) (E:Env) (D:List aN) (H:AHeap),aw true Q e E D H=Q e E D H)/\(∀ (g:Nat) (first cap args:List AV) (K:Bool->fk->List AV->Prop),V3 true (AV.fn (fk.func g) first cap::args) K=K true (fk.func g) (first++(args++cap)))/\(∀ (l:Nat) (first args:List AV) (K:Bool->fk->List AV->Prop),V3 true (AV.fn (fk.yield l) first []::args) K=K true (fk.yield l) (first++args))/\(∀ (M:aM) (name:String) (t:Nat) (v:AV) (args:List AV) (K:Bool->fk->List AV->Prop),N3 M true name (AV.iface t v::args) K=B3 true (M.lH t name) λ m g=>K m (fk.func g) (v::args))/\(∀ (k t:Nat) (v:AV) (E:Env),lk ((k,v)::E) t=if k=t then some v else lk E t)/\(∀ (t:Nat),lk [] t=none)/\(∀ (k:Nat) (v:AV) (r E:Env),mY ((k,v)::r) E=(lk E k=some v/\mY r E))/\(∀ (E:Env),mY [] E=True)/\(∀ (X:WX) (Q:aJ) (E:Env) (D:List aN) (H:AHeap),ak X Q aH.normal E D H=X true Q E D H)/\(∀ (X:WX) (Q:aJ) (E:Env) (D:List aN) (H:AHeap),ak X Q aH.ret E D H=Q aH.ret E D H)/\(∀ (X:WX) (Q:aJ) (E:Env) (D:List aN) (H:AHeap) (l:Nat),ak X Q (aH.exit l) E D H=Q (aH.exit l) E D H)/\(∀ (X:WX) (Q:aJ) (E:Env) (D:List aN) (H:AHeap) (l:Nat),ak X Q (aH.goto l) E D H=Q (aH.goto l) E D H)/\(∀ (X:WX) (Q:aJ) (E:Env) (D:List aN) (H:AHeap) (c:aC),ak X Q (aH.panic c) E D H=Q (aH.panic c) E D H)/\(∀ (Q:aJ) (E:Env) (D:List aN) (H:AHeap) (i:Nat),aI i Q aH.normal E D H=Q aH.normal E D H)/\(∀ (Q:aJ) (E:Env) (D:List aN) (H:AHeap) (i:Nat),aI i Q aH.ret E D H=Q aH.ret E D H)/\(∀ (Q:aJ) (E:Env) (D:List aN) (H:AHeap) (i l:Nat),aI i Q (aH.goto l) E D H=Q (aH.goto l) E D H)/\(∀ (Q:aJ) (E:Env) (D:List aN) (H:AHeap) (i:Nat) (c:aC),aI i Q (aH.panic c) E D H=Q (aH.panic c) E D H)/\(∀ (Q:aJ) (E:Env) (D:List aN) (H:AHeap) (i l:Nat),aI i Q (aH.exit l) E D H=if i=l then Q aH.normal E D H else Q (aH.exit l) E D H)/\(∀ (P:Env->List aN->AHeap->Prop) (Q:aJ) (E:Env) (D:List aN) (H:AHeap),yK P Q aH.normal E D H=P E D H)/\(∀ (P:Env->List aN->AHeap->Prop) (Q:aJ) (E:Env) (D:List aN) (H:AHeap),yK P Q aH.ret E D H=Q aH.ret E D H)/\(∀ (P:Env->List aN->AHeap->Prop) (Q:aJ) (E:Env) (D:List aN) (H:AHeap) (l:Nat),yK P Q (aH.exit l) E D H=Q (aH.exit l) E D H)/\(∀ (X:WX) (Q:aJ) (n:Nat) (E:Env) (D:List aN) (H:AHeap),LN X Q (n+1) E D H=X true (yK (LN X Q n) Q) E D H)/\(∀ (I:Nat->Env->AHeap->Prop) (D:List aN) (n:Nat) (Q:aJ) (E:Env) (H:AHeap),rk I D n Q aH.normal E D H = ∃ m E',I m E' H/\mY E' E/\m<n)/\(∀ (I:Nat->Env->AHeap->Prop) (D D':List aN) (n:Nat) (Q:aJ) (E:Env) (H:AHeap),rk I D n Q aH.ret E D' H=Q aH.ret E D' H)/\(∀ (I:Nat->Env->AHeap->Prop) (D D':List aN) (n:Nat) (Q:aJ) (E:Env) (H:AHeap) (l:Nat),rk I D n Q (aH.exit l) E D' H=Q (aH.exit l) E D' H)/\(∀ (I:Nat->Env->AHeap->Prop) (D D':List aN) (n:Nat) (Q:aJ) (E:Env) (H:AHeap) (l:Nat),rk I D n Q (aH.goto l) E D' H=Q (aH.goto l) E D' H)/\(∀ (I:Nat->Env->AHeap->Prop) (D D':List aN) (n:Nat) (Q:aJ) (E:Env) (H:AHeap) (c:aC),rk I D n Q (aH.panic c) E D' H=Q (aH.panic c) E D' H)/\(∀ (E:Env) (H:AHeap) (M:aM) (rs:List cS) (Q:bu->AHeap->Prop),aL M rs Q aH.ret E [] H=dv E H rs λ l=>Q (bu.ret (de l)) H)/\(∀ (E:Env) (H:AHeap) (M:aM) (rs:List cS) (Q:bu->AHeap->Prop),aL M rs Q aH.normal E [] H=dv E H rs λ l=>Q (bu.ret (de l)) H)/\(∀ (E:Env) (H:AHeap) (M:aM) (rs:List cS) (Q:bu->AHeap->Prop) (c:aC),aL M rs Q (aH.panic c) E [] H=Q (bu.panic c) H)/\(∀ (E:Env) (H:AHeap) (P:List AV->Prop),dv E H [] P=P [])/\(∀ (E:Env) (H:AHeap) (rs:List cS) (P:List AV->Prop) (t:Nat),dv E H (cS.tmp t::rs) P=LK true (lk E t) λ x v=>dv E H rs λ vs=>P (v::vs))/\(∀ (E:Env) (H:AHeap) (rs:List cS) (P:List AV->Prop) (t:Nat),dv E H (cS.gA t::rs) P=LK true (lk E t) λ x v=>B3 true (Op.aa [v] H) λ x v=>dv E H rs λ vs=>P (v::vs))/\(∀ (E:Env) (H:AHeap) (rs:List cS) (P:List AV->Prop) (n t:Nat),dv E H (cS.cz n t::rs) P=LK true (lk E t) λ x v=>B3 true (Op.ao n [v] H) λ x v=>dv E H rs λ vs=>P (v::vs))/\(∀ (H:AHeap) (R:AV->AHeap->Prop) (v:AV),lF R (bu.ret v) H=R v H)/\(∀ (E:Env) (K:Bool->AV->Prop) (n:Nat),Lz E n K=LK true (lk E n) K)/\(∀ (E:Env) (K:Bool->AV->Prop) (n:Nat),Ly true E n K=LK true (lk E n) K)/\(∀ (H:AHeap) (K:Bool->AV->Prop) (i:Nat) (a:AV),Fl true i a H K=B3 true (Op.fieldAddr i [a]) λ g x=>B3 g (Op.aa [x] H) K)/\(∀ (H:AHeap) (K:Bool->AV->Prop) (i:Nat) (a:AV),Nf true i a H K=B3 true (Op.nilCheck [a]) λ g x=>Fl g i x H K)/\(∀ (H:AHeap) (K2:Bool->AV->AHeap->Prop) (i:Nat) (a b:AV),Fs true i a b H K2=B3 true (Op.fieldAddr i [a]) λ g x=>aZ g (Op.store 1 [x,b] H) K2)/\(∀ (H:AHeap) (K2:Bool->AV->AHeap->Prop) (i:Nat) (a b:AV),Ns true i a b H K2=B3 true (Op.nilCheck [a]) λ g x=>Fs g i x b H K2)/\(∀ (H:AHeap) (K:Bool->AV->Prop) (a b:AV),Xl true a b H K=B3 true (Op.aP 1 [a,b]) λ g x=>B3 g (Op.aa [x] H) K)/\(∀ (H:AHeap) (K2:Bool->AV->AHeap->Prop) (a b c:AV),Xs true a b c H K2=B3 true (Op.aP 1 [a,b]) λ g x=>aZ g (Op.store 1 [x,c] H) K2)/\(∀ (K:Bool->AV->Prop) (o:BinOp) (a b:AV),Bn true o a b K=B3 true (Op.bin o [a,b]) K)/\(∀ (A B:Bool->Prop) (o:BinOp) (a b:AV),Cb true o a b A B=B3 true (Op.bin o [a,b]) λ g v=>br g v A B)/\(∀ (E:Env) (H:AHeap) (M:aM) (c:Ctx) (p:Kp × ah) (Q:aJ) (D:List aN),Gt true M c p Q E D H=aw true (ak (W M c p) Q) aH.normal E D H)/\de []=AV.tuple []/\(∀ (v:AV),de [v]=v) /\ ∀ (a b:AV) (l:List AV),de (a::b::l)=AV.tuple (a::b::l) :=
 And.intro @yU<|And.intro @zQ<|And.intro @uf<|And.intro tR<|And.intro q84<|And.intro sC<|And.intro q85<|And.intro JJ<|And.intro Gm<|And.intro @qg<|And.intro tV <|
 And.intro xC<|And.intro rV<|And.intro ur<|And.intro pq<|And.intro sn<|And.intro sr<|And.intro yX <|
 And.intro q4i<|And.intro uX<|And.intro q9b<|And.intro q9c<|And.intro q7k<|And.intro q4d<|And.intro t9<|And.intro q8y<|And.intro q68<|And.intro q8x <|
 And.intro q7g<|And.intro Ad<|And.intro uy<|And.intro zU<|And.intro q7h<|And.intro zC<|And.intro uH<|And.intro uO<|And.intro q87<|And.intro rP<|And.intro q4g<|And.intro q7f<|And.intro vD<|And.intro vQ<|And.intro q7i<|And.intro q7j <|
 And.intro yV<|And.intro Mq<|And.intro LS<|And.intro Lh<|And.intro LB<|And.intro KD<|And.intro LF<|And.intro L4<|And.intro MN<|And.intro L7<|And.intro Mu<|And.intro LI<|And.intro J9<|And.intro Mh KZ
theorem GX:(∀ (v:AV),Op.move [v]=some v)/\(∀ (q:Bool) (a b:AV),Op.pick [AV.bool q,a,b]=some (bif q then a else b))/\(∀ (k:IntKind) (a b:Int),Op.bin BinOp.add [AV.int k a,AV.int k b]=some (AV.int k (aV k (a+b))))/\(∀ (k:IntKind) (a b:Int),Op.bin BinOp.sub [AV.int k a,AV.int k b]=some (AV.int k (aV k (a-b))))/\(∀ (k:IntKind) (a b:Int),Op.bin BinOp.mul [AV.int k a,AV.int k b]=some (AV.int k (aV k (a*b))))/\(∀ (k:IntKind) (a b:Int),Op.bin BinOp.eql [AV.int k a,AV.int k b]=some (AV.bool (decide (a=b))))/\(∀ (k:IntKind) (a b:Int),Op.bin BinOp.neq [AV.int k a,AV.int k b]=some (AV.bool (decide (a ≠ b))))/\(∀ (k:IntKind) (a b:Int),Op.bin BinOp.lss [AV.int k a,AV.int k b]=some (AV.bool (decide (a<b))))/\(∀ (k:IntKind) (a b:Int),Op.bin BinOp.leq [AV.int k a,AV.int k b]=some (AV.bool (decide (a<=b))))/\(∀ (k:IntKind) (a b:Int),Op.bin BinOp.gtr [AV.int k a,AV.int k b]=some (AV.bool (decide (b<a))))/\(∀ (k:IntKind) (a b:Int),Op.bin BinOp.geq [AV.int k a,AV.int k b]=some (AV.bool (decide (b<=a))))/\(∀ (k:IntKind) (a:Int) (k':IntKind),Op.wrap k [AV.int k' a]=some (AV.int k (aV k a)))/\(∀ (q:Bool),Op.un UnOp.not [AV.bool q]=some (AV.bool !q))/\(∀ (a b:List UInt8),Op.bin BinOp.eql [AV.str a,AV.str b]=some (AV.bool (decide (a=b))))/\(∀ (a b:List UInt8),Op.bin BinOp.neq [AV.str a,AV.str b]=some (AV.bool (decide (a ≠ b))))/\(∀ (s:List UInt8),Op.oV [AV.str s]=some (AV.int IntKind.i64 ↑s.length))/\(∀ (f n:Nat) (l:List AV),Op.cu f n l=some (AV.fn (fk.func f) (List.take n l) (List.drop n l)))/\(∀ (t:Nat) (v:AV),Op.py t [v]=some (AV.iface t v))/\(∀ (off b o:Nat),Op.fieldAddr off [AV.ptr b o]=some (AV.ptr b (o+off)))/\(∀ (off:Nat) (l:List AV),Op.field off none [AV.agg l]=l[off]?)/\(∀ (q:Bool),aA true (some (AV.bool q))=some q)/\(∀ (q:Bool),aA false (some (AV.bool q))=some !q)/\(∀ (b:Bool),aA b (some AV.undef)=some false)/\(∀ (b:Nat),Op.ptrTo b=AV.ptr b 0)/\(∀ (l:List AV),(AV.agg l).cells=l)/\(∀ (k:IntKind) (n:Int),(AV.int k n).cells=[AV.int k n])/\(∀ (b:Bool),(AV.bool b).cells=[AV.bool b])/\(∀ (s:List UInt8),(AV.str s).cells=[AV.str s])/\(∀ (b o:Nat),(AV.ptr b o).cells=[AV.ptr b o])/\(∀ (h:Decidable True),decide True=true)/\(∀ (h:Decidable False),decide False=false)/\(!true)=false/\(!false)=true/\(¬True)=False/\(¬False)=True/\(∀ {α:Type} (a b:α),(a ≠ b) = ¬a=b)/\(∀ (p:Prop),(True/\p)=p)/\(∀ (p:Prop),(p/\True)=p)/\(∀ (p:Prop),(False/\p)=False)/\(∀ (p:Prop),(p/\False)=False)/\(∀ {α:Type} (a b:α),(bif true then a else b)=a)/\(∀ {α:Type} (a b:α),(bif false then a else b)=b)/\(∀ {α:Type} {β:Type} (a:α) (f:α->Option β),(some a).bind f=f a)/\(∀ (n:Nat),n+0=n)/\(∀ (n:Nat),0+n=n)/\(∀ {α:Type} {a:α} {l:List α},(a::l)[0]? = some a)/\(∀ {α:Type} {a:α} {i:Nat} {l:List α},(a::l)[i+1]? = l[i]?)/\(∀ {α:Type} (as:List α),[]++as=as) /\ ∀ {α:Type} {a:α} {as bs:List α},a::as++bs=a::(as++bs) :=
 And.intro C8<|And.intro Et<|And.intro @Gk<|And.intro @Hw<|And.intro @IA<|And.intro @G7<|And.intro @Il<|And.intro @HN<|And.intro @Hu<|And.intro @GC<|And.intro @GJ<|And.intro @CX<|And.intro G4 <|
 And.intro Ej<|And.intro CW<|And.intro ue<|And.intro sg<|And.intro xa0<|And.intro q5g<|And.intro vV<|And.intro Dh<|And.intro zJ<|And.intro xV<|And.intro Ii <|
 And.intro xx<|And.intro q9r<|And.intro q7u<|And.intro q9t<|And.intro q9s<|And.intro @decide_true<|And.intro @decide_false<|And.intro Bool.not_true<|And.intro Bool.not_false<|And.intro not_true_eq_false<|And.intro not_false_eq_true<|And.intro @ne_eq<|And.intro qQ<|And.intro mP<|And.intro false_and<|And.intro and_false <|
 And.intro @xh<|And.intro @zg<|And.intro @qn<|And.intro qe<|And.intro ye<|And.intro @jj<|And.intro @zt<|And.intro @zy @D7
theorem xb:type_of% BD/\type_of% GM/\type_of% GX:=⟨BD,GM,GX⟩
section
variable {α:Type} {enc:α->List AV} {e size:Nat} {H0 H H':AHeap} {v:AV} {xs:List α}
theorem mQ.to3 {α β:Type} {m g:Bool} {o:Option (α × β)} {K:Bool -> α -> β->Prop} (h:mQ m o λ _ a b=>K g a b):aZ g o K:=by
 cases o with
 | none=>exact False.elim h
 | some a=>exact h
theorem q54 {H:AHeap} {e size bytes:Nat} {v:AV} {n:Nat} {cells:List AV} (h:Own H e size v n cells) {x:AV} {k:Nat} {new:List AV} (hx:Sl H size x k new) (hnew:aY new=true) (hs:0<size)
 (hf:(n+k)*bytes<=140737488355328) (hf':n+k<=140737488355328) {K:Bool->AV->AHeap->Prop} {m:Bool}
 (hk:∀ v' H',Own H' e size v' (n+k) (cells++new)->Fr (bC v) H H'->(∀ b,bC v' b->bC v b\/H.next<=b)->K m v' H'):aZ m (Op.append e size bytes [v,x] H) K :=
 mQ.to3 (m:=m) (qzc h hx hnew hs hf hf' hk)
theorem gT {H:AHeap} {e size bytes:Nat} {v:AV} {n:Nat} {cells:List AV} (h:Own H e size v n cells) {zero:List AV} {x:AV} (hz:zero.length=size) (hx:x.cells.length=size) (hnew:aY x.cells=true) (hs:0<size)
 (hf:(n+1)*bytes<=140737488355328) (hf':n+1<=140737488355328) {K:bL->(Nat->AV)->Bool->AV->AHeap->Prop} {m:Bool}
 (hk:∀ v' H',Own H' e size v' (n+1) (cells++x.cells)->Fr (bC v) H H'->(∀ b,bC v' b->bC v b\/H.next<=b)->K (.row x.cells e (0,0) true) (Op.sliceTo 1 1) m v' H') :
 aZ m (Op.buildSlice e 1 zero [(0,size)] [x]) λ g o mk=>aZ g (Op.append e size bytes [v,mk H.next] (H.alloc o)) (K o mk):=by
 have:=xG (m:=m) h hz hx hnew hs hf hf' (K:=λ o mk _ v H=>K o mk m v H) hk;obtain ⟨o,mk,h1,h2⟩:∃ o mk,Op.buildSlice e 1 zero [(0,size)] [x]=some (o,mk)/\mQ true (Op.append e size bytes [v,mk H.next] (H.alloc o)) (λ _ v H=>K o mk m v H):=by
  unfold mQ at this;split at this
  ·rename_i a ha;exact ⟨a.1,a.2,ha,this⟩
  ·exact this.elim
 refine aZ.intro h1 ?_;unfold mQ at h2;split at h2
 ·rename_i a ha;exact aZ.intro (a:=a.1) (b:=a.2) ha h2
 ·exact h2.elim
end
end
end Go.Am
namespace Go.Am
abbrev OR (c:List AV) (e:Nat):bL:=.row c e (0,0) true
theorem qh (b o:Nat):Op.nilCheck [.ptr b o]=some (.ptr b o):=rfl
theorem qt (i:Nat) (l:List AV):Op.extract i [.tuple l]=l[i]?:=xaz i l
abbrev WE (M:aM) (c:Ctx) (p:Kp × ah) (R:aJ->Env->List aN->AHeap->Prop):Prop:=∀ Q E D H,W M c p true Q E D H=R Q E D H
end Go.Am
