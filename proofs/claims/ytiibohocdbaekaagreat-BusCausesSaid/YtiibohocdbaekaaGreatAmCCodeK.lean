/- CodeK: CodeG CodeSF CodeL1 CodeND CodeDI CodeBU CodeBX CodeBC. -/
import Derived.Test.YtiibohocdbaekaaGreatAmCB4
import Derived.Test.YtiibohocdbaekaaGreatAmCB1
import Derived.KernelRfl
import Derived.Test.YtiibohocdbaekaaGreatRows
set_option linter.unusedVariables false
set_option linter.unusedSimpArgs false
set_option linter.defProp false
set_option maxRecDepth 100000
namespace Go.Am
noncomputable section
def PR:Type:=Prop
abbrev WR:=Bool->au->Env->List aD->AHeap->PR
abbrev KQ:=Bool->Env->Env->AHeap->PR
def A1 (m:Bool) (o:Option (bm × (Nat->AV))) (H:AHeap) (K:Bool->AV->AHeap->Prop):Prop:=gn m o λ g o mk=>K g (mk H.next) (H.alloc o)
def pG {α:Type}:Bool->Option α->(Bool -> α->PR)->PR:=@B3 α
def iW {α β:Type}:Bool->Option (α × β)->(Bool -> α -> β->PR)->PR:=@gn α β
def hO:Bool->AV->(Bool->PR)->(Bool->PR)->PR:=i9
def jV:Bool->Bool->(Bool->PR)->(Bool->PR)->PR:=sS
def mG:Bool->Option AV->Option AV->(Bool->PR)->PR:=Ds
def jH:Bool->Option (bm × (Nat->AV))->AHeap->(Bool->AV->AHeap->PR)->PR:=A1
def ra:aA->Bool->eR->List AV->AHeap->(Bool->AV->AHeap->PR)->PR:=C3
def Dj:aA->Bool->(aw->AHeap->PR)->eR->List AV->AHeap->(Bool->AV->AHeap->PR)->PR:=P3
def sD:Bool->List AV->(Bool->eR->List AV->PR)->PR:=V3
def CR:aA->Bool->String->List AV->(Bool->eR->List AV->PR)->PR:=N3
def A7:Option (List Nat)->List Nat->au->Env->List aD->aw->AHeap->PR:=PX
def CK:List AV->AHeap->(aw->AHeap->PR)->PR:=dU
def fD {α:Type}:(α->PR) -> α->PR:=@JN α
def nE:Bool->au->aC->Env->List aD->AHeap->PR:=oJ
def pQ {α:Type}:Bool->Option α->(Bool -> α->PR)->PR:=@LK α
def rW:aA->Ctx->Kp × aj->WR:=W
def rJ:WR->au->Env->List aD->AHeap->PR:=aR
def uP:aA->List Nat->Ctx->Nat->Env->List aD->AHeap->au->AV->PR:=gN
def pD:WR->au->au:=cT
def pW:PR:=False
def pj:Env->Nat->Option AV:=lk
section
variable (M:aA)
def MP (E L R:Env) (t:Nat) (g:Bool) (K:Bool->Env->AV->PR):PR :=
 Option.rec (motive:=λ _=>PR) (Option.rec (motive:=λ _=>PR) (pQ g (pj E t) λ g v=>K g ((t,v)::R) v) (λ v=>K g R v) (lk R t)) (λ v=>K g R v) (lk L t)
def tEV (E L:Env) (l:List ba):Bool->Env->(Bool->Env->List AV->PR)->PR:=List.rec (motive:=λ _=>Bool->Env->(Bool->Env->List AV->PR)->PR) (λ g R K=>K g R [])
 (λ x _ ih g R K=>ba.casesOn x (λ t=>MP E L R t g λ g R v=>ih g R λ g R vs=>K g R (v::vs)) (λ v=>ih g R λ g R vs=>K g R (v::vs)) (λ b=>ih g R λ g R vs=>K g R (.ptr b 0::vs)) (λ f=>ih g R λ g R vs=>K g R (.fn (.func f) [] []::vs))) l
def PA (bO:Bool) (ps:Option (List Nat)) (L:Env) (Q:au) (E:Env) (D:List aD) (g:Bool) (f:eR) (vs:List AV) (H:AHeap) (K:Bool->AV->AHeap->PR):PR :=
 cond bO (Dj M g (A7 ps (ic L) Q E D) f vs H K) (ra M g f vs H K)
def tOP (bO:Bool) (dst:Option Nat) (ps:Option (List Nat)) (Q:au) (E:Env) (D:List aD) (L R:Env) (H:AHeap) (K:KQ) (g:Bool) (vs:List AV):dN->PR
 | .pure f=>pG g (f vs) λ g v=>K g (ie dst v L) R H
 | .read f=>pG g (f vs H) λ g v=>K g (ie dst v L) R H
 | .alloc f=>jH g (f vs) H λ g v H=>K g (ie dst v L) R H
 | .eQ f=>iW g (f vs H) λ g v H=>K g (ie dst v L) R H
 | .eH f=>PA M bO ps L Q E D g (.func f) vs H (λ g v H=>K g (ie dst v L) R H)
 | .eK=>sD g vs λ g f vs=>PA M bO ps L Q E D g f vs H (λ g v H=>K g (ie dst v L) R H)
 | .invoke name=>CR M g name vs λ g f vs=>PA M bO ps L Q E D g f vs H (λ g v H=>K g (ie dst v L) R H)
 | .panic=>cond bO (CK vs H (A7 ps (ic L) Q E D)) pW
 | _=>pW
def tCK (dst:Option Nat) (E L R:Env) (H:AHeap) (K:KQ) (g:Bool) (vs:List AV):dN->PR
 | .read f=>match dst with
  | some d=>mG g (f vs H) (Option.rec (motive:=λ _=>Option AV) (pj E d) (λ v=>some v) (lk L d)) λ g=>K g L R H
  | none=>pW
 | _=>pW
def tST (bO:Bool) (s:aL) (Q:au) (E:Env) (D:List aD) (K:KQ):KQ:=λ g L R H =>
 tEV E L s.args g R λ g R vs=>match s.eO with
  | false=>tOP M bO s.dst s.bG Q E D L R H K g vs s.op
  | true=>tCK s.dst E L R H K g vs s.op
def tSS (bO:Bool) (Q:au) (E:Env) (D:List aD) (K:KQ) (l:List aL):KQ:=List.rec (motive:=λ _=>KQ) K (λ s _ ih=>tST M bO s Q E D ih) l
def ru (n:Nat):Type:=Nat.rec (motive:=λ _=>Type) (AHeap->PR) (λ _ T=>AV->T) n
def M6:(n:Nat)->((Bool->ru n)->PR)->(Bool->ru n)->PR
 | 0=>λ F K=>fD (α:=Bool->AHeap->PR) (λ k=>F k) K
 | 1=>λ F K=>fD (α:=Bool->AV->AHeap->PR) (λ k=>F k) K
 | 2=>λ F K=>fD (α:=Bool->AV->AV->AHeap->PR) (λ k=>F k) K
 | 3=>λ F K=>fD (α:=Bool->AV->AV->AV->AHeap->PR) (λ k=>F k) K
 | 4=>λ F K=>fD (α:=Bool->AV->AV->AV->AV->AHeap->PR) (λ k=>F k) K
 | 5=>λ F K=>fD (α:=Bool->AV->AV->AV->AV->AV->AHeap->PR) (λ k=>F k) K
 | 6=>λ F K=>fD (α:=Bool->AV->AV->AV->AV->AV->AV->AHeap->PR) (λ k=>F k) K
 | 7=>λ F K=>fD (α:=Bool->AV->AV->AV->AV->AV->AV->AV->AHeap->PR) (λ k=>F k) K
 | 8=>λ F K=>fD (α:=Bool->AV->AV->AV->AV->AV->AV->AV->AV->AHeap->PR) (λ k=>F k) K
 | 9=>λ F K=>fD (α:=Bool->AV->AV->AV->AV->AV->AV->AV->AV->AV->AHeap->PR) (λ k=>F k) K
 | 10=>λ F K=>fD (α:=Bool->AV->AV->AV->AV->AV->AV->AV->AV->AV->AV->AHeap->PR) (λ k=>F k) K
 | 11=>λ F K=>fD (α:=Bool->AV->AV->AV->AV->AV->AV->AV->AV->AV->AV->AV->AHeap->PR) (λ k=>F k) K
 | 12=>λ F K=>fD (α:=Bool->AV->AV->AV->AV->AV->AV->AV->AV->AV->AV->AV->AV->AHeap->PR) (λ k=>F k) K
 | 13=>λ F K=>fD (α:=Bool->AV->AV->AV->AV->AV->AV->AV->AV->AV->AV->AV->AV->AV->AHeap->PR) (λ k=>F k) K
 | 14=>λ F K=>fD (α:=Bool->AV->AV->AV->AV->AV->AV->AV->AV->AV->AV->AV->AV->AV->AV->AHeap->PR) (λ k=>F k) K
 | 15=>λ F K=>fD (α:=Bool->AV->AV->AV->AV->AV->AV->AV->AV->AV->AV->AV->AV->AV->AV->AV->AHeap->PR) (λ k=>F k) K
 | 16=>λ F K=>fD (α:=Bool->AV->AV->AV->AV->AV->AV->AV->AV->AV->AV->AV->AV->AV->AV->AV->AV->AHeap->PR) (λ k=>F k) K
 | 17=>λ F K=>fD (α:=Bool->AV->AV->AV->AV->AV->AV->AV->AV->AV->AV->AV->AV->AV->AV->AV->AV->AV->AHeap->PR) (λ k=>F k) K
 | 18=>λ F K=>fD (α:=Bool->AV->AV->AV->AV->AV->AV->AV->AV->AV->AV->AV->AV->AV->AV->AV->AV->AV->AV->AHeap->PR) (λ k=>F k) K
 | 19=>λ F K=>fD (α:=Bool->AV->AV->AV->AV->AV->AV->AV->AV->AV->AV->AV->AV->AV->AV->AV->AV->AV->AV->AV->AHeap->PR) (λ k=>F k) K
 | 20=>λ F K=>fD (α:=Bool->AV->AV->AV->AV->AV->AV->AV->AV->AV->AV->AV->AV->AV->AV->AV->AV->AV->AV->AV->AV->AHeap->PR) (λ k=>F k) K
 | 21=>λ F K=>fD (α:=Bool->AV->AV->AV->AV->AV->AV->AV->AV->AV->AV->AV->AV->AV->AV->AV->AV->AV->AV->AV->AV->AV->AHeap->PR) (λ k=>F k) K
 | 22=>λ F K=>fD (α:=Bool->AV->AV->AV->AV->AV->AV->AV->AV->AV->AV->AV->AV->AV->AV->AV->AV->AV->AV->AV->AV->AV->AV->AHeap->PR) (λ k=>F k) K
 | 23=>λ F K=>fD (α:=Bool->AV->AV->AV->AV->AV->AV->AV->AV->AV->AV->AV->AV->AV->AV->AV->AV->AV->AV->AV->AV->AV->AV->AV->AHeap->PR) (λ k=>F k) K
 | 24=>λ F K=>fD (α:=Bool->AV->AV->AV->AV->AV->AV->AV->AV->AV->AV->AV->AV->AV->AV->AV->AV->AV->AV->AV->AV->AV->AV->AV->AV->AHeap->PR) (λ k=>F k) K
 | 25=>λ F K=>fD (α:=Bool->AV->AV->AV->AV->AV->AV->AV->AV->AV->AV->AV->AV->AV->AV->AV->AV->AV->AV->AV->AV->AV->AV->AV->AV->AV->AHeap->PR) (λ k=>F k) K
 | 26=>λ F K=>fD (α:=Bool->AV->AV->AV->AV->AV->AV->AV->AV->AV->AV->AV->AV->AV->AV->AV->AV->AV->AV->AV->AV->AV->AV->AV->AV->AV->AV->AHeap->PR) (λ k=>F k) K
 | 27=>λ F K=>fD (α:=Bool->AV->AV->AV->AV->AV->AV->AV->AV->AV->AV->AV->AV->AV->AV->AV->AV->AV->AV->AV->AV->AV->AV->AV->AV->AV->AV->AV->AHeap->PR) (λ k=>F k) K
 | 28=>λ F K=>fD (α:=Bool->AV->AV->AV->AV->AV->AV->AV->AV->AV->AV->AV->AV->AV->AV->AV->AV->AV->AV->AV->AV->AV->AV->AV->AV->AV->AV->AV->AV->AHeap->PR) (λ k=>F k) K
 | _+29=>λ F K=>fD F K
theorem Eu:∀ (n:Nat) (F:(Bool->ru n)->PR) (K:Bool->ru n),M6 n F K=fD F K:=λ n=>by
 unfold M6;split<;>exact λ F K=>rfl
def Pu (n:Nat):(List AV->AHeap->PR)->ru n:=Nat.rec (motive:=λ n=>(List AV->AHeap->PR)->ru n) (λ f=>f []) (λ _ ih f v=>ih λ l=>f (v::l)) n
def G5 (n:Nat):ru n->List AV->AHeap->PR:=Nat.rec (motive:=λ n=>ru n->List AV->AHeap->PR) (λ k _=>k) (λ _ ih k l=>List.casesOn (motive:=λ _=>AHeap->PR) l (λ _=>pW) λ v l=>ih (k v) l) n
def Oi (bO:Bool) (Q:au) (E:Env) (D:List aD) (x:Ao) (K:KQ):KQ:=λ g L R H=>match x.1 with
 | none=>tSS M bO Q E D K x.2 g L R H
 | some q=>cond (pS q.1 x.2) (MP E L R q.1 g λ g R v=>M6 (bL (aS x.2 []))
  (λ k=>pG g (cB q.2 (some v)) λ g w=>jV g w (λ g=>tSS M bO Q E D (λ g L _ H=>G5 (bL (aS x.2 [])) (k g) (my (bL (aS x.2 [])) L) H) x.2 g L R H) (λ g=>G5 (bL (aS x.2 [])) (k g) (m8 (bL (aS x.2 []))) H))
  (λ g=>Pu (bL (aS x.2 [])) λ vs H=>K g (gZ (aS x.2 []) L vs) R H)) pW
def Jj (bO:Bool) (Q:au) (E:Env) (D:List aD) (l:List aL) (g:Bool) (H:AHeap) (K:KQ):PR:=List.rec (motive:=λ _=>KQ) K (λ x _ ih=>Oi M bO Q E D x ih) (Dp l) g [] [] H
def tOV (E:Env) (x:ba) (g:Bool) (K:Bool->AV->PR):PR:=match x with
 | .tmp t=>pQ g (pj E t) K
 | .const v=>K g v
 | .cU b=>K g (.ptr b 0)
 | .func f=>K g (.fn (.func f) [] [])
def tCV (E L R:Env) (x:ba) (g:Bool) (K:Bool->AV->PR):PR:=match x with
 | .tmp t=>MP E L R t g λ g _ v=>K g v
 | .const v=>K g v
 | .cU b=>K g (.ptr b 0)
 | .func f=>K g (.fn (.func f) [] [])
def tU (rg:Bool->au->Env->List aD->List aL->Bool->AHeap->KQ->PR) (ctx:Ctx) (K:Kp) (X:Nat->WR):aj->Nat->WR
 | .skip,_,g,Q,E,D,H=>nE g Q .normal E D H
 | .label _,_,g,Q,E,D,H=>nE g Q .normal E D H
 | .exit id,_,g,Q,E,D,H=>nE g Q (.exit id) E D H
 | .goto l,_,g,Q,E,D,H=>nE g Q (.goto l) E D H
 | .ret,_,g,Q,E,D,H=>nE g Q .ret E D H
 | .stuck,_,_,_,_,_,_=>pW
 | .region l,_,g,Q,E,D,H=>rg K.bO Q E D l g H λ g L _ H=>nE g Q .normal (cz K.ah E L) D H
 | .seq a b,k,g,Q,E,D,H=>match a,b with
  | .region l,.cond c x y=>rg K.bO Q E D l g H λ g L R H=>tCV E L R c g λ g v=>hO g v (λ g=>(Bool.rec (motive:=λ _=>WR) (tU rg ctx K X x (k+3)) (X (k+3)) (aV (k+3) K.named)) g Q (cz K.ah E L) D H) (λ g=>(Bool.rec (motive:=λ _=>WR) (tU rg ctx K X y (k+3+cd x)) (X (k+3+cd x)) (aV (k+3+cd x) K.named)) g Q (cz K.ah E L) D H)
  | .region l,.seq (.cond c x y) r=>rg K.bO Q E D l g H λ g L R H=>tCV E L R c g λ g v=>hO g v (λ g=>(Bool.rec (motive:=λ _=>WR) (tU rg ctx K X x (k+4)) (X (k+4)) (aV (k+4) K.named)) g (pD (Bool.rec (motive:=λ _=>WR) (tU rg ctx K X r (k+4+cd x+cd y)) (X (k+4+cd x+cd y)) (aV (k+4+cd x+cd y) K.named)) Q) (cz K.ah E L) D H)
   (λ g=>(Bool.rec (motive:=λ _=>WR) (tU rg ctx K X y (k+4+cd x)) (X (k+4+cd x)) (aV (k+4+cd x) K.named)) g (pD (Bool.rec (motive:=λ _=>WR) (tU rg ctx K X r (k+4+cd x+cd y)) (X (k+4+cd x+cd y)) (aV (k+4+cd x+cd y) K.named)) Q) (cz K.ah E L) D H)
  | .region l,b=>rg K.bO Q E D l g H λ g L _ H=>(Bool.rec (motive:=λ _=>WR) (tU rg ctx K X b (k+2)) (X (k+2)) (aV (k+2) K.named)) g Q (cz K.ah E L) D H
  | a,b=>(Bool.rec (motive:=λ _=>WR) (tU rg ctx K X a (k+1)) (X (k+1)) (aV (k+1) K.named)) g (pD (Bool.rec (motive:=λ _=>WR) (tU rg ctx K X b (k+1+cd a)) (X (k+1+cd a)) (aV (k+1+cd a) K.named)) Q) E D H
 | .cond c x y,k,g,Q,E,D,H=>tOV E c g λ g v=>hO g v (λ g=>(Bool.rec (motive:=λ _=>WR) (tU rg ctx K X x (k+1)) (X (k+1)) (aV (k+1) K.named)) g Q E D H) (λ g=>(Bool.rec (motive:=λ _=>WR) (tU rg ctx K X y (k+1+cd x)) (X (k+1+cd x)) (aV (k+1+cd x) K.named)) g Q E D H)
 | .block id b,k,g,Q,E,D,H=>(Bool.rec (motive:=λ _=>WR) (tU rg ctx K X b (k+1)) (X (k+1)) (aV (k+1) K.named)) g (cw id Q) E D H
 | .scope b,k,g,Q,E,D,H=>(Bool.rec (motive:=λ _=>WR) (tU rg ctx K X b (k+1)) (X (k+1)) (aV (k+1) K.named)) g (kQ b Q) E D H
 | .loop (some _) _,_,_,_,_,_,_=>pW
 | .loop none b,k,g,Q,E,D,H=>rJ (Bool.rec (motive:=λ _=>WR) (tU rg ctx K X b (k+1)) (X (k+1)) (aV (k+1) K.named)) Q E D H
 | .rangeFunc f n,_,g,Q,E,D,H=>tOV E f g λ g v=>uP M K.ah ctx n E D H Q v
end
theorem EL (M:aA):Oi M=JQ M:=by
 funext bO Q E D ⟨o,l⟩ K g L R H;cases o with
 | none=>kernel_rfl
 | some q =>
  unfold Oi;simp only [Eu]
  kernel_rfl
theorem Dr (M:aA):Jj M=mS M:=by
 funext bO Q E D l g H K;unfold Jj mS rU;rw [EL];rfl
theorem DL (M:aA) (c:Ctx) (K:Kp) (X:Nat->WX):tU M (mS M) c K X=U M c K X:=by kernel_rfl
theorem Hl (M:aA) (c:Ctx) (K:Kp) (X:Nat->WX):tU M (Jj M) c K X=U M c K X:=by rw [Dr];exact DL M c K X
abbrev Hs:=List (Nat × List Nat)
def LY (n:Nat) (l:Hs):Option (List Nat):=List.rec (motive:=λ _=>Option (List Nat)) none (λ p _ ih=>cond (Nat.beq p.1 n) (some p.2) ih) l
def zA (P:Program):Nat->TypeId->Option bl
 | 0,_=>none
 | d+1,t=>match P.underlying t with
  | some (.struct fs)=>dy.fieldsT P (zA P d) fs.toList
  | some (.array n e)=>(bF P e).bind λ s=>(mV P e).bind λ a=>(zA P d e).bind λ q=>some (dy.itemsT s a q n 0)
  | _=>dy P 1 t
def J0 (P:Program) (t:TypeId) (neg:Bool) (x y:Operand):Option (List ba × dN):=(zA P 20 t).bind λ q=>(jZ P.globals.size [x,y]).bind λ l=>some (l,.read (Op.eq (.agg q) neg))
def Fy (P:Program) (o:Oper):Option (List ba × dN):=match o.op with
 | .binOp op t x y _=>match P.underlying t,op with
  | some (.struct _),.eql=>J0 P t false x y
  | some (.struct _),.neq=>J0 P t true x y
  | some (.array _ _),.eql=>J0 P t false x y
  | some (.array _ _),.neq=>J0 P t true x y
  | _,_=>dT P o
 | _=>dT P o
def HG (P:Program) (ops:Array Oper) (draw:Bool) (h:Option (List Nat)):Option aj :=
 (bX (ops.toList.map (Fy P))).bind λ l =>
  (bX ((Option.rec (motive:=λ _=>List (Bool × Nat)) ((List.range ops.size).map λ i=>(false,i)) (λ l=>l.map λ x=>(Nat.beq (x % 2) 1,x / 2)) h).map (fM ops l λ i=>Bool.rec (motive:=λ _=>Option (List Nat)) (some []) (FW ops (aK ops l) (jE (aK ops l).cls (aK ops l).dS ops.size (2*ops.size) 0 []) i) draw))).bind λ steps=>some (.region steps)
def fK (P:Program) (hs:Hs):Nat->Code->Option (aj × List db)
 | _,.skip=>some (.skip,[])
 | _,.region r ops draw=>(HG P ops draw (Bool.rec none (LY r hs) draw)).bind λ c=>some (c,[])
 | k,.seq a b=>(fK P hs k a).bind λ a=>(fK P hs (k+a.2.length) b).bind λ b=>some (.seq a.1 b.1,a.2++b.2)
 | k,.cond c a b=>(mP P.globals.size c).bind λ c=>(fK P hs k a).bind λ a=>(fK P hs (k+a.2.length) b).bind λ b=>some (.cond c a.1 b.1,a.2++b.2)
 | k,.block id b=>(fK P hs k b).bind λ b=>some (.block id b.1,b.2)
 | k,.loop b=>(fK P hs k b).bind λ b=>some (.loop none b.1,b.2)
 | k,.rangeFunc f ps a b=>(mP P.globals.size f).bind λ f=>(fK P hs (k+1) a).bind λ a=>(fK P hs (k+1+a.2.length) b).bind λ b=>some (.rangeFunc f k,{ params:=ps.toList,assign:=a.1,body:=b.1 }::(a.2++b.2))
 | _,.exit id=>some (.exit id,[])
 | k,.scope b=>(fK P hs k b).bind λ b=>some (.scope b.1,b.2)
 | _,.label l=>some (.label l,[])
 | _,.goto l=>some (.goto l,[])
 | _,.ret=>some (.ret,[])
 | _,.refuse _=>some (.stuck,[])
def xV (n:Nat) (b:aj) (l:List db):aj:=Bool.rec (motive:=λ _=>aj)
 (Option.rec (motive:=λ _=>aj) .stuck (λ q=>Bool.rec (motive:=λ _=>aj) q.body q.assign (Nat.beq (n / 100000 % 2) 1)) (nth l (n / 100000 / 2-1))) b (Nat.ble n 99999)
def bW (P:Program) (n:Nat):aj:=xV n (funcAt P (n % 100000)).body (funcAt P (n % 100000)).loops
def C1 (P:Program) (hs:Hs) (n:Nat):aj:=Option.rec (motive:=λ _=>aj) .stuck (λ f=>Option.rec (motive:=λ _=>aj) .stuck (λ b=>Option.rec (motive:=λ _=>aj) .stuck (λ c=>xV n c.1 c.2) (fK P hs 0 b)) f.body) (P.funcs[n % 100000]?)
abbrev RL:=List (au->Env->List aD->AHeap->PR)
abbrev QL:=List (au->Env->List aD->AHeap->Prop)
def pc (M:aA) (c:Ctx) (p:Nat->Kp × aj):List Nat->QL->Prop
 | k::ks,R::l=>(∀ Q E D H,W M c (p k) true Q E D H=R Q E D H)/\pc M c p ks l
 | _,_=>True
theorem EI (M:aA) (c:Ctx) (p:Nat->Kp × aj) (k a:Nat) (ks:List Nat) (R:au->Env->List aD->AHeap->Prop) (l:QL):pc M c p (k::a::ks) (R::l)=((∀ Q E D H,W M c (p k) true Q E D H=R Q E D H)/\pc M c p (a::ks) l):=rfl
theorem EA (M:aA) (c:Ctx) (p:Nat->Kp × aj) (k:Nat) (R:au->Env->List aD->AHeap->Prop):pc M c p [k] [R] = ∀ Q E D H,W M c (p k) true Q E D H=R Q E D H:=propext ⟨λ h=>h.1,λ h=>⟨h,trivial⟩⟩
def tW (M:aA) (c:Ctx) (K:Kp) (p:Nat->Kp × aj) (r:aj) (ks:List Nat):RL :=
 List.rec (motive:=λ _=>RL) [] (λ k _ ih=>(λ Q E D H=>tU M (Jj M) c K (λ j=>rW M c (p j)) (part r k) k true Q E D H)::ih) ks
theorem Il {P:Program} {p:Nat->Nat->Kp × aj} {Kt:Nat->Kp} (hp:∀ n k,p n k=(Kt n,part (bW P n) k)) (M:aA) (c:Ctx) (n:Nat):∀ ks:List Nat,pc M c (p n) ks (tW M c (Kt n) (p n) (bW P n) ks)
 | []=>trivial
 | k::ks=>⟨λ Q E D H=>by
  have e:(λ j=>W M c (p n j))=λ j=>W M c (Kt n,part (bW P n) j):=funext λ j=>by rw [hp]
  show _=tU M (Jj M) c (Kt n) (λ j=>W M c (p n j)) (part (bW P n) k) k true Q E D H;rw [hp n k,e,Hl];exact Dl rfl,Il hp M c n ks⟩
theorem uv (o:bm) (mk:Nat->AV) (H:AHeap) (K:Bool->AV->AHeap->Prop):A1 true (some (o,mk)) H K=K true (mk H.next) (H.alloc o):=propext ji
theorem q4j (e:Nat) (z:List AV) (H:AHeap) (K:Bool->AV->AHeap->Prop):A1 true (Op.alloc e z []) H K=K true (.ptr H.next 0) (H.alloc (.row z e (0,0) true)):=propext ji
theorem Cl (e:Nat) (v:AV) (H:AHeap) (K:Bool->AV->AHeap->Prop):A1 true (Op.box e [v]) H K=K true (.ptr H.next 0) (H.alloc (.row v.cells e (0,0) true)):=propext ji
@[congr] theorem Ga {m m':Bool} {o o':Option (bm × (Nat->AV))} {H H':AHeap} {K:Bool->AV->AHeap->Prop} (hm:m=m') (h:o=o') (hH:H=H'):A1 m o H K=A1 m' o' H' K:=by subst hm;subst h;subst hH;rfl
theorem q4x (v:AV):Op.move [v]=some v:=rfl
abbrev th:=List (Nat × Kp × Hs)
def mD (n:Nat) (l:th):Kp:=List.rec (motive:=λ _=>Kp) ⟨[],false,[]⟩ (λ p _ ih=>cond (Nat.beq p.1 n) p.2.1 ih) l
def yR (M:aA) (c:Ctx) (p:Nat->Nat->Kp × aj):th->List QL->Prop
 | x::r,l::ls=>pc M c (p x.1) x.2.1.named l/\yR M c p r ls
 | _,_=>True
theorem EU (M:aA) (c:Ctx) (p:Nat->Nat->Kp × aj) (n:Nat) (ks a:List Nat) (b:Bool) (hs:Hs) (y:Nat × Kp × Hs) (r:th) (l:QL) (ls:List QL):yR M c p ((n,⟨a,b,ks⟩,hs)::y::r) (l::ls)=(pc M c (p n) ks l/\yR M c p (y::r) ls):=rfl
theorem DG (M:aA) (c:Ctx) (p:Nat->Nat->Kp × aj) (n:Nat) (ks a:List Nat) (b:Bool) (hs:Hs) (l:QL):yR M c p [(n,⟨a,b,ks⟩,hs)] [l]=pc M c (p n) ks l:=propext ⟨λ h=>h.1,λ h=>⟨h,trivial⟩⟩
def tF (M:aA) (c:Ctx) (Kt:Nat->Kp) (p:Nat->Nat->Kp × aj) (r:Nat->Hs->aj) (l:th):List RL:=List.rec (motive:=λ _=>List RL) [] (λ x _ ih=>tW M c (Kt x.1) (p x.1) (r x.1 x.2.2) x.2.1.named::ih) l
theorem qT {P:Program} {p:Nat->Nat->Kp × aj} {Kt:Nat->Kp} (hp:∀ n k,p n k=(Kt n,part (bW P n) k)) (M:aA) (c:Ctx) (l:th) (e:tF M c Kt p (λ n _=>bW P n) l=tF M c Kt p (λ n h=>C1 P h n) l):yR M c p l (tF M c Kt p (λ n h=>C1 P h n) l):=by
 rw [<-e];clear e
 induction l with
 | nil=>trivial
 | cons x l ih=>exact ⟨Il hp M c x.1 _,ih⟩
def N2:cu->cu->Bool
 | .tmp a,.tmp b=>Nat.beq a b
 | .gf a,.gf b=>Nat.beq a b
 | .dB a b,.dB c d=>cond (Nat.beq a c) (Nat.beq b d) false
 | _,_=>false
theorem Io {a b:cu} (h:N2 a b=true):a=b:=by
 cases a with
 | tmp a=>cases b with
  | tmp b=>rw [yk h]
  | _=>cases h
 | gf a=>cases b with
  | gf b=>rw [yk h]
  | _=>cases h
 | dB a x=>cases b with
  | dB b y =>
   have h:cond (Nat.beq a b) (Nat.beq x y) false=true:=h;cases q:Nat.beq a b with
   | true=>rw [q] at h;rw [yk q,yk h]
   | false=>rw [q] at h;cases h
  | _=>cases h
def BR:List cu->List cu->Bool
 | [],[]=>true
 | a::x,b::y=>cond (N2 a b) (BR x y) false
 | _,_=>false
theorem wI:∀ {a b:List cu},BR a b=true->a=b
 | [],[],_=>rfl
 | a::x,b::y,h=>by
  unfold BR at h;cases q:N2 a b with
  | true=>rw [q] at h;rw [Io q,wI h]
  | false=>rw [q] at h;cases h
def N0 (P:Program) (tn:List Nat) (K:Kp) (n:Nat) (rs:List cu) (k:Nat):Bool:=cond (Nat.ble n 99999) (cond (aV n tn) false (cond (kG 0 k K.ah) (Option.rec (motive:=λ _=>Bool) false (λ F=>BR F.results rs) ((aP P).func n)) false)) false
theorem JD {P:Program} {tn:List Nat} {K:Kp} {n:Nat} {rs:List cu} {k:Nat} (h:N0 P tn K n rs k=true):Nat.ble n 99999=true/\aV n tn=false/\kG 0 k K.ah=true/\(aP P).func n=some (funcAt P n)/\(funcAt P n).results=rs:=by
 unfold N0 at h;cases a:Nat.ble n 99999 with
 | false=>rw [a] at h;cases h
 | true =>
 cases b:aV n tn with
 | true=>rw [a,b] at h;cases h
 | false =>
 cases d:kG 0 k K.ah with
 | false=>rw [a,b,d] at h;cases h
 | true =>
 rw [a,b,d] at h;unfold funcAt;cases f:(aP P).func n with
 | none=>rw [f] at h;cases h
 | some F=>rw [f] at h;exact ⟨rfl,rfl,rfl,rfl,wI h⟩
theorem tK {P:Program} {n:Nat} (h:Nat.ble n 99999=true):bW P n=(funcAt P n).body:=by
 unfold bW xV;rw [h,Nat.mod_eq_of_lt (Nat.lt_of_le_of_lt (Nat.le_of_ble_eq_true h) (by decide))]
theorem Ex (i:Nat) (v:AV) (vs:List AV):kR i (v::vs)=(i,v)::kR (i+1) vs:=rfl
theorem E8 (i:Nat):kR i []=[]:=rfl
theorem aa:(∀ v,Op.move [v]=some v)/\(∀ (o:bm) mk H K,A1 true (some (o,mk)) H K=K true (mk H.next) (H.alloc o))/\(∀ e z H K,A1 true (Op.alloc e z []) H K=K true (.ptr H.next 0) (H.alloc (.row z e (0,0) true)))/\(∀ e v H K,A1 true (Op.box e [v]) H K=K true (.ptr H.next 0) (H.alloc (.row v.cells e (0,0) true)))/\(∀ i v vs,kR i (v::vs)=(i,v)::kR (i+1) vs)/\(∀ i,kR i []=[]):=⟨q4x,uv,q4j,Cl,Ex,E8⟩
end
end Go.Am
namespace Go.Am
abbrev qvp:Nat:=4
abbrev PB:Nat:=99
abbrev JK:Nat:=111
abbrev qc3:Nat:=88
abbrev zy:Nat:=104
abbrev jz:Nat:=105
abbrev vn:Nat:=103
abbrev yn:Nat:=102
abbrev qbs:Nat:=116
abbrev qex:Nat:=113
abbrev ww:Nat:=117
abbrev kw:Nat:=107
abbrev xy:Nat:=109
abbrev zh:Nat:=108
abbrev jf:Nat:=98
abbrev yu:Nat:=106
abbrev km:Nat:=112
abbrev qfg:Nat:=114
abbrev eM:Nat:=3
abbrev ye:Nat:=191
def MV:List UInt8:=[0,1,2,2,3,3,3,3,4,4,4,4,4,4,4,4,5,5,5,5,5,5,5,5,5,5,5,5,5,5,5,5,6,6,6,6,6,6,6,6,6,6,6,6,6,6,6,6,6,6,6,6,6,6,6,6,6,6,6,6,6,6,6,6,7,7,7,7,7,7,7,7,7,7,7,7,7,7,7,7,7,7,7,7,7,7,7,7,7,7,7,7,7,7,7,7,7,7,7,7,7,7,7,7,7,7,7,7,7,7,7,7,7,7,7,7,7,7,7,7,7,7,7,7,7,7,7,7,8,8,8,8,8,8,8,8,8,8,8,8,8,8,8,8,8,8,8,8,8,8,8,8,8,8,8,8,8,8,8,8,8,8,8,8,8,8,8,8,8,8,8,8,8,8,8,8,8,8,8,8,8,8,8,8,8,8,8,8,8,8,8,8,8,8,8,8,8,8,8,8,8,8,8,8,8,8,8,8,8,8,8,8,8,8,8,8,8,8,8,8,8,8,8,8,8,8,8,8,8,8,8,8,8,8,8,8,8,8,8,8,8,8,8,8,8,8,8,8,8,8,8,8,8,8,8,8]
noncomputable section
open Go.Proofs Go.Proofs.YtiibohocdbaekaaGreat
class MK (M:aA):Prop where
 ok:∀ n,aV n [4]=false->M.func n=(aP Tryz.prog).func n
theorem MK.at {M:aA} [h:MK M] {n:Nat} {F:cm} (hn:aV n [4]=false) (hF:(aP Tryz.prog).func n=some F):M.func n=some F:=(h.ok n hn).trans hF
theorem C9 {M:aA} [h:MK M] {n:Nat} {F:cm} (hn:aV n [4]=false) {rs:List cu} (hF:(aP Tryz.prog).func n=some F/\F.results=rs) {ks:Kp} {vs:List AV} (hk:kG 0 vs.length ks.ah=true) {H:AHeap} {Q:bg->AHeap->Prop} (hw:W M ⟨none,n⟩ (ks,part F.body 0) true (c6 M rs Q) (kR 0 vs) [] H):FO M n vs H Q:=JH (MK.at hn hF.1) hk (hF.2 ▸ hw)
theorem mr {M:aA} [MK M] {p:Nat->Nat->Kp × aj} {Kt:Nat->Kp} (hp:∀ n k,p n k=(Kt n,part (bW Tryz.prog n) k)) (n:Nat) (rs:List cu) (vs:List AV) (h1:N0 Tryz.prog [4] (Kt n) n rs vs.length=true) (H:AHeap) (Q:bg->AHeap->Prop) (h:W M ⟨none,n⟩ (p n 0) true (c6 M rs Q) (kR 0 vs) [] H):FO M n vs H Q:=by
 obtain ⟨h1,h2,h3,h4⟩:=JD h1;exact C9 h2 h4 (ks:=Kt n) h3 (by rw [hp,tK h1] at h;exact h)
variable {M:aA} [MK M] {H:AHeap} {Q:bg->AHeap->Prop} {a0 a1 a2 a3 a4 a5:AV}
abbrev P7:th:=[(88,⟨[0,1,4],false,[0]⟩,[]),(98,⟨[0,1,2,3,4,10,11,12,13,14,15,16,17,18,19,20],false,[0,6,9,17,25,33,35,45,55,65,69,73]⟩,[]),(99,⟨[0,2],false,[0,8]⟩,[]),(102,⟨[0,1,2,3,8,9],false,[0,4,10,26,16,22,25]⟩,[]),(103,⟨[0,1,2,3,8,9,10,11,12],false,[0,4,6,21,11,25,17,31,20,36]⟩,[]),(104,⟨[0,1,2,3,8,9,10,11,12],false,[0,5,9,13,19,30,23,29]⟩,[]),(105,⟨[0,1,2,3,8,9,10,11,12,13,14,55],false,[0,4,8,12,28,16,26]⟩,[]),(106,⟨[0,1,2,3,8,9],false,[0,6,12]⟩,[]),(107,⟨[0,1,2,3,8,9,10,11,12],false,[0,4,96,9,15,95,28,20,36,26,44,46,71,54,78,60,84,69,68,93,92]⟩,[]),(108,⟨[0,1,2,3,4,10,11,12],false,[0,4,6,43,9,21,13,32,24,19,38,30]⟩,[]),(109,⟨[0,1,2,3,4,10,11,12,13],false,[0,4,6,17,9,28,20,15,38,26,42,44,81,47,59,51,70,62,57,76,68]⟩,[]),(112,⟨[0,1,2,3,4,10,11],false,[0,4,7,13,19,25]⟩,[]),(113,⟨[0,2],false,[0]⟩,[]),(114,⟨[0,2],false,[0]⟩,[]),(115,⟨[0,1,2,3,8],false,[0]⟩,[]),(116,⟨[0,1,2,3,4,5,12],false,[0]⟩,[]),(117,⟨[0,1,2,3,4,10,11],false,[0,2,12]⟩,[])]
def Ml (n:Nat):Kp:=mD n P7
def As (n k:Nat):Kp × aj:=(Ml n,part (bW Tryz.prog n) k)
theorem qrh (n k:Nat):As n k=(Ml n,part (bW Tryz.prog n) k):=rfl
def pO:=@mr M _ As Ml qrh
attribute [local irreducible] PR As pG iW hO jV mG jH ra Dj sD CR A7 CK fD nE pQ rW rJ uP pD pW pj cw kQ cB AV.undef Op.move Op.pick Op.build Op.nilCheck Op.bin Op.eq Op.un Op.wrap Op.fg Op.gA Op.eN Op.cA Op.fh Op.aJ Op.fj Op.fieldAddr Op.field Op.aQ Op.bE Op.eT Op.cr Op.typeAssert Op.extract Op.fP Op.dC Op.qN Op.cap Op.jG Op.dY Op.eV Op.bM Op.cX Op.ae Op.aG Op.dk Op.lookup Op.jK Op.gB Op.alloc Op.box Op.buildSlice Op.mkMap Op.mkSlice Op.di Op.eW Op.makeNoZero Op.store Op.mapUpdate Op.dX Op.gO Op.append Op.copy Op.ct Op.ff Op.gv Op.fk
def pN (M:aA) (c:Ctx):=by
 have h:=qT qrh M c P7 (by kernel_rfl)
 conv at h=>arg 5;reduce
 delta PR RL pj jH pG iW ra nE hO jV fD pQ rJ pD sD rW ru P7 at h
 simp only [EU,DG,EI,EA,Int.reduceOfNat,Int.reduceNegSucc] at h;exact h
def qhn (M:aA) (c:Ctx):=(pN M c).1
def qhm:=@pO M _ qc3 [] [a0,a1] (by kernel_rfl) H Q
abbrev jt (k:Nat):Kp × aj:=As jf k
def yh (M:aA) (c:Ctx):=(pN M c).2.1
def qfa:=@pO M _ jf [] [a0,a1,a2,a3,a4] (by kernel_rfl) H Q
def qta (M:aA) (c:Ctx):=(pN M c).2.2.1
def qs9:=@pO M _ PB [.tmp 2] [a0] (by kernel_rfl) H Q
def qdc (M:aA) (c:Ctx):=(pN M c).2.2.2.1
def qdb:=@pO M _ yn [] [a0,a1,a2,a3] (by kernel_rfl) H Q
def qem (M:aA) (c:Ctx):=(pN M c).2.2.2.2.1
def qel:=@pO M _ vn [] [a0,a1,a2,a3] (by kernel_rfl) H Q
abbrev qal (k:Nat):Kp × aj:=As zy k
def qda (M:aA) (c:Ctx):=(pN M c).2.2.2.2.2.1
def qc9:=@pO M _ zy [] [a0,a1,a2,a3] (by kernel_rfl) H Q
abbrev qdm (k:Nat):Kp × aj:=As jz k
def qdo (M:aA) (c:Ctx):=(pN M c).2.2.2.2.2.2.1
def qdn:=@pO M _ jz [.tmp 8,.tmp 9] [a0,a1,a2,a3] (by kernel_rfl) H Q
def qdl (M:aA) (c:Ctx):=(pN M c).2.2.2.2.2.2.2.1
def qdk:=@pO M _ yu [] [a0,a1,a2,a3] (by kernel_rfl) H Q
def qbu (M:aA) (c:Ctx):=(pN M c).2.2.2.2.2.2.2.2.1
def qbt:=@pO M _ kw [.tmp 8] [a0,a1,a2,a3] (by kernel_rfl) H Q
abbrev qad (k:Nat):Kp × aj:=As zh k
def yi (M:aA) (c:Ctx):=(pN M c).2.2.2.2.2.2.2.2.2.1
def qcz:=@pO M _ zh [.tmp 10] [a0,a1,a2,a3,a4] (by kernel_rfl) H Q
abbrev yd (k:Nat):Kp × aj:=As xy k
def ke (M:aA) (c:Ctx):=(pN M c).2.2.2.2.2.2.2.2.2.2.1
def qee:=@pO M _ xy [.tmp 10,.tmp 11] [a0,a1,a2,a3,a4] (by kernel_rfl) H Q
def Nn:cm:=funcAt Tryz.prog JK
def qiw:Kp:=⟨[0,2],false,[0,2,10,18,26]⟩
def j9 (k:Nat):Kp × aj:=(qiw,part Nn.body k)
theorem qoq (M:aA) (c:Ctx):(WE M c (j9 0) λ Q E D H=>W M c (j9 2) true Q ((2,(.int .i64 0))::E) D H) /\
 (WE M c (j9 2) λ Q E D H=>Lz E 0 λ g b=>Cb g .geq b (.int .u64 4294967296) (λ g=>Ly g E 0 λ g a=>Bn g .shr a (.int .u64 32) λ g d=>Gt g M c (j9 10) Q ((2,(.int .i64 32))::(0,d)::E) D H) (λ g=>Gt g M c (j9 10) Q E D H)) /\
 (WE M c (j9 10) λ Q E D H=>Lz E 0 λ g e=>Cb g .geq e (.int .u64 65536) (λ g=>Ly g E 0 λ g a=>Bn g .shr a (.int .u64 16) λ g b=>Ly g E 2 λ g f=>Bn g .add f (.int .i64 16) λ g d=>Gt g M c (j9 18) Q ((2,d)::(0,b)::E) D H) (λ g=>Gt g M c (j9 18) Q E D H)) /\
 (WE M c (j9 18) λ Q E D H=>Lz E 0 λ g e=>Cb g .geq e (.int .u64 256) (λ g=>Ly g E 0 λ g a=>Bn g .shr a (.int .u64 8) λ g b=>Ly g E 2 λ g f=>Bn g .add f (.int .i64 8) λ g d=>Gt g M c (j9 26) Q ((2,d)::(0,b)::E) D H) (λ g=>Gt g M c (j9 26) Q E D H)) /\
 (WE M c (j9 26) λ Q E D H=>Lz E 2 λ g f=>Ly g E 0 λ g h=>B3 g ((Op.wrap .u8) [h]) λ g a=>B3 g (Op.cr [(.str MV),a]) λ g b=>B3 g ((Op.wrap .i64) [b]) λ g d=>Bn g .add f d λ g e=>oJ g Q .ret ((2,e)::E) D H):=by (repeat' apply And.intro)<;>(intro _ _ _ _;refine Dl ?_;kernel_rfl)
theorem qoo:(aP Tryz.prog).func JK=some Nn/\Nn.results=[.tmp 2]:=uR (by kernel_rfl)
theorem qop (h:W M ⟨none,JK⟩ (j9 0) true (c6 M [.tmp 2] Q) [(0,a0)] [] H):FO M JK [a0] H Q:=C9 (by decide) qoo (ks:=qiw) (by kernel_rfl) h
abbrev qen (k:Nat):Kp × aj:=As km k
def qep (M:aA) (c:Ctx):=(pN M c).2.2.2.2.2.2.2.2.2.2.2.1
def qeo:=@pO M _ km [] [a0,a1,a2,a3,a4] (by kernel_rfl) H Q
def qjn (M:aA) (c:Ctx):=(pN M c).2.2.2.2.2.2.2.2.2.2.2.2.1
def qjm:=@pO M _ qex [.tmp 2] [a0] (by kernel_rfl) H Q
def qkb (M:aA) (c:Ctx):=(pN M c).2.2.2.2.2.2.2.2.2.2.2.2.2.1
def qka:=@pO M _ qfg [.tmp 2] [a0] (by kernel_rfl) H Q
def qfd (M:aA) (c:Ctx):=(pN M c).2.2.2.2.2.2.2.2.2.2.2.2.2.2.2.1
def qfc:=@pO M _ qbs [.tmp 12] [a0,a1,a2,a3,a4,a5] (by kernel_rfl) H Q
def qff (M:aA) (c:Ctx):=(pN M c).2.2.2.2.2.2.2.2.2.2.2.2.2.2.2.2
def qfe:=@pO M _ ww [.tmp 10,.tmp 11] [a0,a1,a2,a3,a4] (by kernel_rfl) H Q
end
end Go.Am
namespace Go.Am
abbrev Of:Nat:=90
abbrev qkd:Nat:=100
abbrev FL:Nat:=69
abbrev NN:Nat:=89
abbrev GO:Nat:=72
abbrev N8:Nat:=60
abbrev Gd:Nat:=91
abbrev Mz:Nat:=58
abbrev GB:Nat:=85
abbrev Py:Nat:=47
abbrev Pl:Nat:=49
abbrev N6:Nat:=63
abbrev Pb:Nat:=71
abbrev OQ:Nat:=50
abbrev FN:Nat:=75
abbrev qkf:Nat:=87
abbrev EP:Nat:=97
abbrev Po:Nat:=77
abbrev FK:Nat:=96
abbrev qlp:Nat:=92
abbrev EB:Nat:=101
abbrev qlq:Nat:=78
abbrev PV:Nat:=66
abbrev dM:Nat:=32
abbrev qr:Nat:=81
abbrev j0:Nat:=37
abbrev J1:Nat:=166
abbrev js:Nat:=147
abbrev yo:Nat:=95
noncomputable section
open Go.Proofs Go.Proofs.YtiibohocdbaekaaGreat
variable {M:aA} [MK M] {H:AHeap} {Q:bg->AHeap->Prop} {a0 a1 a2 a3:AV}
abbrev PY:th:=[(66,⟨[0,1,4,5],false,[0,2,10]⟩,[]),(69,⟨[0,2,3,4,6,7],false,[0,4,9]⟩,[]),(300069,⟨[0,2,3,4,6,7],false,[0]⟩,[]),(200069,⟨[0,2,3,4,6,7],false,[0]⟩,[]),(72,⟨[0,2,3,7,8],false,[0,2,10,15]⟩,[]),(300072,⟨[0,2,3,7,8],false,[0]⟩,[]),(200072,⟨[0,2,3,7,8],false,[0]⟩,[]),(91,⟨[0,2,3,7,8],false,[0,2,10,15]⟩,[]),(300091,⟨[0,2,3,7,8],false,[0]⟩,[]),(200091,⟨[0,2,3,7,8],false,[0]⟩,[]),(49,⟨[0,1,2,6,7,8,9,10],false,[0,2,18,8,20,14,26]⟩,[]),(71,⟨[0,1,2,6,7,8],false,[0,2,10,12,20]⟩,[]),(47,⟨[0,1,4,5,6,21],false,[0,4,12]⟩,[]),(50,⟨[0,1,4,5,6,7],false,[0,2,10,12,20]⟩,[]),(58,⟨[0,1,4,5,6,7,8,21],false,[0,4,12]⟩,[]),(60,⟨[0,1,4,5,6,7,8],false,[0,4,12]⟩,[]),(63,⟨[0,1,2,5,6,7,8],false,[0,4,10]⟩,[(3,[0,2,4,6,8,10,5,12,14,16])]),(85,⟨[0,1,2,3,7,8,9,10,11,12,21],false,[0,2,23,16,25,33]⟩,[(13,[0,2,4,6,8,5,10,12])]),(87,⟨[0,1,2],false,[0]⟩,[]),(89,⟨[0,1,2,3,4],false,[0]⟩,[]),(77,⟨[0,1,2,6,7,8],false,[0,2,10,12,20]⟩,[]),(78,⟨[0,1],false,[0]⟩,[]),(75,⟨[0,1,3,4,5,8,9],false,[0,2,7]⟩,[]),(300075,⟨[0,1,3,4,5,8,9],false,[0]⟩,[]),(200075,⟨[0,1,3,4,5,8,9],false,[0]⟩,[]),(96,⟨[0,1,4,5,6,9,10],false,[0,2,3,5,7,12]⟩,[]),(300096,⟨[0,1,4,5,6,9,10],false,[0]⟩,[]),(200096,⟨[0,1,4,5,6,9,10],false,[0,9,15]⟩,[]),(97,⟨[0,1,3,10,11],false,[0,1,7,9,13,19,34,23,29]⟩,[]),(90,⟨[0,1,4,5,6],false,[0,4,6,22,10,30,18,38,46]⟩,[]),(92,⟨[0,1,2,3,4],false,[0]⟩,[]),(100,⟨[0,2],false,[0]⟩,[]),(101,⟨[0,1,2,4,5,26,27],false,[0,6,12,18,27]⟩,[])]
def Nq (n:Nat):Kp:=mD n PY
def rZ (n k:Nat):Kp × aj:=(Nq n,part (bW Tryz.prog n) k)
theorem qrf (n k:Nat):rZ n k=(Nq n,part (bW Tryz.prog n) k):=rfl
def ym:=@mr M _ rZ Nq qrf
attribute [local irreducible] PR rZ pG iW hO jV mG jH ra Dj sD CR A7 CK fD nE pQ rW rJ uP pD pW pj cw kQ cB AV.undef Op.move Op.pick Op.build Op.nilCheck Op.bin Op.eq Op.un Op.wrap Op.fg Op.gA Op.eN Op.cA Op.fh Op.aJ Op.fj Op.fieldAddr Op.field Op.aQ Op.bE Op.eT Op.cr Op.typeAssert Op.extract Op.fP Op.dC Op.qN Op.cap Op.jG Op.dY Op.eV Op.bM Op.cX Op.ae Op.aG Op.dk Op.lookup Op.jK Op.gB Op.alloc Op.box Op.buildSlice Op.mkMap Op.mkSlice Op.di Op.eW Op.makeNoZero Op.store Op.mapUpdate Op.dX Op.gO Op.append Op.copy Op.ct Op.ff Op.gv Op.fk
def zm (M:aA) (c:Ctx):=by
 have h:=qT qrf M c PY (by kernel_rfl)
 conv at h=>arg 5;reduce
 delta PR RL pj jH pG iW ra mG nE hO jV fD pQ rJ uP pD sD rW ru PY at h
 simp only [EU,DG,EI,EA,Int.reduceOfNat,Int.reduceNegSucc] at h;exact h
def yB (M:aA) (c:Ctx):=(zm M c).1
def uX:=@ym M _ PV [.tmp 4,.tmp 5] [a0,a1] (by kernel_rfl) H Q
def Kz:cm:=funcAt Tryz.prog FL
def Ih:db:=i4 Kz 0
abbrev NJ (k:Nat):Kp × aj:=rZ 300069 k
abbrev OX (k:Nat):Kp × aj:=rZ 200069 k
theorem qjy:nth Kz.loops 0=some Ih/\Ih.params=[7]:=⟨by kernel_rfl,by kernel_rfl⟩
theorem qpu:(NJ 0).1.ah=[0,2,3,4,6,7]/\(NJ 0).2=Ih.assign:=⟨by kernel_rfl,by kernel_rfl⟩
theorem qpv:(OX 0).1.ah=[0,2,3,4,6,7]/\(OX 0).2=Ih.body:=⟨by kernel_rfl,by kernel_rfl⟩
theorem qso:M.func FL=some Kz:=MK.at (by decide) (by kernel_rfl)
def ql3 (M:aA) (c:Ctx):=And.intro (zm M c).2.1.1 (And.intro (zm M c).2.2.1 (And.intro (zm M c).2.2.2.1 (And.intro (zm M c).2.1.2.1 ((zm M c).2.1.2.2))))
def quc:=@ym M _ FL [.tmp 2] [a0] (by kernel_rfl) H Q
def Kk:cm:=funcAt Tryz.prog GO
def IW:db:=i4 Kk 0
abbrev Pp (k:Nat):Kp × aj:=rZ 300072 k
abbrev Me (k:Nat):Kp × aj:=rZ 200072 k
theorem qhe:nth Kk.loops 0=some IW/\IW.params=[8]:=⟨by kernel_rfl,by kernel_rfl⟩
theorem ql9:(Pp 0).1.ah=[0,2,3,7,8]/\(Pp 0).2=IW.assign:=⟨by kernel_rfl,by kernel_rfl⟩
theorem qma:(Me 0).1.ah=[0,2,3,7,8]/\(Me 0).2=IW.body:=⟨by kernel_rfl,by kernel_rfl⟩
theorem qm5:M.func GO=some Kk:=MK.at (by decide) (by kernel_rfl)
def qis (M:aA) (c:Ctx):=And.intro (zm M c).2.2.2.2.1.1 (And.intro (zm M c).2.2.2.2.2.1 (And.intro (zm M c).2.2.2.2.2.2.1 (And.intro (zm M c).2.2.2.2.1.2.1 (And.intro (zm M c).2.2.2.2.1.2.2.1 ((zm M c).2.2.2.2.1.2.2.2)))))
def qog:=@ym M _ GO [.tmp 2] [a0] (by kernel_rfl) H Q
def Lv:cm:=funcAt Tryz.prog Gd
def IH:db:=i4 Lv 0
abbrev MZ (k:Nat):Kp × aj:=rZ 300091 k
abbrev NO (k:Nat):Kp × aj:=rZ 200091 k
theorem qgi:nth Lv.loops 0=some IH/\IH.params=[8]:=⟨by kernel_rfl,by kernel_rfl⟩
theorem qlm:(MZ 0).1.ah=[0,2,3,7,8]/\(MZ 0).2=IH.assign:=⟨by kernel_rfl,by kernel_rfl⟩
theorem qln:(NO 0).1.ah=[0,2,3,7,8]/\(NO 0).2=IH.body:=⟨by kernel_rfl,by kernel_rfl⟩
theorem qmb:M.func Gd=some Lv:=MK.at (by decide) (by kernel_rfl)
def qhw (M:aA) (c:Ctx):=And.intro (zm M c).2.2.2.2.2.2.2.1.1 (And.intro (zm M c).2.2.2.2.2.2.2.2.1 (And.intro (zm M c).2.2.2.2.2.2.2.2.2.1 (And.intro (zm M c).2.2.2.2.2.2.2.1.2.1 (And.intro (zm M c).2.2.2.2.2.2.2.1.2.2.1 ((zm M c).2.2.2.2.2.2.2.1.2.2.2)))))
def qm6:=@ym M _ Gd [.tmp 2] [a0] (by kernel_rfl) H Q
def qsw (M:aA) (c:Ctx):=(zm M c).2.2.2.2.2.2.2.2.2.2.1
def qsv:=@ym M _ Pl [.tmp 6] [a0,a1,a2] (by kernel_rfl) H Q
def que (M:aA) (c:Ctx):=(zm M c).2.2.2.2.2.2.2.2.2.2.2.1
def qud:=@ym M _ Pb [.tmp 6] [a0,a1,a2] (by kernel_rfl) H Q
def qsu (M:aA) (c:Ctx):=(zm M c).2.2.2.2.2.2.2.2.2.2.2.2.1
def qst:=@ym M _ Py [.dB 21 4,.tmp 5] [a0,a1] (by kernel_rfl) H Q
def qsy (M:aA) (c:Ctx):=(zm M c).2.2.2.2.2.2.2.2.2.2.2.2.2.1
def qsx:=@ym M _ OQ [.tmp 4,.tmp 5] [a0,a1] (by kernel_rfl) H Q
def qsq (M:aA) (c:Ctx):=(zm M c).2.2.2.2.2.2.2.2.2.2.2.2.2.2.1
def qsp:=@ym M _ Mz [.dB 21 4,.tmp 5] [a0,a1] (by kernel_rfl) H Q
def qoi (M:aA) (c:Ctx):=(zm M c).2.2.2.2.2.2.2.2.2.2.2.2.2.2.2.1
def qoh:=@ym M _ N8 [.dB 8 4,.tmp 5] [a0,a1] (by kernel_rfl) H Q
def qm8 (M:aA) (c:Ctx):=(zm M c).2.2.2.2.2.2.2.2.2.2.2.2.2.2.2.2.1
def qm7:=@ym M _ N6 [.tmp 6] [a0,a1,a2] (by kernel_rfl) H Q
abbrev qkw (k:Nat):Kp × aj:=rZ GB k
def qss (M:aA) (c:Ctx):=(zm M c).2.2.2.2.2.2.2.2.2.2.2.2.2.2.2.2.2.1
def qsr:=@ym M _ GB [.dB 21 8,.tmp 9,.tmp 10] [a0,a1,a2,a3] (by kernel_rfl) H Q
def qs2 (M:aA) (c:Ctx):=(zm M c).2.2.2.2.2.2.2.2.2.2.2.2.2.2.2.2.2.2.1
def qs1:=@ym M _ qkf [.tmp 2] [a0] (by kernel_rfl) H Q
def qpt (M:aA) (c:Ctx):=(zm M c).2.2.2.2.2.2.2.2.2.2.2.2.2.2.2.2.2.2.2.1
def qps:=@ym M _ NN [.tmp 4] [a0,a1] (by kernel_rfl) H Q
def qwd (M:aA) (c:Ctx):=(zm M c).2.2.2.2.2.2.2.2.2.2.2.2.2.2.2.2.2.2.2.2.1
def qwc:=@ym M _ Po [.tmp 6,.tmp 7] [a0,a1,a2] (by kernel_rfl) H Q
def quj (M:aA) (c:Ctx):=(zm M c).2.2.2.2.2.2.2.2.2.2.2.2.2.2.2.2.2.2.2.2.2.1
def qui:=@ym M _ qlq [] [a0,a1] (by kernel_rfl) H Q
def Ln:cm:=funcAt Tryz.prog FN
def G1:db:=i4 Ln 0
abbrev NH (k:Nat):Kp × aj:=rZ 300075 k
abbrev Mn (k:Nat):Kp × aj:=rZ 200075 k
theorem qkx:nth Ln.loops 0=some G1/\G1.params=[9]:=⟨by kernel_rfl,by kernel_rfl⟩
theorem qsz:(NH 0).1.ah=[0,1,3,4,5,8,9]/\(NH 0).2=G1.assign:=⟨by kernel_rfl,by kernel_rfl⟩
theorem qs0:(Mn 0).1.ah=[0,1,3,4,5,8,9]/\(Mn 0).2=G1.body:=⟨by kernel_rfl,by kernel_rfl⟩
theorem quf:M.func FN=some Ln:=MK.at (by decide) (by kernel_rfl)
def qm9 (M:aA) (c:Ctx):=And.intro (zm M c).2.2.2.2.2.2.2.2.2.2.2.2.2.2.2.2.2.2.2.2.2.2.1.1 (And.intro (zm M c).2.2.2.2.2.2.2.2.2.2.2.2.2.2.2.2.2.2.2.2.2.2.2.1 (And.intro (zm M c).2.2.2.2.2.2.2.2.2.2.2.2.2.2.2.2.2.2.2.2.2.2.2.2.1 (And.intro (zm M c).2.2.2.2.2.2.2.2.2.2.2.2.2.2.2.2.2.2.2.2.2.2.1.2.1 ((zm M c).2.2.2.2.2.2.2.2.2.2.2.2.2.2.2.2.2.2.2.2.2.2.1.2.2))))
def qwb:=@ym M _ FN [.gf 4] [a0,a1] (by kernel_rfl) H Q
def J6:cm:=funcAt Tryz.prog FK
def Ji:db:=i4 J6 0
abbrev N7 (k:Nat):Kp × aj:=rZ 300096 k
abbrev Oc (k:Nat):Kp × aj:=rZ 200096 k
theorem qit:nth J6.loops 0=some Ji/\Ji.params=[10]:=⟨by kernel_rfl,by kernel_rfl⟩
theorem qol:(N7 0).1.ah=[0,1,4,5,6,9,10]/\(N7 0).2=Ji.assign:=⟨by kernel_rfl,by kernel_rfl⟩
theorem qom:(Oc 0).1.ah=[0,1,4,5,6,9,10]/\(Oc 0).2=Ji.body:=⟨by kernel_rfl,by kernel_rfl⟩
theorem qpw:M.func FK=some J6:=MK.at (by decide) (by kernel_rfl)
def qky (M:aA) (c:Ctx):=And.intro (zm M c).2.2.2.2.2.2.2.2.2.2.2.2.2.2.2.2.2.2.2.2.2.2.2.2.2.1.1 (And.intro (zm M c).2.2.2.2.2.2.2.2.2.2.2.2.2.2.2.2.2.2.2.2.2.2.2.2.2.2.1 (And.intro (zm M c).2.2.2.2.2.2.2.2.2.2.2.2.2.2.2.2.2.2.2.2.2.2.2.2.2.2.2.1.1 (And.intro (zm M c).2.2.2.2.2.2.2.2.2.2.2.2.2.2.2.2.2.2.2.2.2.2.2.2.2.1.2.1 (And.intro (zm M c).2.2.2.2.2.2.2.2.2.2.2.2.2.2.2.2.2.2.2.2.2.2.2.2.2.2.2.1.2.1 (And.intro (zm M c).2.2.2.2.2.2.2.2.2.2.2.2.2.2.2.2.2.2.2.2.2.2.2.2.2.1.2.2.1 (And.intro (zm M c).2.2.2.2.2.2.2.2.2.2.2.2.2.2.2.2.2.2.2.2.2.2.2.2.2.2.2.1.2.2 (And.intro (zm M c).2.2.2.2.2.2.2.2.2.2.2.2.2.2.2.2.2.2.2.2.2.2.2.2.2.1.2.2.2.1 (And.intro (zm M c).2.2.2.2.2.2.2.2.2.2.2.2.2.2.2.2.2.2.2.2.2.2.2.2.2.1.2.2.2.2.1 ((zm M c).2.2.2.2.2.2.2.2.2.2.2.2.2.2.2.2.2.2.2.2.2.2.2.2.2.1.2.2.2.2.2)))))))))
def qs3:=@ym M _ FK [.gf 4] [a0,a1] (by kernel_rfl) H Q
def qok (M:aA) (c:Ctx):=(zm M c).2.2.2.2.2.2.2.2.2.2.2.2.2.2.2.2.2.2.2.2.2.2.2.2.2.2.2.2.1
def qoj:=@ym M _ EP [] [a0,a1] (by kernel_rfl) H Q
def qn8 (M:aA) (c:Ctx):=(zm M c).2.2.2.2.2.2.2.2.2.2.2.2.2.2.2.2.2.2.2.2.2.2.2.2.2.2.2.2.2.1
def qn7:=@ym M _ Of [.tmp 4] [a0,a1] (by kernel_rfl) H Q
def quh (M:aA) (c:Ctx):=(zm M c).2.2.2.2.2.2.2.2.2.2.2.2.2.2.2.2.2.2.2.2.2.2.2.2.2.2.2.2.2.2.1
def qug:=@ym M _ qlp [.tmp 4] [a0,a1] (by kernel_rfl) H Q
def qr4 (M:aA) (c:Ctx):=(zm M c).2.2.2.2.2.2.2.2.2.2.2.2.2.2.2.2.2.2.2.2.2.2.2.2.2.2.2.2.2.2.2.1
def qr3:=@ym M _ qkd [.tmp 2] [a0] (by kernel_rfl) H Q
def qpy (M:aA) (c:Ctx):=(zm M c).2.2.2.2.2.2.2.2.2.2.2.2.2.2.2.2.2.2.2.2.2.2.2.2.2.2.2.2.2.2.2.2
def qpx:=@ym M _ EB [] [a0,a1,a2] (by kernel_rfl) H Q
end
end Go.Am
namespace Go.Am
abbrev OJ:Nat:=35
abbrev Oy:Nat:=44
abbrev CE:Nat:=18
abbrev M7:Nat:=41
abbrev NP:Nat:=39
abbrev qjt:Nat:=28
abbrev Qf:Nat:=42
abbrev I8:Nat:=45
abbrev kz:Nat:=33
abbrev Pv:Nat:=62
abbrev Oj:Nat:=17
abbrev Hv:Nat:=29
abbrev Jg:Nat:=38
abbrev qid:Nat:=73
abbrev MJ:Nat:=48
abbrev Hn:Nat:=37
abbrev KL:Nat:=67
abbrev FQ:Nat:=64
abbrev PL:Nat:=74
abbrev qju:Nat:=57
abbrev Nb:Nat:=46
abbrev MA:Nat:=56
abbrev qkh:Nat:=59
abbrev qie:Nat:=70
abbrev qfz:Nat:=76
abbrev Pm:Nat:=61
abbrev NL:Nat:=84
abbrev NZ:Nat:=93
abbrev qdw:Nat:=68
abbrev k8:Nat:=86
abbrev qt:Nat:=39
abbrev yf:Nat:=23
abbrev Jq:Nat:=98
noncomputable section
open Go.Proofs Go.Proofs.YtiibohocdbaekaaGreat
variable {M:aA} [MK M] {H:AHeap} {Q:bg->AHeap->Prop} {a0 a1 a2 a3:AV}
abbrev Ph:th:=[(35,⟨[0,1,3,4,5,6,7],false,[0,4,12]⟩,[]),(18,⟨[0,2,3,4,6,7],false,[0,4,9]⟩,[]),(300018,⟨[0,2,3,4,6,7],false,[0]⟩,[]),(200018,⟨[0,2,3,4,6,7],false,[0]⟩,[]),(17,⟨[0,2],false,[0]⟩,[]),(29,⟨[0,1,4,5,6,7,8,9,11],false,[0,2,12,14,24,30]⟩,[]),(38,⟨[0,1,2,6,7,8,9,10],false,[0,2,12,14,22,28]⟩,[]),(39,⟨[0,1,2,3,8,9,10,11,12,13,14],false,[0,2,12,20,22,30,32,38]⟩,[]),(41,⟨[0,2],false,[0,2,17]⟩,[]),(42,⟨[0,2],false,[0,2,17]⟩,[]),(44,⟨[0,1,4],false,[0,2,23,16]⟩,[]),(33,⟨[0,1,3,4,5,6,7,8,9,51,69],false,[0,2,10,12,20,73,34,75,40,85,41,49,53,61]⟩,[]),(45,⟨[0,1,4,5,6,7],false,[0,2,17,19,27,33]⟩,[]),(28,⟨[0,2],false,[0,2,10]⟩,[]),(37,⟨[0,2],false,[0,2,10]⟩,[]),(46,⟨[0,1,4],false,[0,2,17]⟩,[]),(48,⟨[0,1,2,6],false,[0,2,10]⟩,[]),(70,⟨[0,1,4,5,6],false,[0]⟩,[]),(73,⟨[0,1],false,[0]⟩,[]),(56,⟨[0,1,2,4,5,6,8,14],false,[0,2,41,12,18,28]⟩,[(8,[0,2,4,6,8,10,12,14,7,16,18]),(10,[0,2,4,6,8,10,12,14,7,16,18])]),(57,⟨[0,1,2,4],false,[0]⟩,[]),(59,⟨[0,1,2,6,11],false,[0]⟩,[]),(61,⟨[0,1,4,5,6,7],false,[0,4,12,35,17,23,34]⟩,[]),(62,⟨[0,1,3],false,[0]⟩,[]),(64,⟨[0,1,3,4,5,6,7,8],false,[0,4,10,12,20,28]⟩,[]),(74,⟨[0,1,3,4,5],false,[0,2,10]⟩,[]),(67,⟨[0],false,[0]⟩,[]),(68,⟨[0,1,2],false,[0]⟩,[]),(76,⟨[0,1,4],false,[0]⟩,[]),(84,⟨[0,1,4,5,7,8],false,[0,2,25,7,13,24]⟩,[]),(86,⟨[0,1,4,5,6,7],false,[0,4,10,19]⟩,[]),(93,⟨[0,1,4,5,7,8],false,[0,2,25,7,13,24]⟩,[])]
def PD (n:Nat):Kp:=mD n Ph
def Ah (n k:Nat):Kp × aj:=(PD n,part (bW Tryz.prog n) k)
theorem qrg (n k:Nat):Ah n k=(PD n,part (bW Tryz.prog n) k):=rfl
def kj:=@mr M _ Ah PD qrg
attribute [local irreducible] PR Ah pG iW hO jV mG jH ra Dj sD CR A7 CK fD nE pQ rW rJ uP pD pW pj cw kQ cB AV.undef Op.move Op.pick Op.build Op.nilCheck Op.bin Op.eq Op.un Op.wrap Op.fg Op.gA Op.eN Op.cA Op.fh Op.aJ Op.fj Op.fieldAddr Op.field Op.aQ Op.bE Op.eT Op.cr Op.typeAssert Op.extract Op.fP Op.dC Op.qN Op.cap Op.jG Op.dY Op.eV Op.bM Op.cX Op.ae Op.aG Op.dk Op.lookup Op.jK Op.gB Op.alloc Op.box Op.buildSlice Op.mkMap Op.mkSlice Op.di Op.eW Op.makeNoZero Op.store Op.mapUpdate Op.dX Op.gO Op.append Op.copy Op.ct Op.ff Op.gv Op.fk
def jr (M:aA) (c:Ctx):=by
 have h:=qT qrg M c Ph (by kernel_rfl)
 conv at h=>arg 5;reduce
 delta PR RL pj jH pG iW ra mG nE hO jV fD pQ rJ uP pD sD rW ru Ph at h
 simp only [EU,DG,EI,EA,Int.reduceOfNat,Int.reduceNegSucc] at h;exact h
def q30 (M:aA) (c:Ctx):=(jr M c).1
def q3z:=@kj M _ OJ [.tmp 4,.tmp 5] [a0,a1] (by kernel_rfl) H Q
def JT:cm:=funcAt Tryz.prog CE
def FE:db:=i4 JT 0
abbrev Lm (k:Nat):Kp × aj:=Ah 300018 k
abbrev Kg (k:Nat):Kp × aj:=Ah 200018 k
theorem Ll:nth JT.loops 0=some FE/\FE.params=[7]:=⟨by kernel_rfl,by kernel_rfl⟩
theorem qix:(Lm 0).1.ah=[0,2,3,4,6,7]/\(Lm 0).2=FE.assign:=⟨by kernel_rfl,by kernel_rfl⟩
theorem qiy:(Kg 0).1.ah=[0,2,3,4,6,7]/\(Kg 0).2=FE.body:=⟨by kernel_rfl,by kernel_rfl⟩
theorem qjz:M.func CE=some JT:=MK.at (by decide) (by kernel_rfl)
def Oh (M:aA) (c:Ctx):=And.intro (jr M c).2.1.1 (And.intro (jr M c).2.2.1 (And.intro (jr M c).2.2.2.1 (And.intro (jr M c).2.1.2.1 ((jr M c).2.1.2.2))))
def qk0:=@kj M _ CE [.tmp 2] [a0] (by kernel_rfl) H Q
def qj1 (M:aA) (c:Ctx):=(jr M c).2.2.2.2.1
def qj0:=@kj M _ Oj [.tmp 2] [a0] (by kernel_rfl) H Q
abbrev qp6 (k:Nat):Kp × aj:=Ah Hv k
def qp8 (M:aA) (c:Ctx):=(jr M c).2.2.2.2.2.1
def qp7:=@kj M _ Hv [.tmp 4,.tmp 5,.tmp 6,.tmp 7] [a0,a1] (by kernel_rfl) H Q
abbrev qov (k:Nat):Kp × aj:=Ah Jg k
def qox (M:aA) (c:Ctx):=(jr M c).2.2.2.2.2.2.1
def qow:=@kj M _ Jg [.tmp 6,.tmp 7,.tmp 8] [a0,a1,a2] (by kernel_rfl) H Q
def qtf (M:aA) (c:Ctx):=(jr M c).2.2.2.2.2.2.2.1
def qte:=@kj M _ NP [.tmp 8,.tmp 9,.tmp 10,.tmp 11] [a0,a1,a2,a3] (by kernel_rfl) H Q
def qou (M:aA) (c:Ctx):=(jr M c).2.2.2.2.2.2.2.2.1
def qot:=@kj M _ M7 [.tmp 2] [a0] (by kernel_rfl) H Q
def qnh (M:aA) (c:Ctx):=(jr M c).2.2.2.2.2.2.2.2.2.1
def qng:=@kj M _ Qf [.tmp 2] [a0] (by kernel_rfl) H Q
def qos (M:aA) (c:Ctx):=(jr M c).2.2.2.2.2.2.2.2.2.2.1
def qor:=@kj M _ Oy [.tmp 4] [a0,a1] (by kernel_rfl) H Q
abbrev Gb (k:Nat):Kp × aj:=Ah kz k
def qp5 (M:aA) (c:Ctx):=(jr M c).2.2.2.2.2.2.2.2.2.2.2.1
def qp4:=@kj M _ kz [.tmp 4,.tmp 5] [a0,a1] (by kernel_rfl) H Q
abbrev qp1 (k:Nat):Kp × aj:=Ah I8 k
def qp3 (M:aA) (c:Ctx):=(jr M c).2.2.2.2.2.2.2.2.2.2.2.2.1
def qp2:=@kj M _ I8 [.tmp 4,.tmp 5] [a0,a1] (by kernel_rfl) H Q
def qp0 (M:aA) (c:Ctx):=(jr M c).2.2.2.2.2.2.2.2.2.2.2.2.2.1
def qpz:=@kj M _ qjt [.tmp 2] [a0] (by kernel_rfl) H Q
def qhj (M:aA) (c:Ctx):=(jr M c).2.2.2.2.2.2.2.2.2.2.2.2.2.2.1
def qhi:=@kj M _ Hn [.tmp 2] [a0] (by kernel_rfl) H Q
def qtj (M:aA) (c:Ctx):=(jr M c).2.2.2.2.2.2.2.2.2.2.2.2.2.2.2.1
def qti:=@kj M _ Nb [.tmp 4] [a0,a1] (by kernel_rfl) H Q
def qth (M:aA) (c:Ctx):=(jr M c).2.2.2.2.2.2.2.2.2.2.2.2.2.2.2.2.1
def qtg:=@kj M _ MJ [.tmp 6] [a0,a1,a2] (by kernel_rfl) H Q
def qo1 (M:aA) (c:Ctx):=(jr M c).2.2.2.2.2.2.2.2.2.2.2.2.2.2.2.2.2.1
def qo0:=@kj M _ qie [.tmp 4] [a0,a1] (by kernel_rfl) H Q
def qoz (M:aA) (c:Ctx):=(jr M c).2.2.2.2.2.2.2.2.2.2.2.2.2.2.2.2.2.2.1
def qoy:=@kj M _ qid [] [a0,a1] (by kernel_rfl) H Q
def qmd (M:aA) (c:Ctx):=(jr M c).2.2.2.2.2.2.2.2.2.2.2.2.2.2.2.2.2.2.2.1
def qmc:=@kj M _ MA [.tmp 6] [a0,a1,a2] (by kernel_rfl) H Q
def FU (M:aA) (c:Ctx):=(jr M c).2.2.2.2.2.2.2.2.2.2.2.2.2.2.2.2.2.2.2.2.1
def qqd:=@kj M _ qju [] [a0,a1,a2] (by kernel_rfl) H Q
def qtl (M:aA) (c:Ctx):=(jr M c).2.2.2.2.2.2.2.2.2.2.2.2.2.2.2.2.2.2.2.2.2.1
def qtk:=@kj M _ qkh [.dB 11 6] [a0,a1,a2] (by kernel_rfl) H Q
def qjj (M:aA) (c:Ctx):=(jr M c).2.2.2.2.2.2.2.2.2.2.2.2.2.2.2.2.2.2.2.2.2.2.1
def qji:=@kj M _ Pm [.tmp 4] [a0,a1] (by kernel_rfl) H Q
def qhx (M:aA) (c:Ctx):=(jr M c).2.2.2.2.2.2.2.2.2.2.2.2.2.2.2.2.2.2.2.2.2.2.2.1
def qni:=@kj M _ Pv [.tmp 3] [a0,a1] (by kernel_rfl) H Q
abbrev qj2 (k:Nat):Kp × aj:=Ah FQ k
def qqa (M:aA) (c:Ctx):=(jr M c).2.2.2.2.2.2.2.2.2.2.2.2.2.2.2.2.2.2.2.2.2.2.2.2.1
def qp9:=@kj M _ FQ [.tmp 4] [a0,a1] (by kernel_rfl) H Q
def qqc (M:aA) (c:Ctx):=(jr M c).2.2.2.2.2.2.2.2.2.2.2.2.2.2.2.2.2.2.2.2.2.2.2.2.2.1
def qqb:=@kj M _ PL [.tmp 4] [a0,a1] (by kernel_rfl) H Q
def qk2 (M:aA) (c:Ctx):=(jr M c).2.2.2.2.2.2.2.2.2.2.2.2.2.2.2.2.2.2.2.2.2.2.2.2.2.2.1
def qk1:=@kj M _ KL [] [a0] (by kernel_rfl) H Q
def qh8 (M:aA) (c:Ctx):=(jr M c).2.2.2.2.2.2.2.2.2.2.2.2.2.2.2.2.2.2.2.2.2.2.2.2.2.2.2.1
def qh7:=@kj M _ qdw [.tmp 2] [a0] (by kernel_rfl) H Q
def qk5 (M:aA) (c:Ctx):=(jr M c).2.2.2.2.2.2.2.2.2.2.2.2.2.2.2.2.2.2.2.2.2.2.2.2.2.2.2.2.1
def qk4:=@kj M _ qfz [.tmp 4] [a0,a1] (by kernel_rfl) H Q
def qj9 (M:aA) (c:Ctx):=(jr M c).2.2.2.2.2.2.2.2.2.2.2.2.2.2.2.2.2.2.2.2.2.2.2.2.2.2.2.2.2.1
def qj8:=@kj M _ NL [.tmp 4] [a0,a1] (by kernel_rfl) H Q
def qhp (M:aA) (c:Ctx):=(jr M c).2.2.2.2.2.2.2.2.2.2.2.2.2.2.2.2.2.2.2.2.2.2.2.2.2.2.2.2.2.2.1
def qho:=@kj M _ k8 [] [a0,a1] (by kernel_rfl) H Q
def qnq (M:aA) (c:Ctx):=(jr M c).2.2.2.2.2.2.2.2.2.2.2.2.2.2.2.2.2.2.2.2.2.2.2.2.2.2.2.2.2.2.2
def qnp:=@kj M _ NZ [.tmp 4] [a0,a1] (by kernel_rfl) H Q
end
end Go.Am
namespace Go.Am
abbrev vp:Nat:=32
abbrev Px:Nat:=51
abbrev GH:Nat:=53
abbrev Kc:Nat:=55
abbrev O4:Nat:=34
abbrev qjs:Nat:=81
abbrev vy:Nat:=95
abbrev Cx:Nat:=52
abbrev Lq:Nat:=79
abbrev P1:Nat:=83
abbrev N5:Nat:=54
abbrev PT:Nat:=82
abbrev Ny:Nat:=65
abbrev qcl:Nat:=80
abbrev Pg:Nat:=94
abbrev mK:Nat:=40
abbrev MB:Nat:=121
abbrev Le:Nat:=123
abbrev HS:Nat:=126
abbrev M5:Nat:=164
noncomputable section
open Go.Proofs Go.Proofs.YtiibohocdbaekaaGreat
variable {M:aA} [MK M] {H:AHeap} {Q:bg->AHeap->Prop} {a0 a1 a2:AV}
abbrev Mi:th:=[(34,⟨[0,1,4,5,6,7,8,9,35,36],false,[0,4,12,14,31,19,25,30]⟩,[]),(32,⟨[0,1,3,4,5,6,7,8,9,37,38],false,[0,2,10,12,20,28,32,113,42,119,45,61,66,55,71,86,73,99,79]⟩,[]),(65,⟨[0,2,3],false,[0,2,10]⟩,[]),(51,⟨[0,1,4],false,[0,2,10]⟩,[]),(52,⟨[0,1,3,4,5,6,9,10],false,[0,4,51,14,17,26,38]⟩,[]),(53,⟨[0,1,2,5,6,7,8,9,74,75],false,[0,4,22,10,24,12,32,18,36,41]⟩,[]),(300053,⟨[0,1,2,5,6,7,8,9,74,75],false,[0]⟩,[]),(200053,⟨[0,1,2,5,6,7,8,9,74,75],false,[0]⟩,[]),(54,⟨[0,1,2,5,6,7,8],false,[0,4,10]⟩,[]),(55,⟨[0,1,4,5,7,11],false,[0,4,8,18]⟩,[]),(79,⟨[0,1,2,3],false,[0]⟩,[]),(80,⟨[0,1,4],false,[0]⟩,[]),(81,⟨[0,1,2],false,[0]⟩,[]),(82,⟨[0,1,4,5],false,[0,2,17]⟩,[]),(83,⟨[0,1,4,5,6,7,8],false,[0,4,12]⟩,[]),(94,⟨[0,1,4,5,7,8],false,[0,2,25,7,13,24]⟩,[]),(95,⟨[0,1,3,4],false,[0,4,10,19]⟩,[])]
def PF (n:Nat):Kp:=mD n Mi
def Ek (n k:Nat):Kp × aj:=(PF n,part (bW Tryz.prog n) k)
theorem qre (n k:Nat):Ek n k=(PF n,part (bW Tryz.prog n) k):=rfl
def qK:=@mr M _ Ek PF qre
attribute [local irreducible] PR Ek pG iW hO jV mG jH ra Dj sD CR A7 CK fD nE pQ rW rJ uP pD pW pj cw kQ cB AV.undef Op.move Op.pick Op.build Op.nilCheck Op.bin Op.eq Op.un Op.wrap Op.fg Op.gA Op.eN Op.cA Op.fh Op.aJ Op.fj Op.fieldAddr Op.field Op.aQ Op.bE Op.eT Op.cr Op.typeAssert Op.extract Op.fP Op.dC Op.qN Op.cap Op.jG Op.dY Op.eV Op.bM Op.cX Op.ae Op.aG Op.dk Op.lookup Op.jK Op.gB Op.alloc Op.box Op.buildSlice Op.mkMap Op.mkSlice Op.di Op.eW Op.makeNoZero Op.store Op.mapUpdate Op.dX Op.gO Op.append Op.copy Op.ct Op.ff Op.gv Op.fk
def ya (M:aA) (c:Ctx):=by
 have h:=qT qre M c Mi (by kernel_rfl)
 conv at h=>arg 5;reduce
 delta PR RL pj jH pG iW ra nE hO jV fD pQ rJ uP pD sD rW ru Mi at h
 simp only [EU,DG,EI,EA,Int.reduceOfNat,Int.reduceNegSucc] at h;exact h
def q5k (M:aA) (c:Ctx):=(ya M c).1
def q5j:=@qK M _ O4 [.tmp 4,.tmp 5] [a0,a1] (by kernel_rfl) H Q
abbrev OO (k:Nat):Kp × aj:=Ek vp k
def ql0 (M:aA) (c:Ctx):=(ya M c).2.1
def qt8:=@qK M _ vp [.tmp 4,.tmp 5] [a0,a1] (by kernel_rfl) H Q
def q6k (M:aA) (c:Ctx):=(ya M c).2.2.1
def q6j:=@qK M _ Ny [.tmp 2,.tmp 3] [a0] (by kernel_rfl) H Q
def qx2 (M:aA) (c:Ctx):=(ya M c).2.2.2.1
def qx1:=@qK M _ Px [.tmp 4] [a0,a1] (by kernel_rfl) H Q
abbrev LQ (k:Nat):Kp × aj:=Ek Cx k
def qsb (M:aA) (c:Ctx):=(ya M c).2.2.2.2.1
def qsa:=@qK M _ Cx [.tmp 4] [a0,a1] (by kernel_rfl) H Q
def KB:cm:=funcAt Tryz.prog GH
def Iy:db:=i4 KB 0
abbrev Mf (k:Nat):Kp × aj:=Ek 300053 k
abbrev OB (k:Nat):Kp × aj:=Ek 200053 k
theorem qik:nth KB.loops 0=some Iy/\Iy.params=[75]:=⟨by kernel_rfl,by kernel_rfl⟩
theorem qn9:(Mf 0).1.ah=[0,1,2,5,6,7,8,9,74,75]/\(Mf 0).2=Iy.assign:=⟨by kernel_rfl,by kernel_rfl⟩
theorem qoa:(OB 0).1.ah=[0,1,2,5,6,7,8,9,74,75]/\(OB 0).2=Iy.body:=⟨by kernel_rfl,by kernel_rfl⟩
theorem qpp:M.func GH=some KB:=MK.at (by decide) (by kernel_rfl)
def qkr (M:aA) (c:Ctx):=And.intro (ya M c).2.2.2.2.2.1.1 (And.intro (ya M c).2.2.2.2.2.2.1 (And.intro (ya M c).2.2.2.2.2.2.2.1 (And.intro (ya M c).2.2.2.2.2.1.2.1 (And.intro (ya M c).2.2.2.2.2.1.2.2.1 (And.intro (ya M c).2.2.2.2.2.1.2.2.2.1 (And.intro (ya M c).2.2.2.2.2.1.2.2.2.2.1 (And.intro (ya M c).2.2.2.2.2.1.2.2.2.2.2.1 (And.intro (ya M c).2.2.2.2.2.1.2.2.2.2.2.2.1 (And.intro (ya M c).2.2.2.2.2.1.2.2.2.2.2.2.2.1 (And.intro (ya M c).2.2.2.2.2.1.2.2.2.2.2.2.2.2.1 ((ya M c).2.2.2.2.2.1.2.2.2.2.2.2.2.2.2)))))))))))
def qr7:=@qK M _ GH [.tmp 6] [a0,a1,a2] (by kernel_rfl) H Q
def qws (M:aA) (c:Ctx):=(ya M c).2.2.2.2.2.2.2.2.1
def qwr:=@qK M _ N5 [.tmp 6] [a0,a1,a2] (by kernel_rfl) H Q
def qr9 (M:aA) (c:Ctx):=(ya M c).2.2.2.2.2.2.2.2.2.1
def qr8:=@qK M _ Kc [.dB 11 4] [a0,a1] (by kernel_rfl) H Q
def qil (M:aA) (c:Ctx):=(ya M c).2.2.2.2.2.2.2.2.2.2.1
def qob:=@qK M _ Lq [.tmp 3] [a0,a1] (by kernel_rfl) H Q
def qgh (M:aA) (c:Ctx):=(ya M c).2.2.2.2.2.2.2.2.2.2.2.1
def qgg:=@qK M _ qcl [.tmp 4] [a0,a1] (by kernel_rfl) H Q
def qpr (M:aA) (c:Ctx):=(ya M c).2.2.2.2.2.2.2.2.2.2.2.2.1
def qpq:=@qK M _ qjs [.tmp 2] [a0] (by kernel_rfl) H Q
def qyr (M:aA) (c:Ctx):=(ya M c).2.2.2.2.2.2.2.2.2.2.2.2.2.1
def qyq:=@qK M _ PT [.tmp 4,.tmp 5] [a0,a1] (by kernel_rfl) H Q
def qul (M:aA) (c:Ctx):=(ya M c).2.2.2.2.2.2.2.2.2.2.2.2.2.2.1
def quk:=@qK M _ P1 [.dB 8 4,.tmp 5] [a0,a1] (by kernel_rfl) H Q
def qhr (M:aA) (c:Ctx):=(ya M c).2.2.2.2.2.2.2.2.2.2.2.2.2.2.2.1
def qhq:=@qK M _ Pg [.tmp 4] [a0,a1] (by kernel_rfl) H Q
def qmw (M:aA) (c:Ctx):=(ya M c).2.2.2.2.2.2.2.2.2.2.2.2.2.2.2.2
def qmv:=@qK M _ vy [] [a0,a1] (by kernel_rfl) H Q
end
end Go.Am
namespace Go.Am
abbrev Nz:Nat:=25
abbrev GF:Nat:=43
abbrev Qc:Nat:=23
abbrev HU:Nat:=22
abbrev Ni:Nat:=24
abbrev HZ:Nat:=14
abbrev Ik:Nat:=26
abbrev Dm:Nat:=6
abbrev JO:Nat:=13
abbrev I6:Nat:=21
abbrev Mt:Nat:=16
abbrev Ix:Nat:=40
abbrev M9:Nat:=30
abbrev NM:Nat:=15
abbrev Pe:Nat:=5
abbrev P4:Nat:=20
abbrev zw:Nat:=9
abbrev OD:Nat:=31
abbrev Dq:Nat:=75
abbrev Cw:Nat:=69
abbrev Er:Nat:=61
abbrev vj:Nat:=43
abbrev vz:Nat:=60
abbrev KH:Nat:=35
noncomputable section
open Go.Proofs Go.Proofs.YtiibohocdbaekaaGreat
variable {M:aA} [MK M] {H:AHeap} {Q:bg->AHeap->Prop} {a0 a1 a2 a3 a4:AV}
abbrev O9:th:=[(15,⟨[0,1,2,4,5,6,7,8,9,10,11,12,13,37,38,60,61,62],false,[0,4,12,14,41,19,58,46,25,52,40,31,57,39]⟩,[]),(13,⟨[0,1,2,6,7,8,9,10],false,[0,4,12]⟩,[]),(21,⟨[0,1,2,3,8,9,10,11],false,[0,4,12]⟩,[]),(22,⟨[0,1,2,3,4,10,11,12,13,14],false,[0,4,12]⟩,[]),(23,⟨[0,1,4],false,[0]⟩,[]),(24,⟨[0,1,4],false,[0]⟩,[]),(25,⟨[0,1,2,5,6],false,[0]⟩,[]),(26,⟨[0,1,2,6,7,8,9],false,[0,4,12]⟩,[]),(14,⟨[0,1,4,5,6,7,8,11],false,[0,2,17,21,23,29]⟩,[]),(6,⟨[0,1,4,5],false,[0]⟩,[]),(5,⟨[0,1,2,4,5,6,7,8],false,[0,4,12]⟩,[(4,[0,2,4,6,14,8,10,12,16,18])]),(9,⟨[0,1,2,5,6,7,8,9,10,11,12,13,14,15,16,17,18,19,20,22,23,25],false,[0,4,104,13,29,40,127,109,18,35,45,59,66,115,24,50,71,93,126,125,78,84,87]⟩,[(13,[0,2,4,6,8,10,12,14,16,18,20,22,24,26,28,34,36,30,32,5,38,40])]),(36,⟨[0,1,2,5,6],false,[0,2,10]⟩,[]),(16,⟨[0,1,4,5],false,[0,2,17]⟩,[]),(30,⟨[0,1],false,[0]⟩,[]),(40,⟨[0,1,2,6,7,8],false,[0,4,12]⟩,[]),(43,⟨[0,1,3],false,[0]⟩,[]),(31,⟨[0,1,2,6,7],false,[0,4,12]⟩,[]),(20,⟨[0,1,2,6,7,8],false,[0,2,23,7,13,22]⟩,[])]
def P6 (n:Nat):Kp:=mD n O9
def Kx (n k:Nat):Kp × aj:=(P6 n,part (bW Tryz.prog n) k)
theorem qrb (n k:Nat):Kx n k=(P6 n,part (bW Tryz.prog n) k):=rfl
def wz:=@mr M _ Kx P6 qrb
attribute [local irreducible] PR Kx pG iW hO jV mG jH ra Dj sD CR A7 CK fD nE pQ rW rJ uP pD pW pj cw kQ cB AV.undef Op.move Op.pick Op.build Op.nilCheck Op.bin Op.eq Op.un Op.wrap Op.fg Op.gA Op.eN Op.cA Op.fh Op.aJ Op.fj Op.fieldAddr Op.field Op.aQ Op.bE Op.eT Op.cr Op.typeAssert Op.extract Op.fP Op.dC Op.qN Op.cap Op.jG Op.dY Op.eV Op.bM Op.cX Op.ae Op.aG Op.dk Op.lookup Op.jK Op.gB Op.alloc Op.box Op.buildSlice Op.mkMap Op.mkSlice Op.di Op.eW Op.makeNoZero Op.store Op.mapUpdate Op.dX Op.gO Op.append Op.copy Op.ct Op.ff Op.gv Op.fk
def wy (M:aA) (c:Ctx):=by
 have h:=qT qrb M c O9 (by kernel_rfl)
 conv at h=>arg 5;reduce
 delta PR RL pj jH pG iW ra mG nE hO jV fD pQ rJ pD sD rW ru O9 at h
 simp only [EU,DG,EI,EA,Int.reduceOfNat,Int.reduceNegSucc] at h;exact h
def q48 (M:aA) (c:Ctx):=(wy M c).1
def q47:=@wz M _ NM [.tmp 4,.tmp 5] [a0,a1] (by kernel_rfl) H Q
def qlw (M:aA) (c:Ctx):=(wy M c).2.1
def qlv:=@wz M _ JO [.tmp 6,.tmp 7,.tmp 8] [a0,a1,a2] (by kernel_rfl) H Q
def qkq (M:aA) (c:Ctx):=(wy M c).2.2.1
def qkp:=@wz M _ I6 [.tmp 8,.tmp 9] [a0,a1,a2,a3] (by kernel_rfl) H Q
def qms (M:aA) (c:Ctx):=(wy M c).2.2.2.1
def qmr:=@wz M _ HU [.tmp 10,.tmp 11,.tmp 12] [a0,a1,a2,a3,a4] (by kernel_rfl) H Q
def qko (M:aA) (c:Ctx):=(wy M c).2.2.2.2.1
def qkn:=@wz M _ Qc [.tmp 4] [a0,a1] (by kernel_rfl) H Q
def qjw (M:aA) (c:Ctx):=(wy M c).2.2.2.2.2.1
def qjv:=@wz M _ Ni [.tmp 4] [a0,a1] (by kernel_rfl) H Q
def qkm (M:aA) (c:Ctx):=(wy M c).2.2.2.2.2.2.1
def qkl:=@wz M _ Nz [.tmp 6] [a0,a1,a2] (by kernel_rfl) H Q
def qls (M:aA) (c:Ctx):=(wy M c).2.2.2.2.2.2.2.1
def qlr:=@wz M _ Ik [.tmp 6] [a0,a1,a2] (by kernel_rfl) H Q
def qii (M:aA) (c:Ctx):=(wy M c).2.2.2.2.2.2.2.2.1
def qih:=@wz M _ HZ [.dB 11 4,.tmp 5] [a0,a1] (by kernel_rfl) H Q
def qlu (M:aA) (c:Ctx):=(wy M c).2.2.2.2.2.2.2.2.2.1
def qlt:=@wz M _ Dm [.tmp 4] [a0,a1] (by kernel_rfl) H Q
def qwh (M:aA) (c:Ctx):=(wy M c).2.2.2.2.2.2.2.2.2.2.1
def qwg:=@wz M _ Pe [.tmp 4,.tmp 5,.tmp 6] [a0,a1] (by kernel_rfl) H Q
abbrev y8 (k:Nat):Kp × aj:=Kx zw k
def OU (M:aA) (c:Ctx):=(wy M c).2.2.2.2.2.2.2.2.2.2.2.1
def qnd:=@wz M _ zw [.tmp 6] [a0,a1,a2] (by kernel_rfl) H Q
def qxy (M:aA) (c:Ctx):=(wy M c).2.2.2.2.2.2.2.2.2.2.2.2.2.1
def qxx:=@wz M _ Mt [.tmp 4,.tmp 5] [a0,a1] (by kernel_rfl) H Q
def qt7 (M:aA) (c:Ctx):=(wy M c).2.2.2.2.2.2.2.2.2.2.2.2.2.2.1
def qt6:=@wz M _ M9 [] [a0,a1] (by kernel_rfl) H Q
def qly (M:aA) (c:Ctx):=(wy M c).2.2.2.2.2.2.2.2.2.2.2.2.2.2.2.1
def qlx:=@wz M _ Ix [.tmp 6] [a0,a1,a2] (by kernel_rfl) H Q
def qn3 (M:aA) (c:Ctx):=(wy M c).2.2.2.2.2.2.2.2.2.2.2.2.2.2.2.2.1
def qn2:=@wz M _ GF [.tmp 3] [a0,a1] (by kernel_rfl) H Q
def qjl (M:aA) (c:Ctx):=(wy M c).2.2.2.2.2.2.2.2.2.2.2.2.2.2.2.2.2.1
def qjk:=@wz M _ OD [.tmp 6] [a0,a1,a2] (by kernel_rfl) H Q
def qnc (M:aA) (c:Ctx):=(wy M c).2.2.2.2.2.2.2.2.2.2.2.2.2.2.2.2.2.2
def qnb:=@wz M _ P4 [.tmp 6,.tmp 7] [a0,a1,a2] (by kernel_rfl) H Q
end
end Go.Am
namespace Go.Am
abbrev qlo:Nat:=11
abbrev qic:Nat:=7
abbrev PM:Nat:=8
abbrev Qm:Nat:=19
noncomputable section
open Go.Proofs Go.Proofs.YtiibohocdbaekaaGreat
variable {M:aA} [MK M] {H:AHeap} {Q:bg->AHeap->Prop} {a0 a1:AV}
abbrev PW:th:=[(8,⟨[0,2],false,[0,2,10]⟩,[]),(7,⟨[0,1,4,5],false,[0]⟩,[]),(11,⟨[0,1,4,5],false,[0]⟩,[]),(19,⟨[0,2],false,[0,2,10]⟩,[])]
def MO (n:Nat):Kp:=mD n PW
def LX (n k:Nat):Kp × aj:=(MO n,part (bW Tryz.prog n) k)
theorem qrd (n k:Nat):LX n k=(MO n,part (bW Tryz.prog n) k):=rfl
def Lw:=@mr M _ LX MO qrd
attribute [local irreducible] PR LX pG iW hO jV mG jH ra Dj sD CR A7 CK fD nE pQ rW rJ uP pD pW pj cw kQ cB AV.undef Op.move Op.pick Op.build Op.nilCheck Op.bin Op.eq Op.un Op.wrap Op.fg Op.gA Op.eN Op.cA Op.fh Op.aJ Op.fj Op.fieldAddr Op.field Op.aQ Op.bE Op.eT Op.cr Op.typeAssert Op.extract Op.fP Op.dC Op.qN Op.cap Op.jG Op.dY Op.eV Op.bM Op.cX Op.ae Op.aG Op.dk Op.lookup Op.jK Op.gB Op.alloc Op.box Op.buildSlice Op.mkMap Op.mkSlice Op.di Op.eW Op.makeNoZero Op.store Op.mapUpdate Op.dX Op.gO Op.append Op.copy Op.ct Op.ff Op.gv Op.fk
def La (M:aA) (c:Ctx):=by
 have h:=qT qrd M c PW (by kernel_rfl)
 conv at h=>arg 5;reduce
 delta PR RL pj jH pG iW ra nE hO pQ pD rW PW at h
 simp only [EU,DG,EI,EA,Int.reduceOfNat,Int.reduceNegSucc] at h;exact h
def qpo (M:aA) (c:Ctx):=(La M c).1
def qpn:=@Lw M _ PM [.tmp 2] [a0] (by kernel_rfl) H Q
def qn5 (M:aA) (c:Ctx):=(La M c).2.1
def qn4:=@Lw M _ qic [.tmp 4] [a0,a1] (by kernel_rfl) H Q
def qt5 (M:aA) (c:Ctx):=(La M c).2.2.1
def qt4:=@Lw M _ qlo [.tmp 4] [a0,a1] (by kernel_rfl) H Q
def qj7 (M:aA) (c:Ctx):=(La M c).2.2.2
def qj6:=@Lw M _ Qm [.tmp 2] [a0] (by kernel_rfl) H Q
end
end Go.Am
namespace Go.Am
abbrev vi:Nat:=3
abbrev FX:Nat:=10
abbrev LU:Nat:=27
abbrev mU:Nat:=31
abbrev lg:Nat:=33
noncomputable section
open Go.Proofs Go.Proofs.YtiibohocdbaekaaGreat
variable {M:aA} [MK M] {H:AHeap} {Q:bg->AHeap->Prop} {a0 a1 a2 a3 a4:AV}
abbrev NC:th:=[(10,⟨[0,1,2,3,4,5,6,9,10,11,12,13],false,[0,4,6,12,31,17,70,45,23,57,30]⟩,[]),(3,⟨[0,1,2,4,5,6,7,8,9,10,11,12,13,14,15,16],false,[0,4,6,14,87,19,25,86,31,46,36,50,42,56,45,62,68,85,76]⟩,[]),(27,⟨[0,1,2,4,6,7,8],false,[0,4,23,9,15,22]⟩,[])]
def OG (n:Nat):Kp:=mD n NC
def HA (n k:Nat):Kp × aj:=(OG n,part (bW Tryz.prog n) k)
theorem qra (n k:Nat):HA n k=(OG n,part (bW Tryz.prog n) k):=rfl
def N1:=@mr M _ HA OG qra
attribute [local irreducible] PR HA pG iW hO jV mG jH ra Dj sD CR A7 CK fD nE pQ rW rJ uP pD pW pj cw kQ cB AV.undef Op.move Op.pick Op.build Op.nilCheck Op.bin Op.eq Op.un Op.wrap Op.fg Op.gA Op.eN Op.cA Op.fh Op.aJ Op.fj Op.fieldAddr Op.field Op.aQ Op.bE Op.eT Op.cr Op.typeAssert Op.extract Op.fP Op.dC Op.qN Op.cap Op.jG Op.dY Op.eV Op.bM Op.cX Op.ae Op.aG Op.dk Op.lookup Op.jK Op.gB Op.alloc Op.box Op.buildSlice Op.mkMap Op.mkSlice Op.di Op.eW Op.makeNoZero Op.store Op.mapUpdate Op.dX Op.gO Op.append Op.copy Op.ct Op.ff Op.gv Op.fk
def Qj (M:aA) (c:Ctx):=by
 have h:=qT qra M c NC (by kernel_rfl)
 conv at h=>arg 5;reduce
 delta PR RL pj jH pG iW ra nE hO jV fD pQ rJ pD rW ru NC at h
 simp only [EU,DG,EI,EA,Int.reduceOfNat,Int.reduceNegSucc] at h;exact h
abbrev qna (k:Nat):Kp × aj:=HA FX k
def qwj (M:aA) (c:Ctx):=(Qj M c).1
def qwi:=@N1 M _ FX [.tmp 10] [a0,a1,a2,a3,a4] (by kernel_rfl) H Q
abbrev P0 (k:Nat):Kp × aj:=HA vi k
def qiu (M:aA) (c:Ctx):=(Qj M c).2.1
def qon:=@N1 M _ vi [.tmp 4] [a0,a1] (by kernel_rfl) H Q
def qyl (M:aA) (c:Ctx):=(Qj M c).2.2
def qyk:=@N1 M _ LU [.tmp 6] [a0,a1,a2] (by kernel_rfl) H Q
end
end Go.Am
