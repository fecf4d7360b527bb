/- THE EVALUATOR. -/
import Derived.Test.YtjhjdlebhljcaaaGreatDoorAmDefs
namespace Go.Am

noncomputable section

def bindParams : T AV → List Nat → List AV → Option (T AV)
  | tm, [], [] => some tm
  | tm, p :: ps, v :: vs => bindParams (tm.set p v) ps vs
  | _, _, _ => none
def argsT : Nat → List AV → T AV → T AV
  | _, [], t => t
  | i, v :: vs, t => argsT (i + 1) vs (t.set i v)

def endOf : AExit → Option AJump
  | .exit id => some (.exit id)
  | .goto l => some (.goto l)
  | .ret => some .ret
  | _ => none
def exitOf : Option AJump → AExit
  | none => .normal
  | some (.exit id) => .exit id
  | some (.goto l) => .goto l
  | some .ret => .ret
def isNormal : AExit → Bool
  | .normal => true
  | _ => false

def restrict (tm : T AV) : List Nat → T AV → T AV
  | [], acc => acc
  | k :: ks, acc => restrict tm ks (acc.put k (tm.get k))

def forget : List Nat → T AV → T AV
  | [], t => t
  | d :: ds, t => forget ds (t.put d none)

def putD (dst : Option Nat) (v : AV) (tm : T AV) : T AV :=
  match dst with
  | some d => tm.set d v
  | none => tm
structure PutD where
  run : AV → T AV → T AV
def putDC : Option Nat → PutD
  | some d => ⟨fun v tm => (T.putC (T.path d)).run (some v) tm⟩
  | none => ⟨fun _ tm => tm⟩

abbrev Res := Option (AExit × St)

/-- loops: `body` is one round -/
def loopN (keep : Option (List Nat)) (body : St → Res) : Nat → St → Res
  | 0, _ => none
  | n + 1, st =>
    (body (match keep with | none => st | some ks => { st with tm := restrict st.tm ks .nil })).bind fun r => match r.1 with
      | .normal => loopN keep body n r.2
      | e => some (e, r.2)

/-- a jump's place in a scope -/
def hasLabel : ACode → Nat → Bool
  | .seq a b, l => hasLabel a l || hasLabel b l
  | .label l', l => Nat.beq l' l
  | _, _ => false

mutual
def sameV : AV → AV → Bool
  | .bool a, .bool b => a == b
  | .int k a, .int k' b => eqK k k' && eqI a b
  | .str a, .str b => eqS a b
  | .nilp, .nilp => true
  | .ptr a b, .ptr c d => Nat.beq a c && Nat.beq b d
  | .nils, .nils => true
  | .slice a b c d, .slice a' b' c' d' => Nat.beq a a' && Nat.beq b b' && Nat.beq c c' && Nat.beq d d'
  | .gslice a b c d e f, .gslice a' b' c' d' e' f' => Nat.beq a a' && Nat.beq b b' && Nat.beq c c' && Nat.beq d d' && Nat.beq e e' && Nat.beq f f'
  | .eslice a, .eslice b => Nat.beq a b
  | .nilm, .nilm => true
  | .map a, .map b => Nat.beq a b
  | .nilf, .nilf => true
  | .nili, .nili => true
  | .fn (.func f) x a, .fn (.func g) y b => Nat.beq f g && sameL x y && sameL a b
  | .fn (.yield f) x a, .fn (.yield g) y b => Nat.beq f g && sameL x y && sameL a b
  | .iface t a, .iface u b => Nat.beq t u && sameV a b
  | .agg a, .agg b => sameL a b
  | .tuple a, .tuple b => sameL a b
  | _, _ => false
def sameL : List AV → List AV → Bool
  | [], [] => true
  | x :: xs, y :: ys => sameV x y && sameL xs ys
  | _, _ => false
end

abbrev RoundFn := List AV → Nat → AHeap → Option (AEnd × AHeap)

structure RT where
  AP : AProg
  call : CallFn
  round : RoundFn
  n : Nat
  ctx : Ctx

def enterA (call : CallFn) (round : RoundFn) (f : AFn) (args : List AV) (H : AHeap) : Option (AEnd × AHeap) :=
  match f with
  | .func g => (call g args none H).bind fun r => some (r.1, r.2.2)
  | .yield l => round args l H

/-- what a step that calls comes to -/
def stepEnd (put : AV → T AV → T AV) (psafe : Option (List Nat)) (st : St) (k : St → Res) (r : AEnd × AHeap) : Res :=
  match r.1 with
  | .ret v => k ⟨put v st.tm, st.dfs, st.up, r.2⟩
  | .panic c => psafe.bind fun ds => some (.panic c, ⟨forget ds st.tm, st.dfs, st.up, r.2⟩)

def recoverA (put : AV → T AV → T AV) (st : St) : St :=
  match st.up with
  | some ((v, false) :: older) => ⟨put v st.tm, st.dfs, some ((v, true) :: older), st.H⟩
  | _ => ⟨put .nili st.tm, st.dfs, st.up, st.H⟩

def kPure (f : List AV → Option AV) (put : AV → T AV → T AV) (st : St) (k : St → Res) (vs : List AV) : Res :=
  (f vs).bind fun v => k ⟨put v st.tm, st.dfs, st.up, st.H⟩
def kRead (f : List AV → AHeap → Option AV) (put : AV → T AV → T AV) (st : St) (k : St → Res) (vs : List AV) : Res :=
  (f vs st.H).bind fun v => k ⟨put v st.tm, st.dfs, st.up, st.H⟩
def kAlloc (f : List AV → Option (AObj × (Nat → AV))) (put : AV → T AV → T AV) (st : St) (k : St → Res) (vs : List AV) : Res :=
  (f vs).bind fun r => k ⟨put (r.2 st.H.next) st.tm, st.dfs, st.up, st.H.alloc r.1⟩
def kEff (f : List AV → AHeap → Option (AV × AHeap)) (put : AV → T AV → T AV) (st : St) (k : St → Res) (vs : List AV) : Res :=
  (f vs st.H).bind fun r => k ⟨put r.1 st.tm, st.dfs, st.up, r.2⟩
def kCallF (f : Nat) (rt : RT) (put : AV → T AV → T AV) (psafe : Option (List Nat)) (st : St) (k : St → Res) (vs : List AV) : Res :=
  (enterA rt.call rt.round (.func f) vs st.H).bind fun r => stepEnd put psafe st k r
def kCallV (rt : RT) (put : AV → T AV → T AV) (psafe : Option (List Nat)) (st : St) (k : St → Res) (vs : List AV) : Res :=
  match vs with
  | .fn (.func f) first cap :: args => (enterA rt.call rt.round (.func f) (first ++ (args ++ cap)) st.H).bind fun r => stepEnd put psafe st k r
  | .fn (.yield l) first [] :: args => (enterA rt.call rt.round (.yield l) (first ++ args) st.H).bind fun r => stepEnd put psafe st k r
  | _ => none
def kInvoke (name : String) (rt : RT) (put : AV → T AV → T AV) (psafe : Option (List Nat)) (st : St) (k : St → Res) (vs : List AV) : Res :=
  match vs with
  | .iface t v :: args => (rt.AP.meth t name).bind fun f => (enterA rt.call rt.round (.func f) (v :: args) st.H).bind fun r => stepEnd put psafe st k r
  | _ => none
def kRecover (rt : RT) (put : AV → T AV → T AV) (st : St) (k : St → Res) (vs : List AV) : Res :=
  match rt.ctx.round with
  | some _ => none
  | none => match vs with
    | [] => k (recoverA put st)
    | _ => none
def kDefer (rt : RT) (put : AV → T AV → T AV) (st : St) (k : St → Res) (vs : List AV) : Res :=
  match rt.ctx.round with
  | some _ => none
  | none => match vs with
    | .fn (.func f) first cap :: args => k ⟨put .undef st.tm, .fn (.func f) (first ++ (args ++ cap)) :: st.dfs, st.up, st.H⟩
    | _ => none
def kPanic (put : AV → T AV → T AV) (psafe : Option (List Nat)) (st : St) (k : St → Res) (vs : List AV) : Res :=
  match vs with
  | [.iface t v] => stepEnd put psafe st k (.panic [(.iface t v, false)], st.H)
  | _ => none

/-- one step's operation on its operands' values -/
structure OpC where
  run : RT → St → (St → Res) → List AV → Res
def opC (put : AV → T AV → T AV) (psafe : Option (List Nat)) : AOp → OpC
  | .pure f => ⟨fun _ st k vs => kPure f put st k vs⟩
  | .read f => ⟨fun _ st k vs => kRead f put st k vs⟩
  | .alloc f => ⟨fun _ st k vs => kAlloc f put st k vs⟩
  | .eff f => ⟨fun _ st k vs => kEff f put st k vs⟩
  | .callF f => ⟨fun rt st k vs => kCallF f rt put psafe st k vs⟩
  | .callV => ⟨fun rt st k vs => kCallV rt put psafe st k vs⟩
  | .invoke name => ⟨fun rt st k vs => kInvoke name rt put psafe st k vs⟩
  | .recover => ⟨fun rt st k vs => kRecover rt put st k vs⟩
  | .defer => ⟨fun rt st k vs => kDefer rt put st k vs⟩
  | .panic => ⟨fun _ st k vs => kPanic put psafe st k vs⟩

def chkOp (get : T AV → Option AV) (st : St) (vs : List AV) : AOp → Bool
  | .read f => match f vs st.H, get st.tm with
    | some v, some v' => sameV v v'
    | _, _ => false
  | _ => false

/-- is the step wanted? -/
def wantV (b : Bool) : Option AV → Option Bool
  | some (.bool q) => some (cond q b (!b))
  | some (.tuple []) => some false
  | _ => none

structure StepC where
  run : RT → (St → Res) → St → Res
def stepC (s : AStep) : StepC :=
  match s.chk with
  | false => match s.guard with
    | none => ⟨fun rt k st => ((evLC s.args).run st.tm).bind fun vs => (opC (putDC s.dst).run s.psafe s.op).run rt st k vs⟩
    | some g => ⟨fun rt k st => (wantV g.2 ((T.getC (T.path g.1)).run st.tm)).bind fun w =>
        cond w (((evLC s.args).run st.tm).bind fun vs => (opC (putDC s.dst).run s.psafe s.op).run rt st k vs) (k ⟨(putDC s.dst).run .undef st.tm, st.dfs, st.up, st.H⟩)⟩
  | true => match s.guard, s.dst with
    | none, some d => ⟨fun _ k st => ((evLC s.args).run st.tm).bind fun vs => cond (chkOp (T.getC (T.path d)).run st vs s.op) (k st) none⟩
    | some g, some d => ⟨fun _ k st => (wantV g.2 ((T.getC (T.path g.1)).run st.tm)).bind fun w =>
        cond w (((evLC s.args).run st.tm).bind fun vs => cond (chkOp (T.getC (T.path d)).run st vs s.op) (k st) none) (k st)⟩
    | _, none => ⟨fun _ _ _ => none⟩

structure CodeC where
  run : RT → St → Res
def stepsC : List AStep → CodeC
  | [] => ⟨fun _ st => some (.normal, st)⟩
  | s :: rest => ⟨fun rt st => (stepC s).run rt ((stepsC rest).run rt) st⟩

def setLoop (H : AHeap) (l : Nat) (s : LState) (p : Option AJump) : Option AHeap :=
  match H.get l with
  | some (.loop _ _ f k tm d) => some (H.set l (.loop s p f k tm d))
  | _ => none

def loopD (H : AHeap) (l : Nat) : Option Nat :=
  match H.get l with
  | some (.loop _ _ _ _ _ d) => some d
  | _ => none

/-- behind a loop over a function -/
def endLoopA (st : St) (dfs : List ADef) (l : Nat) (e : AEnd) (H : AHeap) : Res :=
  match e with
  | .panic c => some (.panic c, { st with dfs := dfs, H := H })
  | .ret _ => match H.get l with
    | some (.loop .busy _ _ _ _ _) => none
    | some (.loop _ p f k tm d) => some (exitOf p, { st with dfs := dfs, H := H.set l (.loop .exhausted p f k tm d) })
    | _ => none

def rangeA (call : CallFn) (round : RoundFn) (ctx : Ctx) (st : St) (k : Nat) (H0 : AHeap) (dfs : List ADef) (d : Nat) : AV → Res
  | .fn (.func g) first cap =>
    (enterA call round (.func g) (first ++ (.fn (.yield H0.next) [] [] :: cap)) (H0.alloc (.loop .ready none ctx.fn k st.tm d))).bind fun r =>
      endLoopA st dfs H0.next r.1 r.2
  | _ => none

def seqK (next : RT → St → Res) (rt : RT) (r : AExit × St) : Res :=
  match r.1 with
  | .normal => next rt r.2
  | e => some (e, r.2)
def condK (a b : RT → St → Res) (rt : RT) (st : St) (v : AV) : Res :=
  match v with
  | .bool q => cond q (a rt st) (b rt st)
  | _ => none
def blockK (id : Nat) (r : AExit × St) : Res :=
  match r.1 with
  | .exit id' => some (cond (Nat.beq id id') .normal (.exit id'), r.2)
  | e => some (e, r.2)
def scopeK (b : ACode) (r : AExit × St) : Res :=
  match r.1 with
  | .goto l => cond (hasLabel b l) none (some (.goto l, r.2))
  | e => some (e, r.2)
def rangeK (rt : RT) (k : Nat) (st : St) (v : AV) : Res :=
  match rt.ctx.round with
  | none => rangeA rt.call rt.round rt.ctx st k (st.H.alloc (.deferred (some []))) (.coll st.H.next :: st.dfs) st.H.next v
  | some l => (loopD st.H l).bind fun d => rangeA rt.call rt.round rt.ctx st k st.H st.dfs d v

/-- code; `ctx.round`: the loop of which this is a round -/
def codeC : ACode → CodeC
  | .skip => ⟨fun _ st => some (.normal, st)⟩
  | .label _ => ⟨fun _ st => some (.normal, st)⟩
  | .region steps => stepsC steps
  | .seq a b => ⟨fun rt st => ((codeC a).run rt st).bind (seqK (codeC b).run rt)⟩
  | .cond c a b => ⟨fun rt st => ((evC c).run st.tm).bind (condK (codeC a).run (codeC b).run rt st)⟩
  | .block id b => ⟨fun rt st => ((codeC b).run rt st).bind (blockK id)⟩
  | .loop keep b => ⟨fun rt st => loopN keep ((codeC b).run rt) rt.n st⟩
  | .exit id => ⟨fun _ st => some (.exit id, st)⟩
  | .goto l => ⟨fun _ st => some (.goto l, st)⟩
  | .ret => ⟨fun _ st => some (.ret, st)⟩
  | .stuck => ⟨fun _ _ => none⟩
  | .scope b => ⟨fun rt st => ((codeC b).run rt st).bind (scopeK b)⟩
  | .rangeFunc f k => ⟨fun rt st => ((evC f).run st.tm).bind (rangeK rt k st)⟩

def exec (AP : AProg) (call : CallFn) (round : RoundFn) (n : Nat) (ctx : Ctx) (c : ACode) (st : St) : Res := (codeC c).run ⟨AP, call, round, n, ctx⟩ st

/-- behind a round's body -/
def roundEnd (l : Nat) (r : AExit × St) : Option (AEnd × AHeap) :=
  match r.1 with
  | .panic c => some (.panic c, r.2.H)
  | e => (setLoop r.2.H l (cond (isNormal e) .ready .done) (endOf e)).bind fun H => some (.ret (.bool (isNormal e)), H)

def beginRound (H : AHeap) (l : Nat) : Option AHeap :=
  match H.get l with
  | some (.loop .ready p f k tm d) => some (H.set l (.loop .busy p f k tm d))
  | _ => none

/-- a round of a loop -/
def roundOf (AP : AProg) (ex : Ctx → ACode → St → Res) (args : List AV) (l : Nat) (H : AHeap) : Option (AEnd × AHeap) :=
  match H.get l with
  | some (.loop _ _ f k tm _) =>
    (AP.func f).bind fun fn => (nth fn.loops k).bind fun lp => (bindParams tm lp.params args).bind fun tm1 =>
    (ex ⟨some l, f⟩ lp.assign { tm := tm1, dfs := [], up := none, H := H }).bind fun r => match r.1 with
      | .normal => (beginRound r.2.H l).bind fun H2 => (ex ⟨some l, f⟩ lp.body { r.2 with H := H2 }).bind fun q => cond (noDefs q.2.dfs) (roundEnd l q) none
      | _ => none
  | _ => none
  where noDefs : List ADef → Bool
  | [] => true
  | _ => false

def readRes1 (H : AHeap) (tm : T AV) : ARes → Option AV
  | .tmp t => tm.get t
  | .cell1 a => (tm.get a).bind fun v => match v with | .ptr b o => H.load1 b o | _ => none
  | .cellN n a => (tm.get a).bind fun v => match v with | .ptr b o => (H.loadN b o n).bind fun l => some (.agg l) | _ => none
def readRes (H : AHeap) (tm : T AV) : List ARes → Option (List AV)
  | [] => some []
  | r :: rs => (readRes1 H tm r).bind fun v => (readRes H tm rs).bind fun vs => some (v :: vs)
def tupled : List AV → AV
  | [v] => v
  | l => .tuple l

/-- a frame's mode behind a deferred call that came back -/
def settleA (m : Option Chain) (up : Chain) : Option (Option Chain) :=
  match m, up with
  | none, [] => some none
  | some _, (_, true) :: _ => some none
  | some _, (v, false) :: c => some (some ((v, false) :: c))
  | _, _ => none

/-- what deferred calls do behind a body: `m`: the chain, if it panics -/
def unwindA (call : CallFn) (rs : List ARes) (tm : T AV) : List ADef → Option Chain → AHeap → Option (AEnd × AHeap)
  | [], none, H => (readRes H tm rs).bind fun l => some (.ret (tupled l), H)
  | [], some c, H => some (.panic c, H)
  | .coll b :: ds, m, H => match H.get b with
    | some (.deferred (some [])) => unwindA call rs tm ds m (H.set b (.deferred none))
    | _ => none
  | .fn (.func f) args :: ds, m, H => (call f args (some (m.getD [])) H).bind fun r =>
    match r.1, r.2.1 with
    | .ret _, some up' => (settleA m up').bind fun m' => unwindA call rs tm ds m' r.2.2
    | _, _ => none
  | .fn (.yield _) _ :: _, _, _ => none

def endCall (call : CallFn) (fn : AFunc) (r : AExit × St) : Option (AEnd × Option Chain × AHeap) :=
  let fin (m : Option Chain) : Option (AEnd × Option Chain × AHeap) := (unwindA call fn.results r.2.tm r.2.dfs m r.2.H).bind fun q => some (q.1, r.2.up, q.2)
  match r.1 with
  | .normal => fin none
  | .ret => fin none
  | .panic c => fin (some c)
  | _ => none

/-- rounds of loops, nested so deep -/
def rounds (AP : AProg) (call : CallFn) (m : Nat) : Nat → RoundFn
  | 0 => fun _ _ _ => none
  | n + 1 => roundOf AP (exec AP call (rounds AP call m n) m)

/-- a call, by what calls come to -/
def stepCall (AP : AProg) (call : CallFn) (n : Nat) : CallFn := fun f args up H =>
  (AP.func f).bind fun fn =>
    (exec AP call (rounds AP call n n) n ⟨none, f⟩ fn.body { tm := argsT 0 args .nil, dfs := [], up := up, H := H }).bind fun r =>
      endCall call fn r

/-- a call, by fuel -/
def acall (AP : AProg) : Nat → CallFn
  | 0 => fun _ _ _ _ => none
  | n + 1 => stepCall AP (acall AP n) n

/-- the same, where some calls are told -/
def acallT (AP : AProg) (told : CallFn) : Nat → CallFn
  | 0 => told
  | n + 1 => fun f args up H => match told f args up H with
    | some r => some r
    | none => stepCall AP (acallT AP told n) n f args up H

end
end Go.Am
