/- THE COMPILER: from the model's code to the abstract machine's. -/
import Derived.Test.YtjhjdlebhljcaaaGreatDoorAmExec
namespace Go.Am

noncomputable section

mutual
def toAV : Value → Option AV
  | .bool b => some (.bool b)
  | .int k n => some (.int k n)
  | .string s => some (.str s.data.toList)
  | .pointer none => some .nilp
  | .slice none 0 0 => some .nils
  | .map none => some .nilm
  | .nilFunc => some .nilf
  | .nilIface => some .nili
  | .iface t v => (toAV v).bind fun x => some (.iface t x)
  | .agg cs => (toAVs cs.toList).bind fun l => some (.agg l)
  | .tuple cs => (toAVs cs.toList).bind fun l => some (.tuple l)
  | _ => none
def toAVs : List Value → Option (List AV)
  | [] => some []
  | v :: vs => (toAV v).bind fun x => (toAVs vs).bind fun xs => some (x :: xs)
end

def cOpd (G : Nat) : Operand → Option AOpd
  | .tmp t => some (.tmp t)
  | .const v => (toAV v).bind fun x => some (.const x)
  | .global g => if Nat.blt g G then some (.glob g) else none
  | .func f => some (.func f)
def cOpds (G : Nat) : List Operand → Option (List AOpd)
  | [] => some []
  | x :: xs => (cOpd G x).bind fun y => (cOpds G xs).bind fun ys => some (y :: ys)
def zeroOf (P : Program) (t : TypeId) : Option AV := ((P.info? t).bind (·.zero)).bind toAV
def sizeT (P : Program) (t : TypeId) : Option Nat := (P.info? t).bind fun i => some i.size
def bytesT (P : Program) (t : TypeId) : Option Nat := (P.info? t).bind fun i => some i.bytes
def aggN (P : Program) (t : TypeId) : Option (Option Nat) :=
  match P.underlying t with
  | some (.struct _) | some (.array _ _) => (sizeT P t).bind fun n => some (some n)
  | some _ => some none
  | none => none
/-- how two values of the type are held against one another -/
def treeT (P : Program) : Nat → TypeId → Option EqTree
  | 0, _ => none
  | d + 1, t => match P.underlying t with
    | some (.int _) => some .int
    | some .string => some .str
    | some .bool => some .bool
    | some (.struct fs) => if P.stoodInHeld t then none else fieldsT (treeT P d) fs.toList
    | some (.array n e) => (sizeT P e).bind fun s => (aggN P e).bind fun a => (treeT P d e).bind fun q => some (itemsT s a q n 0)
    | _ => none
  where
  fieldsT (go : TypeId → Option EqTree) : List Field → Option EqTree
    | [] => some .nil
    | f :: fs => if f.name = "_" then none else (aggN P f.type).bind fun a => (go f.type).bind fun q => (fieldsT go fs).bind fun r => some (.part f.offset a q r)
  itemsT (s : Nat) (a : Option Nat) (q : EqTree) : Nat → Nat → EqTree
    | 0, _ => .nil
    | n + 1, i => .part (i * s) a q (itemsT s a q n (i + 1))
def keyT (P : Program) (t : TypeId) : Option EqTree := treeT P 20 t

/-- the places of optional operands in the list of those that are there -/
def optIdx : Nat → List (Option Operand) → List (Option Nat)
  | _, [] => []
  | n, none :: r => none :: optIdx n r
  | n, some _ :: r => some n :: optIdx (n + 1) r
def optOps : List (Option Operand) → List Operand
  | [] => []
  | none :: r => optOps r
  | some x :: r => x :: optOps r

def placesOf (pl : Nat → Option (Nat × Nat)) : List (Nat × Operand) → Option (List (Nat × Nat))
  | [] => some []
  | (i, _) :: r => (pl i).bind fun p => (placesOf pl r).bind fun l => some (p :: l)
def structPlace (P : Program) (fs : Array Field) (i : Nat) : Option (Nat × Nat) := (fs[i]?).bind fun f => (sizeT P f.type).bind fun n => some (f.offset, n)
def arrPlace (n : Nat) (i : Nat) : Option (Nat × Nat) := some (i * n, n)

def liesB (P : Program) (u : TypeId) (e n o : Nat) : Bool :=
  match sizeT P u with
  | some (_ + 1) => Nat.blt o n && liesAt P P.depth e (n / P.cellsOf e) o u 1
  | _ => false

/-- an operation: its operands, and what it does -/
def cBuiltin (P : Program) (b : Builtin) (ts : Array TypeId) (args : List Operand) : Option (List Operand × AOp) :=
  match b with
  | .len => match (ts[0]?).bind P.underlying with
    | some .string => some (args, .pure Op.lenStr)
    | some (.slice _) => some (args, .pure Op.lenSl)
    | some (.array n _) => some (args, .pure (Op.lenC n))
    | some (.pointer a) => match P.underlying a with
      | some (.array n _) => some (args, .pure (Op.lenC n))
      | _ => none
    | some (.map _ _) => some (args, .read Op.lenMap)
    | _ => none
  | .cap => match (ts[0]?).bind P.underlying with
    | some (.slice _) => some (args, .pure Op.cap)
    | _ => none
  | .append => match ts.toList with
    | [t, tx] => match P.underlying t, P.underlying tx with
      | some (.slice e), some (.slice _) => (sizeT P e).bind fun n => (bytesT P e).bind fun z => (zeroOf P e).bind fun zv => if zv.cells.length = n then some (args, .eff (Op.append e n z)) else none
      | some (.slice e), some .string => (sizeT P e).bind fun n => (bytesT P e).bind fun z => (zeroOf P e).bind fun zv => if zv.cells.length = n then some (args, .eff (Op.append e n z)) else none
      | _, _ => none
    | _ => none
  | .copy => match (ts[0]?).bind P.underlying with
    | some (.slice e) => (sizeT P e).bind fun n => some (args, .eff (Op.copy n))
    | _ => none
  | .min => some (args, .pure (Op.minmax false))
  | .max => some (args, .pure (Op.minmax true))
  | .delete => match (ts[0]?).bind P.underlying with
    | some (.map kt _) => (keyT P kt).bind fun key => some (args, .eff (Op.mapDelete key))
    | _ => none
  | .clear => match (ts[0]?).bind P.underlying with
    | some (.slice e) => (zeroOf P e).bind fun z => some (args, .eff (Op.clearSl z.cells))
    | some (.map _ _) => some (args, .eff Op.clearMap)
    | _ => none
  | .recover => some (args, .recover)
  | .unsafeSliceData => some (args, .pure Op.sliceData)
  | .unsafeString => match (ts[0]?).bind P.underlying with
    | some (.pointer u) => match sizeT P u with
      | some 1 => some (args, .eff (Op.strOfPtr u))
      | _ => none
    | _ => none
  | .panic => some (args, .panic)
  | _ => none

def cExt (P : Program) (fn : Func) (args : List Operand) : Option (List Operand × AOp) :=
  if fn.origin != "" then none
  else if fn.name == "internal/bytealg.IndexByteString" then some (args, .pure Op.indexByteString)
  else if fn.name == "internal/bytealg.CountString" then some (args, .pure Op.countString)
  else if fn.name == "internal/abi.NoEscape" then some (args, .pure Op.noEscape)
  else if fn.name == "internal/bytealg.MakeNoZero" then (fn.resultTypes[0]?).bind fun t => match P.underlying t with
    | some (.slice e) => some (args, .alloc (Op.makeNoZero e))
    | _ => none
  else none

def cConv (P : Program) (src dst : TypeId) (x : Operand) : Option (List Operand × AOp) :=
  match P.underlying src, P.underlying dst with
  | some (.int _), some (.int k) => some ([x], .pure (Op.wrap k))
  | some (.int _), some .string => some ([x], .pure Op.strOfInt)
  | some .string, some .string => some ([x], .pure Op.sameStr)
  | some (.slice e), some .string => match P.underlying e with
    | some (.int .u8) => some ([x], .read Op.strOfBytes)
    | _ => none
  | some (.pointer u), some .unsafePointer => some ([x], .read (Op.castPtr (liesB P u)))
  | some .unsafePointer, some (.pointer u) => some ([x], .read (Op.castPtr (liesB P u)))
  | some .string, some (.slice e) => match P.underlying e with
    | some (.int .u8) => some ([x], .alloc (Op.bytesOfStr e))
    | _ => none
  | some (.slice _), some (.slice e) => match P.underlying e with
    | some (.int .u8) => if src == dst then some ([x], .eff Op.markStr) else none
    | _ => none
  | _, _ => none

/-- what '==' goes by at a type -/
def eqTy (P : Program) (t : TypeId) (x y : Operand) : Option EqTy :=
  match P.underlying t with
  | some .bool => some .bool
  | some (.pointer e) => match sizeT P e with
    | some (_ + 1) => some .ptr
    | _ => none
  | some (.slice _) => some .slice
  | some (.map _ _) => some .map
  | some (.func _ _ _) => some .func
  | some (.interface _) => match x, y with
    | .const .nilIface, _ => some .iface
    | _, .const .nilIface => some .iface
    | _, _ => some (.ifaces fun u => (P.info? u).bind fun i => if i.comparable then treeT P 20 u else none)
  | some (.struct _) => if P.eqGuardType P.depth t then none else (treeT P 20 t).bind fun q => some (.agg q)
  | some (.array _ _) => if P.eqGuardType P.depth t then none else (treeT P 20 t).bind fun q => some (.agg q)
  | _ => none

def cBin (P : Program) (op : BinOp) (t : TypeId) (x y : Operand) : Option (List Operand × AOp) :=
  match P.underlying t with
  | some (.int _) => some ([x, y], .pure (Op.bin op))
  | some .string => some ([x, y], .pure (Op.bin op))
  | _ => match op with
    | .eql => (eqTy P t x y).bind fun k => some ([x, y], .read (Op.eq k false))
    | .neq => (eqTy P t x y).bind fun k => some ([x, y], .read (Op.eq k true))
    | _ => none

def cCall (P : Program) (c : Call) : Option (List Operand × AOp) :=
  match c.callee with
  | .value (.func f) => (P.funcs[f]?).bind fun fn =>
    match fn.body with
    | some _ => some (c.args.toList, .callF f)
    | none => cExt P fn c.args.toList
  | .value f => some (f :: c.args.toList, .callV)
  | .invoke r m => some (r :: c.args.toList, .invoke m)
  | .builtin b => cBuiltin P b c.argTypes c.args.toList

def cOp (P : Program) (op : Go.Op) : Option (List Operand × AOp) :=
  match op with
  | .move x => some ([x], .pure Op.move)
  | .assign x => some ([x], .pure Op.move)
  | .pick c a b => some ([c, a, b], .pure Op.pick)
  | .alloc e => (zeroOf P e).bind fun z => some ([], .alloc (Op.alloc e z.cells))
  | .box e x => some ([x], .alloc (Op.box e))
  | .build t parts => (zeroOf P t).bind fun z =>
    match P.underlying t with
    | some (.struct fs) => if fs.all (fun f => (sizeT P f.type).isSome) then (placesOf (structPlace P fs) parts.toList).bind fun ps => some (parts.toList.map (·.2), .pure (Op.build z.cells ps)) else none
    | some (.array _ e) => (sizeT P e).bind fun n => (placesOf (arrPlace n) parts.toList).bind fun ps => some (parts.toList.map (·.2), .pure (Op.build z.cells ps))
    | _ => none
  | .buildSlice t len parts =>
    match P.underlying t with
    | some (.slice e) => (sizeT P e).bind fun n => (zeroOf P e).bind fun z => (placesOf (arrPlace n) parts.toList).bind fun ps => if z.cells.length = n ∧ len * n ≤ 16777216 then some (parts.toList.map (·.2), .alloc (Op.buildSlice e len z.cells ps)) else none
    | _ => none
  | .load t a => (aggN P t).bind fun r => match r with
    | none => some ([a], .read Op.load1)
    | some n => some ([a], .read (Op.loadN n))
  | .store t a x => (sizeT P t).bind fun n => some ([a, x], .eff (Op.store n))
  | .nilCheck x => some ([x], .pure Op.nilCheck)
  | .binOp op t x y _ => cBin P op t x y
  | .unOp op _ x => some ([x], .pure (Op.un op))
  | .convert src dst x => cConv P src dst x
  | .makeInterface t x => match P.underlying t with
    | some (.interface _) => none
    | some _ => some ([x], .pure (Op.mkIface t))
    | none => none
  | .makeFunc (.func f) a b => some (a.toList ++ b.toList, .pure (Op.mkFunc f a.size))
  | .makeMap _ none => some ([], .alloc Op.mkMap)
  | .makeMap t (some (.const (.int _ _))) => match P.underlying t with
    | some (.map _ _) => some ([], .alloc Op.mkMap)
    | _ => none
  | .makeSlice t l c =>
    match P.underlying t with
    | some (.slice e) => (bytesT P e).bind fun b => (zeroOf P e).bind fun z => (sizeT P e).bind fun n => if z.cells.length = n then some ([l, c], .alloc (Op.mkSlice e b z.cells)) else none
    | _ => none
  | .slice t x lo hi mx =>
    match P.underlying t with
    | some .string => match mx with
      | none => some (x :: optOps [lo, hi], .pure (Op.sliceStr (optIdx 0 [lo, hi])))
      | some _ => none
    | some (.slice e) => (sizeT P e).bind fun n => some (x :: optOps [lo, hi, mx], .pure (Op.sliceSl n (optIdx 0 [lo, hi, mx])))
    | some (.array k e) => (sizeT P e).bind fun n => some (x :: optOps [lo, hi, mx], .pure (Op.sliceArr k n (optIdx 0 [lo, hi, mx])))
    | _ => none
  | .fieldAddr t x i =>
    match P.underlying t with
    | some (.struct fs) => (fs[i]?).bind fun f => (sizeT P f.type).bind fun n => if n == 0 then none else some ([x], .pure (Op.fieldAddr f.offset))
    | _ => none
  | .field t x i =>
    match P.underlying t with
    | some (.struct fs) => (fs[i]?).bind fun f => (aggN P f.type).bind fun n => some ([x], .pure (Op.field f.offset n))
    | _ => none
  | .indexAddr t x i =>
    match P.underlying t with
    | some (.slice e) => (sizeT P e).bind fun n => some ([x, i], .pure (Op.indexSl n))
    | some (.array k e) => (sizeT P e).bind fun n => some ([x, i], .pure (Op.indexArr k n))
    | _ => none
  | .index t x i =>
    match P.underlying t with
    | some .string => some ([x, i], .pure Op.indexStr)
    | some (.array k e) => (sizeT P e).bind fun n => (aggN P e).bind fun a => some ([x, i], .pure (Op.indexAgg k n a))
    | _ => none
  | .lookup t m k ok =>
    match P.underlying t with
    | some (.map kt e) => (keyT P kt).bind fun key => (zeroOf P e).bind fun z => some ([m, k], .read (Op.lookup key z ok))
    | _ => none
  | .mapUpdate t m k v =>
    match P.underlying t with
    | some (.map kt _) => (keyT P kt).bind fun key => some ([m, k, v], .eff (Op.mapUpdate key))
    | _ => none
  | .insert t m k v =>
    match P.underlying t with
    | some (.map kt _) => (keyT P kt).bind fun key => some ([m, k, v], .eff (Op.mapUpdate key))
    | _ => none
  | .range t x => match P.underlying t with
    | some .string => some ([x], .alloc Op.rangeStr)
    | _ => none
  | .next it true => some ([it], .eff Op.nextStr)
  | .typeAssert x _ t ok => match P.underlying t with
    | some (.interface _) => none
    | some _ => (zeroOf P t).bind fun z => some ([x], .pure (Op.typeAssert t ok z))
    | none => none
  | .extract x i => some ([x], .pure (Op.extract i))
  | .call c => cCall P c
  | .defer c => match c.callee with
    | .value f => some (f :: c.args.toList, .defer)
    | _ => none
  | .panic x => some ([x], .panic)
  | _ => none

def cOper (P : Program) (o : Oper) : Option (List AOpd × AOp) :=
  match (cOp P o.op).bind fun r => (cOpds P.globals.size r.1).bind fun args => some (args, r.2) with
  | some r => some r
  | none => some ([], .pure Op.fail)

/-! ### classes of operations, and the plan of a region that draws its order -/
inductive Cls where
  | pure | read | alloc | eff
  deriving DecidableEq

def clsOf : AOp → Cls
  | .pure _ => .pure
  | .read _ => .read
  | .alloc _ => .alloc
  | _ => .eff

/-- the plan: all that is ready and no allocation or effect, as it comes; then an allocation that the next effect waits for; then the effect; then what is to be looked at again -/
def planGo (cls : Nat → Cls) (anc : Nat → Nat) (n : Nat) : Nat → Nat → List (Bool × Nat) → List (Bool × Nat)
  | 0, _, acc => acc.reverse
  | fuel + 1, done, acc =>
    let ready (i : Nat) : Bool := !done.testBit i && (anc i &&& done) == anc i
    let todo := (List.range n).filter fun i => !done.testBit i
    match todo.find? (fun i => ready i && (cls i == .pure || cls i == .read)) with
    | some i => planGo cls anc n fuel (done ||| 2 ^ i) ((false, i) :: acc)
    | none =>
      -- the next effect: the first one (effects are in a row)
      match todo.find? (fun i => cls i == .eff) with
      | some e =>
        if ready e then
          let again := (acc.reverse.filter fun q => !q.1 && cls q.2 == .read && !(anc e).testBit q.2).map fun q => (true, q.2)
          planGo cls anc n fuel (done ||| 2 ^ e) (again.reverse ++ ((false, e) :: acc))
        else match todo.find? (fun i => ready i && (anc e).testBit i) with
          | some i => planGo cls anc n fuel (done ||| 2 ^ i) ((false, i) :: acc)
          | none => acc.reverse
      | none => match todo.find? ready with
        | some i => planGo cls anc n fuel (done ||| 2 ^ i) ((false, i) :: acc)
        | none => acc.reverse




def allSome {α : Type} : List (Option α) → Option (List α)
  | [] => some []
  | x :: xs => x.bind fun a => (allSome xs).bind fun l => some (a :: l)

def guardOf (ops : Array Oper) : Option (Nat × Bool) → Option (Option (Nat × Bool))
  | none => some none
  | some g => ((ops[g.1]?).bind (·.dst)).bind fun t => some (some (t, g.2))

def mkStep (ops : Array Oper) (l : List (List AOpd × AOp)) (safe : Nat → Option (List Nat)) (q : Bool × Nat) : Option AStep :=
  (ops[q.2]?).bind fun o => (l[q.2]?).bind fun a => (guardOf ops o.guard).bind fun g =>
    some { chk := q.1, dst := o.dst, guard := g, args := a.1, op := a.2, psafe := safe q.2 }

/-- is the slot there? -/
def dstOk (nt : Nat) (o : Oper) : Bool :=
  match o.dst with
  | none => true
  | some d => Nat.blt d nt

/-! ### what a plan must fulfil -/
def subB (a b : Nat) : Bool := Nat.beq (Nat.land a b) a
/-- the operations that a plan's part runs -/
def bitsOf : List (Bool × Nat) → Nat → Nat
  | [], d => d
  | (true, _) :: l, d => bitsOf l d
  | (false, i) :: l, d => bitsOf l (Nat.lor d (2 ^ i))
/-- what is looked at again right here -/
def looksOf : List (Bool × Nat) → Nat → Nat
  | (true, r) :: l, d => looksOf l (Nat.lor d (2 ^ r))
  | _, d => d
def isCls (c d : Cls) : Bool := match c, d with
  | .pure, .pure => true
  | .read, .read => true
  | .alloc, .alloc => true
  | .eff, .eff => true
  | _, _ => false
def maskOf (p : Nat → Bool) : Nat → Nat
  | 0 => 0
  | n + 1 => cond (p n) (Nat.lor (maskOf p n) (2 ^ n)) (maskOf p n)
structure PlanI where
  n : Nat
  anc : Nat → Nat
  cls : Nat → Cls
  ment : Nat → Nat → Bool
  self : Nat → Bool
  made : Nat
  reads : Nat
def planCond (I : PlanI) (done : Nat) (post : List (Bool × Nat)) : Bool × Nat → Bool
  | (false, i) => Nat.blt i I.n && (!done.testBit i && (subB (I.anc i) done && (match I.cls i with
      | .read => subB (Nat.land done I.made) (I.anc i)
      | .eff => subB (Nat.land done I.made) (I.anc i) && subB (Nat.land done I.reads) (Nat.lor (I.anc i) (looksOf post 0))
      | _ => true)))
  | (true, r) => isCls (I.cls r) .read && (I.self r && (done.testBit r && subB (Nat.land done (maskOf (fun w => !Nat.beq w r && I.ment r w) I.n)) (I.anc r)))
def planScan (I : PlanI) : List (Bool × Nat) → Nat → Bool
  | [], done => subB (2 ^ I.n - 1) done
  | (false, i) :: post, done => planCond I done post (false, i) && planScan I post (Nat.lor done (2 ^ i))
  | (true, r) :: post, done => planCond I done post (true, r) && planScan I post done
def allLt (p : Nat → Bool) : Nat → Bool
  | 0 => true
  | n + 1 => p n && allLt p n
def tempsOk (I : PlanI) : Bool := allLt (fun r => allLt (fun w => Nat.beq r w || ((I.anc r).testBit w || ((I.anc w).testBit r || !I.ment r w))) I.n) I.n
def tmpsOf : List AOpd → List Nat
  | [] => []
  | .tmp t :: l => t :: tmpsOf l
  | _ :: l => tmpsOf l
def hasNat (t : Nat) : List Nat → Bool
  | [] => false
  | x :: l => Nat.beq x t || hasNat t l
/-- the slots that an operation reads -/
def readsOf (ops : Array Oper) (l : List (List AOpd × AOp)) (r : Nat) : List Nat :=
  match ops[r]?, l[r]? with
  | some o, some a => (match guardOf ops o.guard with | some (some g) => [g.1] | _ => []) ++ tmpsOf a.1
  | _, _ => []
def dstAt (ops : Array Oper) (w : Nat) : Option Nat := (ops[w]?).bind (·.dst)
/-- the slots that an operation names -/
def namesOf (ops : Array Oper) (l : List (List AOpd × AOp)) (r : Nat) : List Nat :=
  (match dstAt ops r with | some d => [d] | none => []) ++ readsOf ops l r
def mentB (ops : Array Oper) (l : List (List AOpd × AOp)) (r w : Nat) : Bool :=
  match dstAt ops w with
  | some t => hasNat t (namesOf ops l r)
  | none => false
def selfB (ops : Array Oper) (l : List (List AOpd × AOp)) (r : Nat) : Bool :=
  match dstAt ops r with
  | some t => !hasNat t (readsOf ops l r)
  | none => true
def clsAt (l : List (List AOpd × AOp)) (i : Nat) : Cls := clsOf ((l[i]?.getD ([], .recover)).2)
def isMade (c : Cls) : Bool := isCls c .alloc || isCls c .eff
def planI (ops : Array Oper) (l : List (List AOpd × AOp)) : PlanI :=
  { n := ops.size, anc := fun i => (Region.before ops).getD i 0, cls := clsAt l, ment := mentB ops l, self := selfB ops l, made := maskOf (fun i => isMade (clsAt l i)) ops.size, reads := maskOf (fun i => isCls (clsAt l i) .read) ops.size }
def upToB (i : Nat) : List (Bool × Nat) → List (Bool × Nat)
  | [] => []
  | (c, j) :: l => cond (!c && Nat.beq j i) [] ((c, j) :: upToB i l)
/-- if this operation panics, all others have run or wait for it: which slots are forgotten -/
def planSafe (ops : Array Oper) (I : PlanI) (plan : List (Bool × Nat)) (i : Nat) : Option (List Nat) :=
  let d := bitsOf (upToB i plan) 0
  cond (allLt (fun j => Nat.beq j i || (d.testBit j || (I.anc j).testBit i)) I.n) (some (ops.toList.filterMap (·.dst))) none

def cRegion (P : Program) (nt : Nat) (ops : Array Oper) (draw : Bool) : Option ACode :=
  if ops.toList.all (dstOk nt) then
  (allSome (ops.toList.map (cOper P))).bind fun l =>
    if draw then
      let I := planI ops l
      let plan := planGo I.cls I.anc ops.size (2 * ops.size) 0 []
      cond (planScan I plan 0 && tempsOk I) ((allSome (plan.map (mkStep ops l (planSafe ops I plan)))).bind fun steps => some (.region steps)) (some .stuck)
    else (allSome ((List.range ops.size).map fun i => mkStep ops l (fun _ => some []) (false, i))).bind fun steps => some (.region steps)
  else none

/-- the code, and its loops over functions, in their order, numbered from `k` on -/
def cCode (P : Program) (nt : Nat) : Nat → Code → Option (ACode × List ALoop)
  | _, .skip => some (.skip, [])
  | _, .region _ ops draw => (cRegion P nt ops draw).bind fun c => some (c, [])
  | k, .seq a b => (cCode P nt k a).bind fun a => (cCode P nt (k + a.2.length) b).bind fun b => some (.seq a.1 b.1, a.2 ++ b.2)
  | k, .cond c a b => (cOpd P.globals.size c).bind fun c => (cCode P nt k a).bind fun a => (cCode P nt (k + a.2.length) b).bind fun b => some (.cond c a.1 b.1, a.2 ++ b.2)
  | k, .block id b => (cCode P nt k b).bind fun b => some (.block id b.1, b.2)
  | k, .loop b => (cCode P nt k b).bind fun b => some (.loop none b.1, b.2)
  | k, .rangeFunc f ps a b => (cOpd P.globals.size f).bind fun f => (cCode P nt (k + 1) a).bind fun a => (cCode P nt (k + 1 + a.2.length) b).bind fun b =>
    if ps.toList.all fun p => Nat.blt p nt then some (.rangeFunc f k, { params := ps.toList, assign := a.1, body := b.1 } :: (a.2 ++ b.2)) else none
  | _, .exit id => some (.exit id, [])
  | k, .scope b => (cCode P nt k b).bind fun b => some (.scope b.1, b.2)
  | _, .label l => some (.label l, [])
  | _, .goto l => some (.goto l, [])
  | _, .ret => some (.ret, [])
  | _, .refuse _ => some (.stuck, [])

def cRes (P : Program) : List ResultVar → Option (List ARes)
  | [] => some []
  | .tmp t :: r => (cRes P r).bind fun l => some (.tmp t :: l)
  | .cell a t :: r => (aggN P t).bind fun n => (cRes P r).bind fun l => some ((match n with | none => .cell1 a | some n => .cellN n a) :: l)

def cFunc (P : Program) (fn : Func) : Option AFunc :=
  fn.body.bind fun b => (cCode P fn.ntmps 0 b).bind fun c => (cRes P fn.results.toList).bind fun r => some { results := r, body := c.1, loops := c.2 }

def cMeth (P : Program) (t : TypeId) (name : String) : Option Nat :=
  (P.info? t).bind fun i => (i.methods.find? (·.name == name)).bind fun m =>
    if !m.path.isEmpty then none else m.func.bind fun p =>
      match P.underlying t, p.2 with
      | none, _ => none
      | some (.pointer _), true => some p.1
      | some (.pointer _), false => none
      | some _, true => none
      | some _, false => some p.1

def cProg (P : Program) : AProg := { func := fun f => (P.funcs[f]?).bind (cFunc P), meth := cMeth P }

end
end Go.Am
