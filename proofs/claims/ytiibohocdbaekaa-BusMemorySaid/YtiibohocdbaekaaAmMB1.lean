/- B1: Defs Exec Comp Lists Rel Heap Pure Pure2 Pure3 Reads Reads2 Reads3 Allocs. -/
import GoSem.Step
import Derived.CallsIn
import Derived.WalkKit
import Derived.WalkLawsBesides
import Derived.Lib.Strings
import Derived.Lib.Bytealg
import Derived.DeepKeys3
import Derived.Laws.Cover3
import Derived.Laws.Pointers
import Derived.Room.MakeNoZero
import Derived.Laws.IdiomStrings
set_option linter.unusedVariables false
set_option linter.unusedSimpArgs false
namespace Go.Am
theorem qc:type_of% @Option.bind_eq_some_iff:=@Option.bind_eq_some_iff
theorem qd:type_of% @Option.some.injEq:=@Option.some.injEq
theorem qe:type_of% @if_neg:=@if_neg
theorem qf:type_of% @Nat.add_zero:=@Nat.add_zero
theorem qh:type_of% @Nat.le_refl:=@Nat.le_refl
theorem qj:type_of% @List.getElem?_eq_some_iff:=@List.getElem?_eq_some_iff
theorem qm:type_of% @if_pos:=@if_pos
theorem qn:type_of% @Option.bind_some:=@Option.bind_some
theorem qp:type_of% @Nat.lt_of_lt_of_le:=@Nat.lt_of_lt_of_le
theorem qv:type_of% @if_false:=@if_false
theorem qx:type_of% @List.length_append:=@List.length_append
theorem qz:type_of% @List.getElem?_eq_getElem:=@List.getElem?_eq_getElem
theorem xa:type_of% @if_true:=@if_true
theorem xc:type_of% @List.length_set:=@List.length_set
theorem xf:type_of% @eq_true:=@eq_true
theorem xg:type_of% @List.getElem?_set_self:=@List.getElem?_set_self
theorem xh:type_of% @Option.map_eq_some_iff:=@Option.map_eq_some_iff
theorem xj:type_of% @List.getElem?_map:=@List.getElem?_map
theorem xk:type_of% @cond_true:=@cond_true
theorem xn:type_of% @List.mem_singleton:=@List.mem_singleton
theorem xq:type_of% @Bool.and_eq_true:=@Bool.and_eq_true
theorem xt:type_of% @List.getElem?_set_ne:=@List.getElem?_set_ne
theorem xu:type_of% @Nat.le_trans:=@Nat.le_trans
theorem xw:type_of% @Prod.mk.injEq:=@Prod.mk.injEq
theorem xy:type_of% @List.mem_append:=@List.mem_append
theorem zb:type_of% @List.append_nil:=@List.append_nil
theorem zg:type_of% @List.length_map:=@List.length_map
theorem zh:type_of% @List.take_of_length_le:=@List.take_of_length_le
theorem zi:type_of% @List.append_assoc:=@List.append_assoc
theorem zj:type_of% @List.length_replicate:=@List.length_replicate
theorem zk:type_of% @cond_false:=@cond_false
theorem zl:type_of% @Int.toNat_natCast:=@Int.toNat_natCast
theorem zn:type_of% @Nat.lt_succ_self:=@Nat.lt_succ_self
theorem zq:type_of% @Nat.zero_le:=@Nat.zero_le
theorem zr:type_of% @List.getElem?_eq_none:=@List.getElem?_eq_none
theorem zu:type_of% @List.cons.injEq:=@List.cons.injEq
theorem zx:type_of% @List.getElem?_cons_succ:=@List.getElem?_cons_succ
theorem zy:type_of% @Nat.beq_eq:=@Nat.beq_eq
theorem ja:type_of% @List.mem_of_getElem?:=@List.mem_of_getElem?
theorem je:type_of% @List.nil_append:=@List.nil_append
theorem jf:type_of% @Bool.and_self:=@Bool.and_self
theorem jg:type_of% @List.mem_cons:=@List.mem_cons
theorem jh:type_of% @List.getElem?_append_right:=@List.getElem?_append_right
theorem jk:type_of% @Classical.byContradiction:=@Classical.byContradiction
theorem jl:type_of% @List.getElem?_cons_zero:=@List.getElem?_cons_zero
theorem jr:type_of% @Nat.lt_or_ge:=@Nat.lt_or_ge
theorem ju:type_of% @List.flatMap_cons:=@List.flatMap_cons
theorem jv:type_of% @Option.bind_assoc:=@Option.bind_assoc
theorem jz:type_of% @Array.getD_eq_getD_getElem?:=@Array.getD_eq_getD_getElem?
theorem j2:type_of% @Iff.rfl:=@Iff.rfl
theorem j3:type_of% @List.drop_eq_nil_of_le:=@List.drop_eq_nil_of_le
theorem j4:type_of% @List.flatMap_append:=@List.flatMap_append
theorem j5:type_of% @List.length_drop:=@List.length_drop
theorem j6:type_of% @List.length_take:=@List.length_take
theorem j7:type_of% @List.take_append_of_le_length:=@List.take_append_of_le_length
theorem j9:type_of% @Array.getElem?_eq_some_iff:=@Array.getElem?_eq_some_iff
theorem kc:type_of% @Nat.mul_le_mul_right:=@Nat.mul_le_mul_right
theorem ke:type_of% @Int.eq_ofNat_of_zero_le:=@Int.eq_ofNat_of_zero_le
theorem kh:type_of% @Nat.add_mul:=@Nat.add_mul
theorem ki:type_of% @Nat.le_succ:=@Nat.le_succ
theorem kj:type_of% @Array.getElem?_toList:=@Array.getElem?_toList
theorem km:type_of% @List.getElem?_append_left:=@List.getElem?_append_left
theorem kn:type_of% @List.take_append_drop:=@List.take_append_drop
theorem kr:type_of% @List.getElem?_take:=@List.getElem?_take
theorem kt:type_of% @List.map_cons:=@List.map_cons
theorem kx:type_of% @List.drop_append_of_le_length:=@List.drop_append_of_le_length
theorem ky:type_of% @List.ext_getElem?:=@List.ext_getElem?
theorem ya:type_of% @Bool.false_eq_true:=@Bool.false_eq_true
theorem yb:type_of% @List.getElem?_drop:=@List.getElem?_drop
theorem yc:type_of% @Nat.add_sub_cancel_left:=@Nat.add_sub_cancel_left
theorem yd:type_of% @Nat.zero_add:=@Nat.zero_add
theorem yi:type_of% @List.length_cons:=@List.length_cons
theorem yj:type_of% @List.length_range:=@List.length_range
theorem yp:type_of% @Array.length_toList:=@Array.length_toList
theorem yq:type_of% @List.length_eq_zero_iff:=@List.length_eq_zero_iff
theorem ve:type_of% @Ne.symm:=@Ne.symm
theorem vg:type_of% @Array.getElem?_setIfInBounds:=@Array.getElem?_setIfInBounds
theorem vh:type_of% @Nat.add_assoc:=@Nat.add_assoc
theorem vm:type_of% @Bool.or_eq_true:=@Bool.or_eq_true
theorem vn:type_of% @List.getElem?_range:=@List.getElem?_range
theorem vp:type_of% @Nat.zero_mul:=@Nat.zero_mul
theorem vz:type_of% @List.drop_append:=@List.drop_append
theorem we:type_of% @Nat.ble_eq:=@Nat.ble_eq
theorem ww:type_of% @List.mem_cons_of_mem:=@List.mem_cons_of_mem
theorem Fe:type_of% @Decidable.byContradiction:=@Decidable.byContradiction
theorem yT:type_of% @List.take_add_one:=@List.take_add_one
theorem px:type_of% @Nat.succ_mul:=@Nat.succ_mul
theorem Gg:type_of% @List.getElem?_replicate:=@List.getElem?_replicate
theorem BP:type_of% @List.mem_cons_self:=@List.mem_cons_self
theorem DM:type_of% @List.getElem?_of_mem:=@List.getElem?_of_mem
theorem mX:type_of% @Nat.blt_eq:=@Nat.blt_eq
theorem xS:type_of% @Nat.le_add_right:=@Nat.le_add_right
theorem xZ:type_of% @Option.getD_some:=@Option.getD_some
theorem wT:type_of% @decide_eq_true:=@decide_eq_true
theorem xK:type_of% @List.length_nil:=@List.length_nil
theorem rj:type_of% @List.map_map:=@List.map_map
theorem Cd:type_of% @Option.isSome_some:=@Option.isSome_some
theorem BN:type_of% @List.all_eq_true:=@List.all_eq_true
theorem wN:type_of% @Nat.lt_irrefl:=@Nat.lt_irrefl
theorem AX:type_of% @decide_eq_false:=@decide_eq_false
theorem Il:type_of% @Nat.ne_of_beq_eq_false:=@Nat.ne_of_beq_eq_false
theorem mz:type_of% @and_true:=@and_true
theorem CL:type_of% @List.cons_append:=@List.cons_append
theorem HH:type_of% @List.mem_iff_getElem?:=@List.mem_iff_getElem?
theorem Bp:type_of% @List.drop_drop:=@List.drop_drop
theorem HO:type_of% @Array.toArray_toList:=@Array.toArray_toList
theorem E8:type_of% @Bool.not_eq_true':=@Bool.not_eq_true'
theorem FG:type_of% @Classical.not_not:=@Classical.not_not
theorem EC:type_of% @List.map_append:=@List.map_append
theorem FR:type_of% @Nat.le_succ_of_le:=@Nat.le_succ_of_le
theorem Gj:type_of% @Nat.lt_succ_of_lt:=@Nat.lt_succ_of_lt
theorem ry:type_of% @Nat.mod_lt:=@Nat.mod_lt
theorem Fb:type_of% @decide_eq_true_eq:=@decide_eq_true_eq
theorem Hk:type_of% @Int.toNat_of_nonneg:=@Int.toNat_of_nonneg
theorem HN:type_of% @List.drop_succ_cons:=@List.drop_succ_cons
theorem HI:type_of% @List.replicate_succ:=@List.replicate_succ
theorem Fc:type_of% @List.take_append:=@List.take_append
theorem CN:type_of% @List.take_zero:=@List.take_zero
theorem II:type_of% @Option.isSome_none:=@Option.isSome_none
theorem Fi:type_of% @List.foldl_cons:=@List.foldl_cons
theorem Fj:type_of% @List.mem_filter:=@List.mem_filter
theorem Ff:type_of% @Option.map_some:=@Option.map_some
theorem G0:type_of% @List.flatten_cons:=@List.flatten_cons
theorem FJ:type_of% @List.drop_zero:=@List.drop_zero
theorem qT:type_of% @or_false:=@or_false
theorem qS:type_of% @true_and:=@true_and
theorem xH:type_of% @Array.ext':=@Array.ext'
theorem EO:type_of% @List.mem_map:=@List.mem_map
theorem EB:type_of% @Nat.ne_of_lt:=@Nat.ne_of_lt
theorem Ey:type_of% @Nat.sub_zero:=@Nat.sub_zero
theorem Dm:type_of% @Nat.mul_one:=@Nat.mul_one
theorem BQ:type_of% @beq_iff_eq:=@beq_iff_eq
inductive T (α:Type) where
 | nil
 | node (l:T α) (v:Option α) (r:T α)
noncomputable section
namespace T
variable {α:Type}
def l:T α->T α
 | .nil=>.nil
 | .node a _ _=>a
def r:T α->T α
 | .nil=>.nil
 | .node _ _ b=>b
def val:T α->Option α
 | .nil=>none
 | .node _ v _=>v
def path (i:Nat):List Bool:=go i i
 where go:Nat->Nat->List Bool
 | 0,_=>[]
 | f+1,i=>match i with
  | 0=>[]
  | n+1=>Nat.beq (Nat.mod n 2) 0::go f (Nat.div n 2)
def oE:List Bool->T α->Option α
 | [],t=>t.val
 | b::p,t=>oE p (cond b t.l t.r)
def nH (v:Option α):List Bool->T α->T α
 | [],t=>.node t.l v t.r
 | b::p,t=>cond b (.node (nH v p t.l) t.val t.r) (.node t.l t.val (nH v p t.r))
def get (t:T α) (i:Nat):Option α:=oE (path i) t
def put (t:T α) (i:Nat) (v:Option α):T α:=nH v (path i) t
def set (t:T α) (i:Nat) (v:α):T α:=t.put i (some v)
structure Get (α:Type) where
 run:T α->Option α
structure Put (α:Type) where
 run:Option α->T α->T α
def iT:List Bool->Get α
 | []=>⟨val⟩
 | true::p=>⟨λ t=>(iT p).run t.l⟩
 | false::p=>⟨λ t=>(iT p).run t.r⟩
def qW:List Bool->Put α
 | []=>⟨λ v t=>.node t.l v t.r⟩
 | true::p=>⟨λ v t=>.node ((qW p).run v t.l) t.val t.r⟩
 | false::p=>⟨λ v t=>.node t.l t.val ((qW p).run v t.r)⟩
end T
def nth {α:Type} (l:List α):Nat->Option α :=
 List.rec (motive:=λ _=>Nat->Option α) (λ _=>none) (λ x _ ih i=>Nat.rec (motive:=λ _=>Option α) (some x) (λ n _=>ih n) i) l
def fH {α:Type} (a b:List α):List α:=List.rec (motive:=λ _=>List α) b (λ x _ ih=>x::ih) a
def ct {α:Type} (l:List α):Nat:=List.rec (motive:=λ _=>Nat) 0 (λ _ _ ih=>ih+1) l
def G2 {α:Type}:List α->List α
 | []=>[]
 | _::l=>l
def aO {α:Type} (n:Nat):List α->List α:=Nat.rec (motive:=λ _=>List α->List α) (λ l=>l) (λ _ ih l=>ih (G2 l)) n
def wB {α:Type} (n:Nat):List α->Option (List α) :=
 Nat.rec (motive:=λ _=>List α->Option (List α)) (λ _=>some [])
  (λ _ ih l=>List.rec (motive:=λ _=>Option (List α)) none (λ x t _=>(ih t).bind λ r=>some (x::r)) l) n
def pI {α:Type} (new:List α):List α->Option (List α) :=
 List.rec (motive:=λ _=>List α->Option (List α)) (λ l=>some l)
  (λ x _ ih l=>List.rec (motive:=λ _=>Option (List α)) none (λ _ t _=>(ih t).bind λ r=>some (x::r)) l) new
def putAt {α:Type} (o:Nat) (new:List α):List α->Option (List α) :=
 Nat.rec (motive:=λ _=>List α->Option (List α)) (λ l=>pI new l)
  (λ _ ih l=>List.rec (motive:=λ _=>Option (List α)) none (λ x t _=>(ih t).bind λ r=>some (x::r)) l) o
def dW {α:Type} (l:List α) (o n:Nat):Option (List α):=wB n (aO o l)
inductive ff where
 | func (f:Nat)
 | yield (l:Nat)
inductive AV where
 | bool (b:Bool)
 | int (k:IntKind) (n:Int)
 | str (s:List UInt8)
 | nilp
 | ptr (b o:Nat)
 | nils
 | slice (b o n c:Nat)
 | gslice (b i m size alt n:Nat)
 | eslice (b:Nat)
 | kU
 | map (b:Nat)
 | fn (f:ff) (first captured:List AV)
 | nilf
 | iface (t:Nat) (v:AV)
 | nili
 | agg (l:List AV)
 | tuple (l:List AV)
instance:Inhabited AV:=⟨.nili⟩
def AV.undef:AV:=.tuple []
def AV.cells:AV->List AV
 | .agg l=>l
 | v=>[v]
inductive bA where
 | tmp (t:Nat)
 | const (v:AV)
 | cY (g:Nat)
 | func (f:Nat)
inductive cQ where
 | tmp (t:Nat)
 | gn (a:Nat)
 | cz (n:Nat) (a:Nat)
inductive dX where
 | exit (id:Nat) | goto (l:Nat) | ret
inductive iq where
 | ready|busy|done|exhausted
inductive aM where
 | eU (b:Nat)
 | fn (f:ff) (args:List AV)
inductive bK where
 | row (cells:List AV) (elem:Nat) (fz:Nat × Nat) (own:Bool)
 | grown (m size:Nat) (cells:List AV) (elem:Nat) (fz:Nat × Nat)
 | map (es:List (AV × AV × Nat)) (clock:Nat)
 | mJ (s:List UInt8) (pos:Nat)
 | loop (st:iq) (pend:Option dX) (fn k:Nat) (tm:T AV) (defers:Nat)
 | deferred (calls:Option (List aM))
structure AHeap where
 t:T bK
 next:Nat
namespace AHeap
def get (H:AHeap) (b:Nat):Option bK:=H.t.get b
def set (H:AHeap) (b:Nat) (o:bK):AHeap:={ H with t:=H.t.set b o }
def alloc (H:AHeap) (o:bK):AHeap:={ t:=H.t.set H.next o,next:=H.next+1 }
def kill (H:AHeap) (b:Nat):AHeap:={ H with t:=H.t.put b none }
def bP (H:AHeap) (b:Nat):Option (List AV) :=
 match H.get b with
 | some (.row c _ _ _)=>some c
 | some (.grown _ _ c _ _)=>some c
 | _=>none
end AHeap
def AHeap.aa (H:AHeap) (b o:Nat):Option AV:=(H.bP b).bind λ l=>nth l o
def AHeap.tT (H:AHeap) (b:Nat):Option (List (AV × AV × Nat) × Nat) :=
 match H.get b with
 | some (.map es c)=>some (es,c)
 | _=>none
def AHeap.ao (H:AHeap) (b o n:Nat):Option (List AV):=(H.bP b).bind λ l=>dW l o n
def cM (fz:Nat × Nat) (o n:Nat):Bool:=Nat.ble (o+n) fz.1 || Nat.ble fz.2 o
def bn:AV->Bool
 | .agg _ | .tuple _=>false
 | _=>true
def aX (l:List AV):Bool:=List.rec (motive:=λ _=>Bool) true (λ x _ ih=>cond (bn x) ih false) l
def AHeap.store (H:AHeap) (b o:Nat) (new:List AV):Option AHeap :=
 cond (aX new) (match H.get b with
  | some (.row c e fz true)=>cond (cM fz o (ct new)) ((putAt o new c).bind λ c'=>some (H.set b (.row c' e fz true))) none
  | some (.grown m s c e fz)=>cond (cM fz o (ct new)) ((putAt o new c).bind λ c'=>some (H.set b (.grown m s c' e fz))) none
  | _=>none) none
def lf (tm:T AV):bA->Option AV
 | .tmp t=>tm.get t
 | .const v=>some v
 | .cY g=>some (.ptr g 0)
 | .func f=>some (.fn (.func f) [] [])
def gR (tm:T AV):List bA->Option (List AV)
 | []=>some []
 | x::xs=>(lf tm x).bind λ v=>(gR tm xs).bind λ vs=>some (v::vs)
structure Ev where
 run:T AV->Option AV
structure Evs where
 run:T AV->Option (List AV)
def Fw:bA->Ev
 | .tmp t=>⟨(T.iT (T.path t)).run⟩
 | .const v=>⟨λ _=>some v⟩
 | .cY g=>⟨λ _=>some (.ptr g 0)⟩
 | .func f=>⟨λ _=>some (.fn (.func f) [] [])⟩
def nj:List bA->Evs
 | []=>⟨λ _=>some []⟩
 | [x]=>⟨λ tm=>((Fw x).run tm).bind λ v=>some [v]⟩
 | x::xs=>⟨λ tm=>((Fw x).run tm).bind λ v=>((nj xs).run tm).bind λ vs=>some (v::vs)⟩
def nh (a b:Int):Bool:=match a,b with
 | .ofNat m,.ofNat n=>Nat.ble m n
 | .ofNat _,.negSucc _=>false
 | .negSucc _,.ofNat _=>true
 | .negSucc m,.negSucc n=>Nat.ble n m
def Ix (a b:Int):Bool:=!nh b a
def po (a b:Int):Bool:=match a,b with
 | .ofNat m,.ofNat n=>Nat.beq m n
 | .negSucc m,.negSucc n=>Nat.beq m n
 | _,_=>false
def gU:IntKind->Nat
 | .i8=>0 | .i16=>1 | .i32=>2 | .i64=>3 | .u8=>4 | .u16=>5 | .u32=>6 | .u64=>7
def nR (a b:IntKind):Bool:=Nat.beq (gU a) (gU b)
def Gw (a b:UInt8):Bool:=Nat.beq a.toNat b.toNat
def rn:List UInt8->List UInt8->Bool
 | [],[]=>true
 | a::x,b::y=>cond (Gw a b) (rn x y) false
 | _,_=>false
inductive bR where
 | int|str|bool
 | nil
 | part (off:Nat) (n:Option Nat) (t rest:bR)
def partAt (l:List AV) (off:Nat):Option Nat->Option AV
 | none=>nth l off
 | some k=>(dW l off k).bind λ c=>some (.agg c)
def bg:bR->AV->AV->Option Bool
 | .int,.int k a,.int k' b=>cond (nR k k') (some (po a b)) none
 | .str,.str a,.str b=>some (rn a b)
 | .bool,.bool a,.bool b=>some (a == b)
 | .nil,.agg _,.agg _=>some true
 | .part off n t rest,.agg x,.agg y=>(partAt x off n).bind λ a=>(partAt y off n).bind λ b=>(bg t a b).bind λ q =>
  cond q (bg rest (.agg x) (.agg y)) (some false)
 | _,_,_=>none
def bytesLess:List UInt8->List UInt8->Bool
 | _,[]=>false
 | [],_::_=>true
 | a::x,b::y=>Nat.blt a.toNat b.toNat || (Gw a b && bytesLess x y)
def kR (op:BinOp) (a b:List UInt8):Option AV :=
 match op with
 | .add=>cond (Nat.ble (a.length+b.length) 140737488355328) (some (.str (a++b))) none
 | .eql=>some (.bool (rn a b))
 | .neq=>some (.bool (!(rn a b)))
 | .lss=>some (.bool (bytesLess a b))
 | .leq=>some (.bool (bytesLess a b || rn a b))
 | .gtr=>some (.bool (!(bytesLess a b || rn a b)))
 | .geq=>some (.bool (!bytesLess a b))
 | _=>none
def aW (k:IntKind) (n:Int):Int:=k.wrap n
def dC (op:BinOp) (k:IntKind) (a b:Int):Option AV :=
 match op with
 | .add=>some (.int k (aW k (a+b)))
 | .sub=>some (.int k (aW k (a-b)))
 | .mul=>some (.int k (aW k (a*b)))
 | .quo=>cond (po b 0) none (some (.int k (aW k (a.tdiv b))))
 | .rem=>cond (po b 0) none (some (.int k (a.tmod b)))
 | .and=>some (.int k (aW k ((BitVec.ofInt k.bits a &&& BitVec.ofInt k.bits b).toNat)))
 | .or=>some (.int k (aW k ((BitVec.ofInt k.bits a ||| BitVec.ofInt k.bits b).toNat)))
 | .xor=>some (.int k (aW k ((BitVec.ofInt k.bits a ^^^ BitVec.ofInt k.bits b).toNat)))
 | .andNot=>some (.int k (aW k ((BitVec.ofInt k.bits a &&& ~~~(BitVec.ofInt k.bits b)).toNat)))
 | .eql=>some (.bool (po a b))
 | .neq=>some (.bool (!po a b))
 | .lss=>some (.bool (Ix a b))
 | .leq=>some (.bool (nh a b))
 | .gtr=>some (.bool (Ix b a))
 | .geq=>some (.bool (nh b a))
 | _=>none
inductive oM where
 | bool|ptr|slice|map|func|iface
 | ifaces (f:Nat->Option bR)
 | agg (t:bR)
def mo (isNil isSome:AV->Bool) (x y:AV):Option Bool :=
 cond (isNil x) (cond (isNil y) (some true) (cond (isSome y) (some false) none)) (cond (isSome x && isNil y) (some false) none)
def vA:AV->Bool
 | .nils=>true
 | _=>false
def isSlice:AV->Bool
 | .slice ..=>true
 | .gslice ..=>true
 | .eslice _=>true
 | _=>false
def uk:AV->Bool
 | .kU=>true
 | _=>false
def isMap:AV->Bool
 | .map _=>true
 | _=>false
def ud:AV->Bool
 | .nilf=>true
 | _=>false
def GB:AV->Bool
 | .fn ..=>true
 | _=>false
def rX:AV->Bool
 | .nili=>true
 | _=>false
def isIface:AV->Bool
 | .iface ..=>true
 | _=>false
def pH (H:AHeap) (b b':Nat):Bool :=
 match H.get b,H.get b' with
 | some (.row _ _ (0,0) true),some (.row (_::_) _ _ _)=>true
 | some (.row (_::_) _ _ _),some (.row _ _ (0,0) true)=>true
 | _,_=>false
def rI (op:BinOp) (k:IntKind) (a b:Int):Option AV :=
 cond (Ix b 0) none (match op with
  | .shl=>some (.int k (aW k (a*2 ^ (min b.toNat k.bits))))
  | _=>some (.int k (a.fdiv (2 ^ (min b.toNat k.bits)))))
def cU:BinOp->Bool
 | .shl | .shr=>true
 | _=>false
def Ck (H:AHeap):oM->AV->AV->Option Bool
 | .bool,.bool a,.bool b=>some (a == b)
 | .ptr,.nilp,.nilp=>some true
 | .ptr,.nilp,.ptr _ _=>some false
 | .ptr,.ptr _ _,.nilp=>some false
 | .ptr,.ptr b o,.ptr b' o'=>cond (Nat.beq b b') (some (Nat.beq o o')) (cond (pH H b b') (some false) none)
 | .slice,x,y=>mo vA isSlice x y
 | .map,x,y=>mo uk isMap x y
 | .func,x,y=>mo ud GB x y
 | .iface,x,y=>mo rX isIface x y
 | .ifaces f,.iface t a,.iface u b=>cond (Nat.beq t u) ((f t).bind λ q=>bg q a b) (some false)
 | .ifaces _,.nili,.iface _ _=>some false
 | .ifaces _,.iface _ _,.nili=>some false
 | .agg t,x,y=>bg t x y
 | _,_,_=>none
def jI (op:BinOp) (x y:AV):Option AV :=
 match x,y with
 | .int k a,.int k' b=>cond (cU op) (rI op k a b) (cond (nR k k') (dC op k a b) none)
 | .str a,.str b=>kR op a b
 | _,_=>none
def unV (op:UnOp) (x:AV):Option AV :=
 match op,x with
 | .neg,.int k n=>some (.int k (aW k (0-n)))
 | .xor,.int k n=>dC .xor k (if k.signed then -1 else k.max) n
 | .not,.bool b=>some (.bool (!b))
 | _,_=>none
def eW (cells:List AV):List (Nat × Nat)->List AV->Option (List AV)
 | [],[]=>some cells
 | (off,size)::ps,v::vs=>cond (Nat.beq (ct v.cells) size) ((putAt off v.cells cells).bind λ c=>eW c ps vs) none
 | _,_=>none
def dh (n:Nat) (z:List AV):List AV :=
 match n with
 | 0=>[]
 | n+1=>fH z (dh n z)
def within (i:Int) (n:Nat):Option Nat:=match i with
 | .ofNat k=>cond (Nat.blt k n) (some k) none
 | .negSucc _=>none
def arg (vs:List AV):Option Nat->Option (Option AV)
 | none=>some none
 | some i=>(nth vs i).bind λ v=>some (some v)
def bound (v:Option AV) (d mx:Nat):Option Nat :=
 match v with
 | none=>some d
 | some (.int _ (.ofNat i))=>cond (Nat.ble i mx) (some i) none
 | _=>none
def c6 (size:Nat) (x:AV) (lo hi mx:Option AV):Option AV :=
 match x with
 | .nils=>match mx with
  | none=>(bound hi 0 0).bind λ h=>(bound lo 0 h).bind λ _=>some .nils
  | some _=>none
 | .slice b o n c=>match mx,hi with
  | some _,none=>none
  | mx,hi=>(bound mx c c).bind λ m=>(bound hi n m).bind λ h=>(bound lo 0 h).bind λ l =>
   some (.slice b (cond (Nat.beq m l) o (o+l*size)) (h-l) (m-l))
 | .gslice b i m s alt n =>
  cond (Nat.beq s size && Nat.ble i m) (match mx,hi with
   | none,hi=>(bound hi n (m-i)).bind λ h=>(bound lo 0 h).bind λ l =>
    cond (Nat.ble h (m-i)) (some (.gslice b (i+l) m s (cond (Nat.beq l 0) alt (i*s)) (h-l))) none
   | some _,none=>none
   | mx,hi=>(bound mx 0 (m-i)).bind λ x=>(bound hi 0 x).bind λ h=>(bound lo 0 h).bind λ l =>
    cond (Nat.beq x l) none (some (.slice b ((i+l)*s) (h-l) (x-l)))) none
 | .eslice b=>match mx with
  | none=>(bound hi 0 0).bind λ h=>(bound lo 0 h).bind λ _=>some (.eslice b)
  | some _=>none
 | _=>none
def dO:AV->Option Nat
 | .str s=>some (ct s)
 | .nils=>some 0
 | .slice _ _ n _=>some n
 | .gslice _ _ _ _ _ n=>some n
 | .eslice _=>some 0
 | _=>none
def elemAt (size:Nat) (x:AV) (j:Nat):Option (Nat × Nat) :=
 match x with
 | .slice b o n _=>cond (Nat.blt j n) (some (b,o+j*size)) none
 | .gslice b i m s _ n=>cond (Nat.blt j n && Nat.beq s size && Nat.blt (i+j) m) (some (b,i*s+j*s)) none
 | _=>none
def firstCells (H:AHeap) (size n:Nat) (x:AV):Option (List AV) :=
 match x with
 | .nils=>some []
 | .str s=>cond (Nat.beq size 1) (some ((s.take n).map λ b=>.int .u8 b.toNat)) none
 | .slice b o _ _=>cond (Nat.beq n 0) (some []) (H.ao b o (n*size))
 | .gslice b i m s _ _=>cond (Nat.beq n 0) (some []) (cond (Nat.beq s size && Nat.blt i m) (H.ao b (i*s) (n*size)) none)
 | .eslice _=>cond (Nat.beq n 0) (some []) none
 | _=>none
def gA (n:Int):AV:=.int .i64 n
def fits (n bytes:Nat):Bool:=Nat.ble (n*bytes) 140737488355328 && Nat.ble n 140737488355328
def cm (H:AHeap) (e size n:Nat) (cells:List AV) (fz:Nat × Nat):AV × AHeap :=
 (.gslice H.next 0 n size 0 n,H.alloc (.grown n size cells e fz))
def bX (H:AHeap) (e size bytes:Nat) (s:AV) (n:Nat) (new:List AV):Option (AV × AHeap) :=
 match s with
 | .nils=>cond (Nat.beq n 0) (some (.nils,H)) (cond (fits n bytes && Nat.blt 0 size) (some (cm H e size n new (0,0))) none)
 | .slice b o len c =>
  cond (Nat.ble (len+n) c)
   (cond (Nat.beq n 0) (some (.slice b o (len+n) c,H)) ((H.store b (o+len*size) new).bind λ H'=>some (.slice b o (len+n) c,H')))
   (cond (fits (len+n) bytes && Nat.ble c (len+n) && Nat.blt 0 size)
    ((firstCells H size len (.slice b o len c)).bind λ old=>some (cm H e size (len+n) (fH old new) (0,0))) none)
 | .gslice b i m sz alt len =>
  cond (Nat.beq n 0) (cond (Nat.ble (i+len) m) (some (.gslice b i m sz alt len,H)) none) (cond (Nat.beq sz size && Nat.ble (i+len) m && Nat.blt 0 size)
   (cond (Nat.ble (i+len+n) m)
    ((H.store b ((i+len)*size) new).bind λ H'=>some (.gslice b i m sz alt (len+n),H'))
    (cond (fits (len+n) bytes) (match H.get b with
     | some (.grown m' sz' c e' fz) =>
      cond (Nat.beq m m' && Nat.beq sz sz' && Nat.beq e' e)
       (cond (Nat.beq i 0 && Nat.beq len m && Nat.ble fz.2 (m*size)) (some (cm (H.kill b) e size (len+n) (fH c new) fz)) (cond (Nat.ble fz.2 (i*size))
        ((dW c (i*size) (len*size)).bind λ old=>some (cm (H.kill b) e size (len+n) (fH old new) (cond (Nat.beq fz.1 fz.2) (0,0) (1,0))))
        (cond (Nat.beq i 0 && Nat.ble fz.2 (len*size))
         ((dW c 0 (len*size)).bind λ old=>some (cm (H.kill b) e size (len+n) (fH old new) fz)) none))) none
     | _=>none) none)) none)
 | _=>none
namespace Op
def fail:List AV->Option AV:=λ _=>none
def move:List AV->Option AV
 | [v]=>some v
 | _=>none
def pick:List AV->Option AV
 | [.bool q,a,b]=>some (cond q a b)
 | _=>none
def build (zero:List AV) (places:List (Nat × Nat)) (vs:List AV):Option AV :=
 (eW zero places vs).bind λ c=>some (.agg c)
def nilCheck:List AV->Option AV
 | [.nilp] | [.nili] | [.nilf]=>none
 | [.fn (.func f) a b]=>some (.fn (.func f) a b)
 | [.fn _ _ _]=>none
 | [v]=>some v
 | _=>none
def bin (op:BinOp):List AV->Option AV
 | [x,y]=>jI op x y
 | _=>none
def eq (t:oM) (neg:Bool):List AV->AHeap->Option AV
 | [x,y],H=>(Ck H t x y).bind λ q=>some (.bool (cond neg (!q) q))
 | _,_=>none
def un (op:UnOp):List AV->Option AV
 | [x]=>unV op x
 | _=>none
def wrap (k:IntKind):List AV->Option AV
 | [.int _ n]=>some (.int k (aW k n))
 | _=>none
def pE (t:Nat):List AV->Option AV
 | [v]=>some (.iface t v)
 | _=>none
def bZ (f nf:Nat) (l:List AV):Option AV:=some (.fn (.func f) (l.take nf) (l.drop nf))
def aQ (size:Nat):List (Option Nat)->List AV->Option AV
 | [lo,hi,mx],x::vs=>(arg vs lo).bind λ a=>(arg vs hi).bind λ b=>(arg vs mx).bind λ m=>c6 size x a b m
 | _,_=>none
def fieldAddr (off:Nat):List AV->Option AV
 | [.ptr b o]=>some (.ptr b (o+off))
 | _=>none
def field (off:Nat) (n:Option Nat):List AV->Option AV
 | [.agg l]=>partAt l off n
 | _=>none
def aP (size:Nat):List AV->Option AV
 | [x,.int _ j]=>(dO x).bind λ n=>(within j n).bind λ k=>(elemAt size x k).bind λ p=>some (.ptr p.1 p.2)
 | _=>none
def aT (len size:Nat):List AV->Option AV
 | [.ptr b o,.int _ j]=>(within j len).bind λ k=>some (.ptr b (o+k*size))
 | _=>none
def extract (i:Nat):List AV->Option AV
 | [.tuple l]=>nth l i
 | _=>none
def oi:List AV->Option AV
 | [.str s]=>some (gA (ct s))
 | _=>none
def bJ:List AV->Option AV
 | [.nils]=>some (gA 0)
 | [.slice _ _ n _]=>some (gA n)
 | [.gslice _ _ _ _ _ n]=>some (gA n)
 | [.eslice _]=>some (gA 0)
 | _=>none
def cap:List AV->Option AV
 | [.nils]=>some (gA 0)
 | [.slice _ _ _ c]=>some (gA c)
 | _=>none
def aa:List AV->AHeap->Option AV
 | [.ptr b o],H=>H.aa b o
 | _,_=>none
def ao (n:Nat):List AV->AHeap->Option AV
 | [.ptr b o],H=>(H.ao b o n).bind λ l=>some (.agg l)
 | _,_=>none
def ptrTo (b:Nat):AV:=.ptr b 0
def alloc (e:Nat) (zero:List AV):List AV->Option (bK × (Nat->AV))
 | []=>some (.row zero e (0,0) true,ptrTo)
 | _=>none
def box (e:Nat):List AV->Option (bK × (Nat->AV))
 | [v]=>some (.row v.cells e (0,0) true,ptrTo)
 | _=>none
def sliceTo (n m:Nat) (b:Nat):AV:=.slice b 0 n m
def buildSlice (e n:Nat) (zero:List AV) (places:List (Nat × Nat)) (vs:List AV):Option (bK × (Nat->AV)) :=
 (eW (dh n zero) places vs).bind λ c=>some (.row c e (0,0) true,sliceTo n n)
def mkSlice (e bytes:Nat) (zero:List AV):List AV->Option (bK × (Nat->AV))
 | [.int _ n,.int _ m]=>cond (nh 0 n && nh n m && nh (m*bytes) 140737488355328 && nh m 140737488355328)
  (some (.row (dh m.toNat zero) e (0,0) true,sliceTo n.toNat m.toNat)) none
 | _=>none
def store (n:Nat):List AV->AHeap->Option (AV × AHeap)
 | [.ptr b o,v],H=>cond (Nat.beq (ct v.cells) n) ((H.store b o v.cells).bind λ H'=>some (.undef,H')) none
 | _,_=>none
def A4:AV->AV->Bool
 | .int k a,.int k' b=>nR k k' && po a b
 | .str a,.str b=>rn a b
 | .bool a,.bool b=>a == b
 | _,_=>false
def cZ:List AV->List AV->Bool
 | [],[]=>true
 | a::x,b::y=>cond (A4 a b) (cZ x y) false
 | _,_=>false
def stays:AV->AV->Bool
 | .agg a,.agg b=>cZ a b
 | a,b=>A4 a b
def append (e size bytes:Nat):List AV->AHeap->Option (AV × AHeap)
 | [a,b],H=>(dO b).bind λ n=>(firstCells H size n b).bind λ new=>cond (aX new) (bX H e size bytes a n new) none
 | _,_=>none
def c5 (zero:List AV):List AV->AHeap->Option (AV × AHeap)
 | [.str _],_=>none
 | [x],H=>(dO x).bind λ n=>cond (Nat.beq n 0) (some (.tuple [],H))
  ((elemAt zero.length x 0).bind λ p=>(H.store p.1 p.2 (dh n zero)).bind λ H'=>some (.tuple [],H'))
 | _,_=>none
def mE (fz:Nat × Nat) (o n:Nat):Nat × Nat:=cond (Nat.beq fz.1 fz.2) (o,o+n) (min fz.1 o,max fz.2 (o+n))
end Op
inductive dD where
 | pure (f:List AV->Option AV)
 | read (f:List AV->AHeap->Option AV)
 | alloc (f:List AV->Option (bK × (Nat->AV)))
 | eE (f:List AV->AHeap->Option (AV × AHeap))
 | ew (f:Nat)
 | eD
 | invoke (name:String)
 | recover
 | defer
 | panic
structure aU where
 eC:Bool
 dst:Option Nat
 guard:Option (Nat × Bool)
 args:List bA
 op:dD
 bN:Option (List Nat)
inductive ah where
 | skip
 | region (steps:List aU)
 | seq (a b:ah)
 | cond (c:bA) (thn els:ah)
 | block (id:Nat) (body:ah)
 | loop (ae:Option (List Nat)) (body:ah)
 | rangeFunc (f:bA) (k:Nat)
 | exit (id:Nat)
 | scope (body:ah)
 | label (l:Nat)
 | goto (l:Nat)
 | ret
 | stuck
instance:Inhabited ah:=⟨.skip⟩
structure df where
 params:List Nat
 assign:ah
 body:ah
structure av where
 results:List cQ
 body:ah
 loops:List df
structure fj where
 func:Nat->Option av
 lM:Nat->String->Option Nat
abbrev aC:=List (AV × Bool)
structure St where
 tm:T AV
 aR:List aM
 up:Option aC
 H:AHeap
inductive aE where
 | normal
 | exit (id:Nat)
 | goto (l:Nat)
 | ret
 | panic (chain:aC)
inductive br where
 | ret (v:AV)
 | panic (chain:aC)
abbrev bB:=Nat->List AV->Option aC->AHeap->Option (br × Option aC × AHeap)
structure Ctx where
 round:Option Nat
 fn:Nat
end
end Go.Am
namespace Go.Am
noncomputable section
def BZ:T AV->List Nat->List AV->Option (T AV)
 | tm,[],[]=>some tm
 | tm,p::ps,v::vs=>BZ (tm.set p v) ps vs
 | _,_,_=>none
def fC:Nat->List AV->T AV->T AV
 | _,[],t=>t
 | i,v::vs,t=>fC (i+1) vs (t.set i v)
def fP:aE->Option dX
 | .exit id=>some (.exit id)
 | .goto l=>some (.goto l)
 | .ret=>some .ret
 | _=>none
def kQ:Option dX->aE
 | none=>.normal
 | some (.exit id)=>.exit id
 | some (.goto l)=>.goto l
 | some .ret=>.ret
def qP:aE->Bool
 | .normal=>true
 | _=>false
def Kh (tm:T AV):List Nat->T AV->T AV
 | [],acc=>acc
 | k::ks,acc=>Kh tm ks (acc.put k (tm.get k))
def forget:List Nat->T AV->T AV
 | [],t=>t
 | d::ds,t=>forget ds (t.put d none)
def cO (dst:Option Nat) (v:AV) (tm:T AV):T AV :=
 match dst with
 | some d=>tm.set d v
 | none=>tm
structure Mq where
 run:AV->T AV->T AV
def gH:Option Nat->Mq
 | some d=>⟨λ v tm=>(T.qW (T.path d)).run (some v) tm⟩
 | none=>⟨λ _ tm=>tm⟩
abbrev dL:=Option (aE × St)
def dI (ae:Option (List Nat)) (body:St->dL):Nat->St->dL
 | 0,_=>none
 | n+1,st =>
  (body (match ae with|none=>st|some ks=>{ st with tm:=Kh st.tm ks .nil })).bind λ r=>match r.1 with
   | .normal=>dI ae body n r.2
   | e=>some (e,r.2)
def wG:ah->Nat->Bool
 | .seq a b,l=>wG a l || wG b l
 | .label l',l=>Nat.beq l' l
 | _,_=>false
mutual
def bG:AV->AV->Bool
 | .bool a,.bool b=>a == b
 | .int k a,.int k' b=>nR k k' && po a b
 | .str a,.str b=>rn a b
 | .nilp,.nilp=>true
 | .ptr a b,.ptr c d=>Nat.beq a c && Nat.beq b d
 | .nils,.nils=>true
 | .slice a b c d,.slice a' b' c' d'=>Nat.beq a a' && Nat.beq b b' && Nat.beq c c' && Nat.beq d d'
 | .gslice a b c d e f,.gslice a' b' c' d' e' f'=>Nat.beq a a' && Nat.beq b b' && Nat.beq c c' && Nat.beq d d' && Nat.beq e e' && Nat.beq f f'
 | .eslice a,.eslice b=>Nat.beq a b
 | .kU,.kU=>true
 | .map a,.map b=>Nat.beq a b
 | .nilf,.nilf=>true
 | .nili,.nili=>true
 | .fn (.func f) x a,.fn (.func g) y b=>Nat.beq f g && cZ x y && cZ a b
 | .fn (.yield f) x a,.fn (.yield g) y b=>Nat.beq f g && cZ x y && cZ a b
 | .iface t a,.iface u b=>Nat.beq t u && bG a b
 | .agg a,.agg b=>cZ a b
 | .tuple a,.tuple b=>cZ a b
 | _,_=>false
def cZ:List AV->List AV->Bool
 | [],[]=>true
 | x::xs,y::ys=>bG x y && cZ xs ys
 | _,_=>false
end
abbrev eQ:=List AV->Nat->AHeap->Option (br × AHeap)
structure RT where
 AP:fj
 call:bB
 round:eQ
 n:Nat
 ctx:Ctx
def bT (call:bB) (round:eQ) (f:ff) (args:List AV) (H:AHeap):Option (br × AHeap) :=
 match f with
 | .func g=>(call g args none H).bind λ r=>some (r.1,r.2.2)
 | .yield l=>round args l H
def dk (put:AV->T AV->T AV) (bN:Option (List Nat)) (st:St) (k:St->dL) (r:br × AHeap):dL :=
 match r.1 with
 | .ret v=>k ⟨put v st.tm,st.aR,st.up,r.2⟩
 | .panic c=>bN.bind λ ds=>some (.panic c,⟨forget ds st.tm,st.aR,st.up,r.2⟩)
def GU (put:AV->T AV->T AV) (st:St):St :=
 match st.up with
 | some ((v,false)::older)=>⟨put v st.tm,st.aR,some ((v,true)::older),st.H⟩
 | _=>⟨put .nili st.tm,st.aR,st.up,st.H⟩
def vP (f:List AV->Option AV) (put:AV->T AV->T AV) (st:St) (k:St->dL) (vs:List AV):dL :=
 (f vs).bind λ v=>k ⟨put v st.tm,st.aR,st.up,st.H⟩
def uL (f:List AV->AHeap->Option AV) (put:AV->T AV->T AV) (st:St) (k:St->dL) (vs:List AV):dL :=
 (f vs st.H).bind λ v=>k ⟨put v st.tm,st.aR,st.up,st.H⟩
def oz (f:List AV->Option (bK × (Nat->AV))) (put:AV->T AV->T AV) (st:St) (k:St->dL) (vs:List AV):dL :=
 (f vs).bind λ r=>k ⟨put (r.2 st.H.next) st.tm,st.aR,st.up,st.H.alloc r.1⟩
def DR (f:List AV->AHeap->Option (AV × AHeap)) (put:AV->T AV->T AV) (st:St) (k:St->dL) (vs:List AV):dL :=
 (f vs st.H).bind λ r=>k ⟨put r.1 st.tm,st.aR,st.up,r.2⟩
def rN (f:Nat) (rt:RT) (put:AV->T AV->T AV) (bN:Option (List Nat)) (st:St) (k:St->dL) (vs:List AV):dL :=
 (bT rt.call rt.round (.func f) vs st.H).bind λ r=>dk put bN st k r
def vE (rt:RT) (put:AV->T AV->T AV) (bN:Option (List Nat)) (st:St) (k:St->dL) (vs:List AV):dL :=
 match vs with
 | .fn (.func f) first cap::args=>(bT rt.call rt.round (.func f) (first++(args++cap)) st.H).bind λ r=>dk put bN st k r
 | .fn (.yield l) first []::args=>(bT rt.call rt.round (.yield l) (first++args) st.H).bind λ r=>dk put bN st k r
 | _=>none
def mu (name:String) (rt:RT) (put:AV->T AV->T AV) (bN:Option (List Nat)) (st:St) (k:St->dL) (vs:List AV):dL :=
 match vs with
 | .iface t v::args=>(rt.AP.lM t name).bind λ f=>(bT rt.call rt.round (.func f) (v::args) st.H).bind λ r=>dk put bN st k r
 | _=>none
def Jo (rt:RT) (put:AV->T AV->T AV) (st:St) (k:St->dL) (vs:List AV):dL :=
 match rt.ctx.round with
 | some _=>none
 | none=>match vs with
  | []=>k (GU put st)
  | _=>none
def pj (rt:RT) (put:AV->T AV->T AV) (st:St) (k:St->dL) (vs:List AV):dL :=
 match rt.ctx.round with
 | some _=>none
 | none=>match vs with
  | .fn (.func f) first cap::args=>k ⟨put .undef st.tm,.fn (.func f) (first++(args++cap))::st.aR,st.up,st.H⟩
  | _=>none
def oI (put:AV->T AV->T AV) (bN:Option (List Nat)) (st:St) (k:St->dL) (vs:List AV):dL :=
 match vs with
 | [.iface t v]=>dk put bN st k (.panic [(.iface t v,false)],st.H)
 | _=>none
structure OpC where
 run:RT->St->(St->dL)->List AV->dL
def kS (put:AV->T AV->T AV) (bN:Option (List Nat)):dD->OpC
 | .pure f=>⟨λ _ st k vs=>vP f put st k vs⟩
 | .read f=>⟨λ _ st k vs=>uL f put st k vs⟩
 | .alloc f=>⟨λ _ st k vs=>oz f put st k vs⟩
 | .eE f=>⟨λ _ st k vs=>DR f put st k vs⟩
 | .ew f=>⟨λ rt st k vs=>rN f rt put bN st k vs⟩
 | .eD=>⟨λ rt st k vs=>vE rt put bN st k vs⟩
 | .invoke name=>⟨λ rt st k vs=>mu name rt put bN st k vs⟩
 | .recover=>⟨λ rt st k vs=>Jo rt put st k vs⟩
 | .defer=>⟨λ rt st k vs=>pj rt put st k vs⟩
 | .panic=>⟨λ _ st k vs=>oI put bN st k vs⟩
def kO (get:T AV->Option AV) (st:St) (vs:List AV):dD->Bool
 | .read f=>match f vs st.H,get st.tm with
  | some v,some v'=>bG v v'
  | _,_=>false
 | _=>false
def aB (b:Bool):Option AV->Option Bool
 | some (.bool q)=>some (cond q b (!b))
 | some (.tuple [])=>some false
 | _=>none
structure Hn where
 run:RT->(St->dL)->St->dL
def dJ (s:aU):Hn :=
 match s.eC with
 | false=>match s.guard with
  | none=>⟨λ rt k st=>((nj s.args).run st.tm).bind λ vs=>(kS (gH s.dst).run s.bN s.op).run rt st k vs⟩
  | some g=>⟨λ rt k st=>(aB g.2 ((T.iT (T.path g.1)).run st.tm)).bind λ w =>
   cond w (((nj s.args).run st.tm).bind λ vs=>(kS (gH s.dst).run s.bN s.op).run rt st k vs) (k ⟨(gH s.dst).run .undef st.tm,st.aR,st.up,st.H⟩)⟩
 | true=>match s.guard,s.dst with
  | none,some d=>⟨λ _ k st=>((nj s.args).run st.tm).bind λ vs=>cond (kO (T.iT (T.path d)).run st vs s.op) (k st) none⟩
  | some g,some d=>⟨λ _ k st=>(aB g.2 ((T.iT (T.path g.1)).run st.tm)).bind λ w =>
   cond w (((nj s.args).run st.tm).bind λ vs=>cond (kO (T.iT (T.path d)).run st vs s.op) (k st) none) (k st)⟩
  | _,none=>⟨λ _ _ _=>none⟩
structure A6 where
 run:RT->St->dL
def dV:List aU->A6
 | []=>⟨λ _ st=>some (.normal,st)⟩
 | s::rest=>⟨λ rt st=>(dJ s).run rt ((dV rest).run rt) st⟩
def bQ (H:AHeap) (l:Nat) (s:iq) (p:Option dX):Option AHeap :=
 match H.get l with
 | some (.loop _ _ f k tm d)=>some (H.set l (.loop s p f k tm d))
 | _=>none
def sg (H:AHeap) (l:Nat):Option Nat :=
 match H.get l with
 | some (.loop _ _ _ _ _ d)=>some d
 | _=>none
def Fm (st:St) (aR:List aM) (l:Nat) (e:br) (H:AHeap):dL :=
 match e with
 | .panic c=>some (.panic c,{ st with aR:=aR,H:=H })
 | .ret _=>match H.get l with
  | some (.loop .busy _ _ _ _ _)=>none
  | some (.loop _ p f k tm d)=>some (kQ p,{ st with aR:=aR,H:=H.set l (.loop .exhausted p f k tm d) })
  | _=>none
def eY (call:bB) (round:eQ) (ctx:Ctx) (st:St) (k:Nat) (H0:AHeap) (aR:List aM) (d:Nat):AV->dL
 | .fn (.func g) first cap =>
  (bT call round (.func g) (first++(.fn (.yield H0.next) [] []::cap)) (H0.alloc (.loop .ready none ctx.fn k st.tm d))).bind λ r =>
   Fm st aR H0.next r.1 r.2
 | _=>none
def ng (next:RT->St->dL) (rt:RT) (r:aE × St):dL :=
 match r.1 with
 | .normal=>next rt r.2
 | e=>some (e,r.2)
def m8 (a b:RT->St->dL) (rt:RT) (st:St) (v:AV):dL :=
 match v with
 | .bool q=>cond q (a rt st) (b rt st)
 | _=>none
def fO (id:Nat) (r:aE × St):dL :=
 match r.1 with
 | .exit id'=>some (cond (Nat.beq id id') .normal (.exit id'),r.2)
 | e=>some (e,r.2)
def gB (b:ah) (r:aE × St):dL :=
 match r.1 with
 | .goto l=>cond (wG b l) none (some (.goto l,r.2))
 | e=>some (e,r.2)
def kG (rt:RT) (k:Nat) (st:St) (v:AV):dL :=
 match rt.ctx.round with
 | none=>eY rt.call rt.round rt.ctx st k (st.H.alloc (.deferred (some []))) (.eU st.H.next::st.aR) st.H.next v
 | some l=>(sg st.H l).bind λ d=>eY rt.call rt.round rt.ctx st k st.H st.aR d v
def bf:ah->A6
 | .skip=>⟨λ _ st=>some (.normal,st)⟩
 | .label _=>⟨λ _ st=>some (.normal,st)⟩
 | .region steps=>dV steps
 | .seq a b=>⟨λ rt st=>((bf a).run rt st).bind (ng (bf b).run rt)⟩
 | .cond c a b=>⟨λ rt st=>((Fw c).run st.tm).bind (m8 (bf a).run (bf b).run rt st)⟩
 | .block id b=>⟨λ rt st=>((bf b).run rt st).bind (fO id)⟩
 | .loop ae b=>⟨λ rt st=>dI ae ((bf b).run rt) rt.n st⟩
 | .exit id=>⟨λ _ st=>some (.exit id,st)⟩
 | .goto l=>⟨λ _ st=>some (.goto l,st)⟩
 | .ret=>⟨λ _ st=>some (.ret,st)⟩
 | .stuck=>⟨λ _ _=>none⟩
 | .scope b=>⟨λ rt st=>((bf b).run rt st).bind (gB b)⟩
 | .rangeFunc f k=>⟨λ rt st=>((Fw f).run st.tm).bind (kG rt k st)⟩
def exec (AP:fj) (call:bB) (round:eQ) (n:Nat) (ctx:Ctx) (c:ah) (st:St):dL:=(bf c).run ⟨AP,call,round,n,ctx⟩ st
def Ah (l:Nat) (r:aE × St):Option (br × AHeap) :=
 match r.1 with
 | .panic c=>some (.panic c,r.2.H)
 | e=>(bQ r.2.H l (cond (qP e) .ready .done) (fP e)).bind λ H=>some (.ret (.bool (qP e)),H)
def beginRound (H:AHeap) (l:Nat):Option AHeap :=
 match H.get l with
 | some (.loop .ready p f k tm d)=>some (H.set l (.loop .busy p f k tm d))
 | _=>none
def roundOf (AP:fj) (ex:Ctx->ah->St->dL) (args:List AV) (l:Nat) (H:AHeap):Option (br × AHeap) :=
 match H.get l with
 | some (.loop _ _ f k tm _) =>
  (AP.func f).bind λ fn=>(nth fn.loops k).bind λ lp=>(BZ tm lp.params args).bind λ tm1 =>
  (ex ⟨some l,f⟩ lp.assign { tm:=tm1,aR:=[],up:=none,H:=H }).bind λ r=>match r.1 with
   | .normal=>(beginRound r.2.H l).bind λ H2=>(ex ⟨some l,f⟩ lp.body { r.2 with H:=H2 }).bind λ q=>cond (noDefs q.2.aR) (Ah l q) none
   | _=>none
 | _=>none
 where noDefs:List aM->Bool
 | []=>true
 | _=>false
def FQ (H:AHeap) (tm:T AV):cQ->Option AV
 | .tmp t=>tm.get t
 | .gn a=>(tm.get a).bind λ v=>match v with | .ptr b o=>H.aa b o|_=>none
 | .cz n a=>(tm.get a).bind λ v=>match v with | .ptr b o=>(H.ao b o n).bind λ l=>some (.agg l) | _=>none
def cH (H:AHeap) (tm:T AV):List cQ->Option (List AV)
 | []=>some []
 | r::rs=>(FQ H tm r).bind λ v=>(cH H tm rs).bind λ vs=>some (v::vs)
def c7:List AV->AV
 | [v]=>v
 | l=>.tuple l
def iO (m:Option aC) (up:aC):Option (Option aC) :=
 match m,up with
 | none,[]=>some none
 | some _,(_,true)::_=>some none
 | some _,(v,false)::c=>some (some ((v,false)::c))
 | _,_=>none
def bE (call:bB) (rs:List cQ) (tm:T AV):List aM->Option aC->AHeap->Option (br × AHeap)
 | [],none,H=>(cH H tm rs).bind λ l=>some (.ret (c7 l),H)
 | [],some c,H=>some (.panic c,H)
 | .eU b::ds,m,H=>match H.get b with
  | some (.deferred (some []))=>bE call rs tm ds m (H.set b (.deferred none))
  | _=>none
 | .fn (.func f) args::ds,m,H=>(call f args (some (m.getD [])) H).bind λ r =>
  match r.1,r.2.1 with
  | .ret _,some up'=>(iO m up').bind λ m'=>bE call rs tm ds m' r.2.2
  | _,_=>none
 | .fn (.yield _) _::_,_,_=>none
def jV (call:bB) (fn:av) (r:aE × St):Option (br × Option aC × AHeap) :=
 let fin (m:Option aC):Option (br × Option aC × AHeap):=(bE call fn.results r.2.tm r.2.aR m r.2.H).bind λ q=>some (q.1,r.2.up,q.2)
 match r.1 with
 | .normal=>fin none
 | .ret=>fin none
 | .panic c=>fin (some c)
 | _=>none
def rounds (AP:fj) (call:bB) (m:Nat):Nat->eQ
 | 0=>λ _ _ _=>none
 | n+1=>roundOf AP (exec AP call (rounds AP call m n) m)
def yY (AP:fj) (call:bB) (n:Nat):bB:=λ f args up H =>
 (AP.func f).bind λ fn =>
  (exec AP call (rounds AP call n n) n ⟨none,f⟩ fn.body { tm:=fC 0 args .nil,aR:=[],up:=up,H:=H }).bind λ r =>
   jV call fn r
def uN (AP:fj):Nat->bB
 | 0=>λ _ _ _ _=>none
 | n+1=>yY AP (uN AP n) n
def fF (AP:fj) (told:bB):Nat->bB
 | 0=>told
 | n+1=>λ f args up H=>match told f args up H with
  | some r=>some r
  | none=>yY AP (fF AP told n) n f args up H
end
end Go.Am
namespace Go.Am
noncomputable section
mutual
def dq:Value->Option AV
 | .bool b=>some (.bool b)
 | .int k n=>some (.int k n)
 | .string s=>some (.str s.data.toList)
 | .pointer none=>some .nilp
 | .slice none 0 0=>some .nils
 | .map none=>some .kU
 | .nilFunc=>some .nilf
 | .nilIface=>some .nili
 | .iface t v=>(dq v).bind λ x=>some (.iface t x)
 | .agg cs=>(iI cs.toList).bind λ l=>some (.agg l)
 | .tuple cs=>(iI cs.toList).bind λ l=>some (.tuple l)
 | _=>none
def iI:List Value->Option (List AV)
 | []=>some []
 | v::vs=>(dq v).bind λ x=>(iI vs).bind λ xs=>some (x::xs)
end
def mB (G:Nat):Operand->Option bA
 | .tmp t=>some (.tmp t)
 | .const v=>(dq v).bind λ x=>some (.const x)
 | .global g=>if Nat.blt g G then some (.cY g) else none
 | .func f=>some (.func f)
def jH (G:Nat):List Operand->Option (List bA)
 | []=>some []
 | x::xs=>(mB G x).bind λ y=>(jH G xs).bind λ ys=>some (y::ys)
def zeroOf (P:Program) (t:TypeId):Option AV:=((P.info? t).bind (·.zero)).bind dq
def bO (P:Program) (t:TypeId):Option Nat:=(P.info? t).bind λ i=>some i.size
def im (P:Program) (t:TypeId):Option Nat:=(P.info? t).bind λ i=>some i.bytes
def lG (P:Program) (t:TypeId):Option (Option Nat) :=
 match P.underlying t with
 | some (.struct _) | some (.array _ _)=>(bO P t).bind λ n=>some (some n)
 | some _=>some none
 | none=>none
def dK (P:Program):Nat->TypeId->Option bR
 | 0,_=>none
 | d+1,t=>match P.underlying t with
  | some (.int _)=>some .int
  | some .string=>some .str
  | some .bool=>some .bool
  | some (.struct fs)=>if P.stoodInHeld t then none else fieldsT (dK P d) fs.toList
  | some (.array n e)=>(bO P e).bind λ s=>(lG P e).bind λ a=>(dK P d e).bind λ q=>some (itemsT s a q n 0)
  | _=>none
 where
 fieldsT (go:TypeId->Option bR):List Field->Option bR
  | []=>some .nil
  | f::fs=>if f.name = "_" then none else (lG P f.type).bind λ a=>(go f.type).bind λ q=>(fieldsT go fs).bind λ r=>some (.part f.offset a q r)
 itemsT (s:Nat) (a:Option Nat) (q:bR):Nat->Nat->bR
  | 0,_=>.nil
  | n+1,i=>.part (i*s) a q (itemsT s a q n (i+1))
def G3 (P:Program) (t:TypeId):Option bR:=dK P 20 t
def eF:Nat->List (Option Operand)->List (Option Nat)
 | _,[]=>[]
 | n,none::r=>none::eF n r
 | n,some _::r=>some n::eF (n+1) r
def iu:List (Option Operand)->List Operand
 | []=>[]
 | none::r=>iu r
 | some x::r=>x::iu r
def uE (pl:Nat->Option (Nat × Nat)):List (Nat × Operand)->Option (List (Nat × Nat))
 | []=>some []
 | (i,_)::r=>(pl i).bind λ p=>(uE pl r).bind λ l=>some (p::l)
def E7 (P:Program) (fs:Array Field) (i:Nat):Option (Nat × Nat):=(fs[i]?).bind λ f=>(bO P f.type).bind λ n=>some (f.offset,n)
def ED (n:Nat) (i:Nat):Option (Nat × Nat):=some (i*n,n)
def NL (P:Program) (b:Builtin) (ts:Array TypeId) (args:List Operand):Option (List Operand × dD) :=
 match b with
 | .len=>match (ts[0]?).bind P.underlying with
  | some (.slice _)=>some (args,.pure Op.bJ)
  | _=>none
 | .append=>match ts.toList with
  | [t,tx]=>match P.underlying t,P.underlying tx with
   | some (.slice e),some (.slice _)=>(bO P e).bind λ n=>(im P e).bind λ z=>(zeroOf P e).bind λ zv=>if zv.cells.length=n then some (args,.eE (Op.append e n z)) else none
   | _,_=>none
  | _=>none
 | .clear=>match (ts[0]?).bind P.underlying with
  | some (.slice e)=>(zeroOf P e).bind λ z=>some (args,.eE (Op.c5 z.cells))
  | _=>none
 | .recover=>some (args,.recover)
 | .panic=>some (args,.panic)
 | _=>none
def DH (_P:Program) (_fn:Func) (_args:List Operand):Option (List Operand × dD):=none
def wA (P:Program) (src dst:TypeId) (x:Operand):Option (List Operand × dD) :=
 match P.underlying src,P.underlying dst with
 | some (.int _),some (.int k)=>some ([x],.pure (Op.wrap k))
 | _,_=>none
def zD (P:Program) (t:TypeId) (x y:Operand):Option oM :=
 match P.underlying t with
 | some .bool=>some .bool
 | some (.pointer e)=>match bO P e with
  | some (_+1)=>some .ptr
  | _=>none
 | some (.slice _)=>some .slice
 | some (.map _ _)=>some .map
 | some (.func _ _ _)=>some .func
 | some (.interface _)=>match x,y with
  | .const .nilIface,_=>some .iface
  | _,.const .nilIface=>some .iface
  | _,_=>some (.ifaces λ u=>(P.info? u).bind λ i=>if i.comparable then dK P 20 u else none)
 | some (.struct _)=>if P.eqGuardType P.depth t then none else (dK P 20 t).bind λ q=>some (.agg q)
 | some (.array _ _)=>if P.eqGuardType P.depth t then none else (dK P 20 t).bind λ q=>some (.agg q)
 | _=>none
def CH (P:Program) (op:BinOp) (t:TypeId) (x y:Operand):Option (List Operand × dD) :=
 match P.underlying t with
 | some (.int _)=>some ([x,y],.pure (Op.bin op))
 | some .string=>some ([x,y],.pure (Op.bin op))
 | _=>match op with
  | .eql=>(zD P t x y).bind λ k=>some ([x,y],.read (Op.eq k false))
  | .neq=>(zD P t x y).bind λ k=>some ([x,y],.read (Op.eq k true))
  | _=>none
def tF (P:Program) (c:Call):Option (List Operand × dD) :=
 match c.callee with
 | .value (.func f)=>(P.funcs[f]?).bind λ fn =>
  match fn.body with
  | some _=>some (c.args.toList,.ew f)
  | none=>DH P fn c.args.toList
 | .value f=>some (f::c.args.toList,.eD)
 | .invoke r m=>some (r::c.args.toList,.invoke m)
 | .builtin b=>NL P b c.argTypes c.args.toList
def HV (P:Program) (op:Go.Op):Option (List Operand × dD) :=
 match op with
 | .move x=>some ([x],.pure Op.move)
 | .assign x=>some ([x],.pure Op.move)
 | .pick c a b=>some ([c,a,b],.pure Op.pick)
 | .alloc e=>(zeroOf P e).bind λ z=>some ([],.alloc (Op.alloc e z.cells))
 | .box e x=>some ([x],.alloc (Op.box e))
 | .build t parts=>(zeroOf P t).bind λ z =>
  match P.underlying t with
  | some (.struct fs)=>if fs.all (λ f=>(bO P f.type).isSome) then (uE (E7 P fs) parts.toList).bind λ ps=>some (parts.toList.map (·.2),.pure (Op.build z.cells ps)) else none
  | some (.array _ e)=>(bO P e).bind λ n=>(uE (ED n) parts.toList).bind λ ps=>some (parts.toList.map (·.2),.pure (Op.build z.cells ps))
  | _=>none
 | .buildSlice t len parts =>
  match P.underlying t with
  | some (.slice e)=>(bO P e).bind λ n=>(zeroOf P e).bind λ z=>(uE (ED n) parts.toList).bind λ ps=>if z.cells.length=n/\len*n<=16777216 then some (parts.toList.map (·.2),.alloc (Op.buildSlice e len z.cells ps)) else none
  | _=>none
 | .load t a=>(lG P t).bind λ r=>match r with
  | none=>some ([a],.read Op.aa)
  | some n=>some ([a],.read (Op.ao n))
 | .store t a x=>(bO P t).bind λ n=>some ([a,x],.eE (Op.store n))
 | .nilCheck x=>some ([x],.pure Op.nilCheck)
 | .binOp op t x y _=>CH P op t x y
 | .unOp op _ x=>some ([x],.pure (Op.un op))
 | .convert src dst x=>wA P src dst x
 | .makeFunc (.func f) a b=>some (a.toList++b.toList,.pure (Op.bZ f a.size))
 | .makeSlice t l c =>
  match P.underlying t with
  | some (.slice e)=>(im P e).bind λ b=>(zeroOf P e).bind λ z=>(bO P e).bind λ n=>if z.cells.length=n then some ([l,c],.alloc (Op.mkSlice e b z.cells)) else none
  | _=>none
 | .slice t x lo hi mx =>
  match P.underlying t with
  | some (.slice e)=>(bO P e).bind λ n=>some (x::iu [lo,hi,mx],.pure (Op.aQ n (eF 0 [lo,hi,mx])))
  | _=>none
 | .fieldAddr t x i =>
  match P.underlying t with
  | some (.struct fs)=>(fs[i]?).bind λ f=>(bO P f.type).bind λ n=>if n == 0 then none else some ([x],.pure (Op.fieldAddr f.offset))
  | _=>none
 | .indexAddr t x i =>
  match P.underlying t with
  | some (.slice e)=>(bO P e).bind λ n=>some ([x,i],.pure (Op.aP n))
  | some (.array k e)=>(bO P e).bind λ n=>some ([x,i],.pure (Op.aT k n))
  | _=>none
 | .extract x i=>some ([x],.pure (Op.extract i))
 | .call c=>tF P c
 | .defer c=>match c.callee with
  | .value f=>some (f::c.args.toList,.defer)
  | _=>none
 | .panic x=>some ([x],.panic)
 | _=>none
def d8 (P:Program) (o:Oper):Option (List bA × dD) :=
 match (HV P o.op).bind λ r=>(jH P.globals.size r.1).bind λ args=>some (args,r.2) with
 | some r=>some r
 | none=>some ([],.pure Op.fail)
inductive EM where
 | pure|read|alloc|eE
 deriving DecidableEq
def kW:dD->EM
 | .pure _=>.pure
 | .read _=>.read
 | .alloc _=>.alloc
 | _=>.eE
def i5 (cls:Nat->EM) (dG:Nat->Nat) (n:Nat):Nat->Nat->List (Bool × Nat)->List (Bool × Nat)
 | 0,_,acc=>acc.reverse
 | fuel+1,done,acc =>
  let ready (i:Nat):Bool:=!done.testBit i && (dG i &&& done) == dG i
  let todo:=(List.range n).filter λ i=>!done.testBit i
  match todo.find? (λ i=>ready i && (cls i == .pure || cls i == .read)) with
  | some i=>i5 cls dG n fuel (done ||| 2 ^ i) ((false,i)::acc)
  | none =>
   -- the next effect: the first one (effects are in a row)
   match todo.find? (λ i=>cls i == .eE) with
   | some e =>
    if ready e then
     let again:=(acc.reverse.filter λ q=>!q.1 && cls q.2 == .read && !(dG e).testBit q.2).map λ q=>(true,q.2)
     i5 cls dG n fuel (done ||| 2 ^ e) (again.reverse++((false,e)::acc))
    else match todo.find? (λ i=>ready i && (dG e).testBit i) with
     | some i=>i5 cls dG n fuel (done ||| 2 ^ i) ((false,i)::acc)
     | none=>acc.reverse
   | none=>match todo.find? ready with
    | some i=>i5 cls dG n fuel (done ||| 2 ^ i) ((false,i)::acc)
    | none=>acc.reverse
def cA {α:Type}:List (Option α)->Option (List α)
 | []=>some []
 | x::xs=>x.bind λ a=>(cA xs).bind λ l=>some (a::l)
def guardOf (ops:Array Oper):Option (Nat × Bool)->Option (Option (Nat × Bool))
 | none=>some none
 | some g=>((ops[g.1]?).bind (·.dst)).bind λ t=>some (some (t,g.2))
def fL (ops:Array Oper) (l:List (List bA × dD)) (safe:Nat->Option (List Nat)) (q:Bool × Nat):Option aU :=
 (ops[q.2]?).bind λ o=>(l[q.2]?).bind λ a=>(guardOf ops o.guard).bind λ g =>
  some { eC:=q.1,dst:=o.dst,guard:=g,args:=a.1,op:=a.2,bN:=safe q.2 }
def i9 (nt:Nat) (o:Oper):Bool :=
 match o.dst with
 | none=>true
 | some d=>Nat.blt d nt
def jQ (a b:Nat):Bool:=Nat.beq (Nat.land a b) a
def bitsOf:List (Bool × Nat)->Nat->Nat
 | [],d=>d
 | (true,_)::l,d=>bitsOf l d
 | (false,i)::l,d=>bitsOf l (Nat.lor d (2 ^ i))
def iR:List (Bool × Nat)->Nat->Nat
 | (true,r)::l,d=>iR l (Nat.lor d (2 ^ r))
 | _,d=>d
def kT (c d:EM):Bool:=match c,d with
 | .pure,.pure=>true
 | .read,.read=>true
 | .alloc,.alloc=>true
 | .eE,.eE=>true
 | _,_=>false
def eT (p:Nat->Bool):Nat->Nat
 | 0=>0
 | n+1=>cond (p n) (Nat.lor (eT p n) (2 ^ n)) (eT p n)
structure gV where
 n:Nat
 dG:Nat->Nat
 cls:Nat->EM
 qQ:Nat->Nat->Bool
 self:Nat->Bool
 made:Nat
 reads:Nat
def FV (I:gV) (done:Nat) (post:List (Bool × Nat)):Bool × Nat->Bool
 | (false,i)=>Nat.blt i I.n && (!done.testBit i && (jQ (I.dG i) done && (match I.cls i with
  | .read=>jQ (Nat.land done I.made) (I.dG i)
  | .eE=>jQ (Nat.land done I.made) (I.dG i) && jQ (Nat.land done I.reads) (Nat.lor (I.dG i) (iR post 0))
  | _=>true)))
 | (true,r)=>kT (I.cls r) .read && (I.self r && (done.testBit r && jQ (Nat.land done (eT (λ w=>!Nat.beq w r && I.qQ r w) I.n)) (I.dG r)))
def Cu (I:gV):List (Bool × Nat)->Nat->Bool
 | [],done=>jQ (2 ^ I.n-1) done
 | (false,i)::post,done=>FV I done post (false,i) && Cu I post (Nat.lor done (2 ^ i))
 | (true,r)::post,done=>FV I done post (true,r) && Cu I post done
def mn (p:Nat->Bool):Nat->Bool
 | 0=>true
 | n+1=>p n && mn p n
def pV (I:gV):Bool:=mn (λ r=>mn (λ w=>Nat.beq r w || ((I.dG r).testBit w || ((I.dG w).testBit r || !I.qQ r w))) I.n) I.n
def tmpsOf:List bA->List Nat
 | []=>[]
 | .tmp t::l=>t::tmpsOf l
 | _::l=>tmpsOf l
def iU (t:Nat):List Nat->Bool
 | []=>false
 | x::l=>Nat.beq x t || iU t l
def eO (ops:Array Oper) (l:List (List bA × dD)) (r:Nat):List Nat :=
 match ops[r]?,l[r]? with
 | some o,some a=>(match guardOf ops o.guard with|some (some g)=>[g.1] | _=>[])++tmpsOf a.1
 | _,_=>[]
def dY (ops:Array Oper) (w:Nat):Option Nat:=(ops[w]?).bind (·.dst)
def dH (ops:Array Oper) (l:List (List bA × dD)) (r:Nat):List Nat :=
 (match dY ops r with|some d=>[d] | none=>[])++eO ops l r
def vC (ops:Array Oper) (l:List (List bA × dD)) (r w:Nat):Bool :=
 match dY ops w with
 | some t=>iU t (dH ops l r)
 | none=>false
def sn (ops:Array Oper) (l:List (List bA × dD)) (r:Nat):Bool :=
 match dY ops r with
 | some t=>!iU t (eO ops l r)
 | none=>true
def iD (l:List (List bA × dD)) (i:Nat):EM:=kW ((l[i]?.getD ([],.recover)).2)
def oS (c:EM):Bool:=kT c .alloc || kT c .eE
def aS (ops:Array Oper) (l:List (List bA × dD)):gV :=
 { n:=ops.size,dG:=λ i=>(Region.before ops).getD i 0,cls:=iD l,qQ:=vC ops l,self:=sn ops l,made:=eT (λ i=>oS (iD l i)) ops.size,reads:=eT (λ i=>kT (iD l i) .read) ops.size }
def nQ (i:Nat):List (Bool × Nat)->List (Bool × Nat)
 | []=>[]
 | (c,j)::l=>cond (!c && Nat.beq j i) [] ((c,j)::nQ i l)
def HM (ops:Array Oper) (I:gV) (plan:List (Bool × Nat)) (i:Nat):Option (List Nat) :=
 let d:=bitsOf (nQ i plan) 0
 cond (mn (λ j=>Nat.beq j i || (d.testBit j || (I.dG j).testBit i)) I.n) (some (ops.toList.filterMap (·.dst))) none
def eP (P:Program) (nt:Nat) (ops:Array Oper) (draw:Bool):Option ah :=
 if ops.toList.all (i9 nt) then
 (cA (ops.toList.map (d8 P))).bind λ l =>
  if draw then
   let I:=aS ops l
   let plan:=i5 I.cls I.dG ops.size (2*ops.size) 0 []
   cond (Cu I plan 0 && pV I) ((cA (plan.map (fL ops l (HM ops I plan)))).bind λ steps=>some (.region steps)) (some .stuck)
  else (cA ((List.range ops.size).map λ i=>fL ops l (λ _=>some []) (false,i))).bind λ steps=>some (.region steps)
 else none
def bH (P:Program) (nt:Nat):Nat->Code->Option (ah × List df)
 | _,.skip=>some (.skip,[])
 | _,.region _ ops draw=>(eP P nt ops draw).bind λ c=>some (c,[])
 | k,.seq a b=>(bH P nt k a).bind λ a=>(bH P nt (k+a.2.length) b).bind λ b=>some (.seq a.1 b.1,a.2++b.2)
 | k,.cond c a b=>(mB P.globals.size c).bind λ c=>(bH P nt k a).bind λ a=>(bH P nt (k+a.2.length) b).bind λ b=>some (.cond c a.1 b.1,a.2++b.2)
 | k,.block id b=>(bH P nt k b).bind λ b=>some (.block id b.1,b.2)
 | k,.loop b=>(bH P nt k b).bind λ b=>some (.loop none b.1,b.2)
 | k,.rangeFunc f ps a b=>(mB P.globals.size f).bind λ f=>(bH P nt (k+1) a).bind λ a=>(bH P nt (k+1+a.2.length) b).bind λ b =>
  if ps.toList.all λ p=>Nat.blt p nt then some (.rangeFunc f k,{ params:=ps.toList,assign:=a.1,body:=b.1 }::(a.2++b.2)) else none
 | _,.exit id=>some (.exit id,[])
 | k,.scope b=>(bH P nt k b).bind λ b=>some (.scope b.1,b.2)
 | _,.label l=>some (.label l,[])
 | _,.goto l=>some (.goto l,[])
 | _,.ret=>some (.ret,[])
 | _,.refuse _=>some (.stuck,[])
def kC (P:Program):List ResultVar->Option (List cQ)
 | []=>some []
 | .tmp t::r=>(kC P r).bind λ l=>some (.tmp t::l)
 | .cell a t::r=>(lG P t).bind λ n=>(kC P r).bind λ l=>some ((match n with|none=>.gn a|some n=>.cz n a)::l)
def nE (P:Program) (fn:Func):Option av :=
 fn.body.bind λ b=>(bH P fn.ntmps 0 b).bind λ c=>(kC P fn.results.toList).bind λ r=>some { results:=r,body:=c.1,loops:=c.2 }
def pL (P:Program) (t:TypeId) (name:String):Option Nat :=
 (P.info? t).bind λ i=>(i.methods.find? (·.name == name)).bind λ m =>
  if !m.path.isEmpty then none else m.func.bind λ p =>
   match P.underlying t,p.2 with
   | none,_=>none
   | some (.pointer _),true=>some p.1
   | some (.pointer _),false=>none
   | some _,true=>none
   | some _,false=>some p.1
def ak (P:Program):fj:={ func:=λ f=>(P.funcs[f]?).bind (nE P),lM:=pL P }
end
end Go.Am
namespace Go.Am
namespace T
variable {α:Type}
theorem go_eq (f:Nat):∀ (g i:Nat),i<=f->i<=g->path.go f i=path.go g i:=by
 induction f with
 | zero=>intro g i hf hg;obtain rfl:i=0:=by omega
         cases g<;>simp [path.go]
 | succ f ih =>
  intro g i hf hg;cases i with
  | zero=>cases g<;>simp [path.go]
  | succ n =>
   cases g with
   | zero=>omega
   | succ g =>
    simp only [path.go];have h:n / 2<=n:=Nat.div_le_self n 2;congr 1;exact ih g (n / 2) (by omega) (by omega)
theorem q2i:path 0=[]:=rfl
theorem JI (n:Nat):path (n+1)=Nat.beq (n % 2) 0::path (n / 2):=by
 show path.go (n+1) (n+1)=_;simp only [path.go];have h:n / 2<=n:=Nat.div_le_self n 2;exact congrArg (Nat.beq (n % 2) 0 :: ·) (go_eq n (n / 2) (n / 2) h (qh _))
theorem rL:∀ (i j:Nat),path i=path j->i=j:=by
 intro i
 induction i using Nat.strongRecOn with
 | _ i ih =>
  intro j h;cases i with
  | zero=>cases j with
   | zero=>rfl
   | succ m=>rw [q2i,JI] at h;cases h
  | succ n=>cases j with
   | zero=>rw [q2i,JI] at h;cases h
   | succ m =>
    rw [JI,JI] at h;injection h with h1 h2
    have h3:=ih (n / 2) (by have:=Nat.div_le_self n 2;omega) (m / 2) h2;have h4:n % 2=m % 2:=by
     rcases Nat.mod_two_eq_zero_or_one n with a|a<;>rcases Nat.mod_two_eq_zero_or_one m with b|b<;>simp_all
    omega
theorem sB (p:List Bool):oE p (.nil:T α)=none:=by
 induction p with
 | nil=>rfl
 | cons b p ih=>cases b<;>exact ih
theorem qxs (v:Option α):∀ (p:List Bool) (t:T α),oE p (nH v p t)=v:=by
 intro p
 induction p with
 | nil=>intro t;rfl
 | cons b p ih=>intro t;cases b<;>exact ih _
theorem q1u (v:Option α):∀ (p q:List Bool) (t:T α),p ≠ q->oE q (nH v p t)=oE q t:=by
 intro p
 induction p with
 | nil =>
  intro q t h;cases q with
  | nil=>exact absurd rfl h
  | cons b q=>cases b<;>rfl
 | cons b p ih =>
  intro q t h;cases q with
  | nil=>cases b<;>rfl
  | cons c q =>
   cases b<;>cases c
   ·exact ih q _ (λ e=>h (by rw [e]))
   ·rfl
   ·rfl
   ·exact ih q _ (λ e=>h (by rw [e]))
theorem fN (t:T α) (i j:Nat) (v:Option α):(t.put i v).get j=if i=j then v else t.get j:=by
 unfold get put
 by_cases h:i=j
 ·subst h;simp [qxs]
 ·simp only [h,qv];exact q1u v _ _ t (λ e=>h (rL i j e))
theorem aJ (t:T α) (i j:Nat) (v:α):(t.set i v).get j=if i=j then some v else t.get j:=fN t i j (some v)
theorem get_nil (j:Nat):(T.nil:T α).get j=none:=sB _
theorem fq (p:List Bool) (t:T α):(iT p).run t=oE p t:=by
 induction p generalizing t with
 | nil=>rfl
 | cons b p ih=>cases b<;>exact ih _
theorem tE (v:Option α) (p:List Bool) (t:T α):(qW p).run v t=nH v p t:=by
 induction p generalizing t with
 | nil=>rfl
 | cons b p ih =>
  cases b
  ·show T.node t.l t.val ((qW p).run v t.r)=T.node t.l t.val (nH v p t.r);rw [ih]
  ·show T.node ((qW p).run v t.l) t.val t.r=T.node (nH v p t.l) t.val t.r;rw [ih]
end T
section
variable {α:Type}
theorem iS (l:List α) (i:Nat):nth l i=l[i]?:=by
 induction l generalizing i with
 | nil=>rfl
 | cons x l ih=>cases i with
  | zero=>rfl
  | succ n=>exact ih n
theorem jF (a b:List α):fH a b=a++b:=by
 induction a with
 | nil=>rfl
 | cons x a ih=>exact congrArg (x :: ·) ih
theorem zN (l:List α):ct l=l.length:=by
 induction l with
 | nil=>rfl
 | cons x l ih=>exact congrArg (·+1) ih
theorem uZ (n:Nat) (l:List α):aO n l=l.drop n:=by
 induction n generalizing l with
 | zero=>rfl
 | succ n ih=>cases l with
  | nil=>exact (ih []).trans (by simp)
  | cons x l=>exact ih l
theorem sf (n:Nat) (l:List α):wB n l=if n<=l.length then some (l.take n) else none:=by
 induction n generalizing l with
 | zero=>rfl
 | succ n ih=>cases l with
  | nil=>rfl
  | cons x l =>
   show (wB n l).bind (λ r=>some (x::r))=_;rw [ih]
   by_cases h:n<=l.length<;>simp [h]
theorem uV (new l:List α):pI new l=if new.length<=l.length then some (new++l.drop new.length) else none:=by
 induction new generalizing l with
 | nil=>rfl
 | cons x new ih=>cases l with
  | nil=>rfl
  | cons y l =>
   show (pI new l).bind (λ r=>some (x::r))=_;rw [ih]
   by_cases h:new.length<=l.length<;>simp [h]
theorem wM (o:Nat) (new l:List α):putAt o new l=if o+new.length<=l.length then some (l.take o++new++l.drop (o+new.length)) else none:=by
 induction o generalizing l with
 | zero=>show pI new l=_;rw [uV];simp
 | succ o ih=>cases l with
  | nil =>
   show none=_;rw [qe (by simp only [xK];omega)]
  | cons x l =>
   show (putAt o new l).bind (λ r=>some (x::r))=_;rw [ih]
   by_cases h:o+new.length<=l.length
   ·rw [qm h,qm (by simp;omega)];simp [show o+1+new.length=(o+new.length)+1 from by omega]
   ·rw [qe h,qe (by simp;omega)];rfl
theorem oe (l:List α) (o n:Nat):dW l o n=if n<=l.length-o then some ((l.drop o).take n) else none:=by
 unfold dW;rw [sf,uZ,j5]
end
theorem wV (a b:Int):nh a b=decide (a<=b):=by
 cases a<;>cases b<;>rw [Bool.eq_iff_iff]<;>simp [nh,we]<;>try omega
theorem JM (a b:Int):Ix a b=decide (a<b):=by
 unfold Ix;rw [wV];rw [Bool.eq_iff_iff];simp
theorem At (a b:Int):po a b=(a == b):=by
 rw [Bool.eq_iff_iff,BQ];cases a<;>cases b<;>simp [po]<;>omega
theorem KV (a b:IntKind):nR a b=decide (a=b):=by cases a<;>cases b<;>rfl
theorem vW (a b:UInt8):Gw a b=(a == b):=by
 unfold Gw;rw [Bool.eq_iff_iff];simp only [zy,BQ];exact ⟨λ h=>UInt8.toNat_inj.1 h,λ h=>by rw [h]⟩
theorem FF (a b:List UInt8):rn a b=(a == b):=by
 induction a generalizing b with
 | nil=>cases b<;>rfl
 | cons x a ih=>cases b with
  | nil=>rfl
  | cons y b =>
   show cond (Gw x y) (rn a b) false=_;rw [ih,vW];cases h:(x == y)<;>simp [h]
end Go.Am
namespace Go.Am
structure Th where
 bF:Nat->Nat
 off:Nat->Nat
 ext:Nat->Nat
def db (θ:Th):ff->Fn
 | .func f=>.func f
 | .yield l=>.yield (θ.bF l)
def rV:Nat->Option Nat
 | 0=>none
 | n+1=>some n
mutual
def aD (θ:Th):AV->Value
 | .bool b=>.bool b
 | .int k n=>.int k n
 | .str s=>.string ⟨s.toArray⟩
 | .nilp=>.pointer none
 | .ptr b o=>.pointer (some ⟨θ.bF b,θ.off b+o,none⟩)
 | .nils=>.slice none 0 0
 | .slice b o n c=>.slice (some ⟨θ.bF b,θ.off b+o,none⟩) n c
 | .gslice b i m s alt n=>.slice (some ⟨θ.bF b,θ.off b+(if (m-i) + θ.ext b=0 then alt else i*s),none⟩) n ((m-i) + θ.ext b)
 | .eslice b=>.slice (some ⟨θ.bF b,θ.off b,rV (θ.ext b)⟩) 0 0
 | .kU=>.map none
 | .map b=>.map (some (θ.bF b))
 | .fn f a b=>.func (db θ f) (bt θ a).toArray (bt θ b).toArray
 | .nilf=>.nilFunc
 | .iface t v=>.iface t (aD θ v)
 | .nili=>.nilIface
 | .agg l=>.agg (bt θ l).toArray
 | .tuple l=>.tuple (bt θ l).toArray
def bt (θ:Th):List AV->List Value
 | []=>[]
 | v::vs=>aD θ v::bt θ vs
end
theorem mU (θ:Th) (l:List AV):bt θ l=l.map (aD θ):=by
 induction l with
 | nil=>rfl
 | cons x l ih=>simp [bt,ih]
def Ag (D:Nat->Prop) (θ θ':Th):Prop:=∀ b,D b -> θ'.bF b = θ.bF b /\ θ'.off b = θ.off b /\ θ'.ext b = θ.ext b
theorem Ag.refl (D:Nat->Prop) (θ:Th):Ag D θ θ:=λ _ _=>⟨rfl,rfl,rfl⟩
theorem Ag.trans {D D':Nat->Prop} {θ θ' θ'':Th} (h:Ag D θ θ') (h':Ag D' θ' θ'') (hd:∀ b,D b->D' b):Ag D θ θ'':=λ b hb =>
 let ⟨a1,a2,a3⟩:=h b hb;let ⟨b1,b2,b3⟩:=h' b (hd b hb);⟨b1.trans a1,b2.trans a2,b3.trans a3⟩
theorem Ag.mono {D D':Nat->Prop} {θ θ':Th} (h:Ag D θ θ') (hd:∀ b,D' b->D b):Ag D' θ θ':=λ b hb=>h b (hd b hb)
def VR (D:Nat->Prop) (θ:Th) (v:AV) (c:Value):Prop:=∀ θ',Ag D θ θ'->aD θ' v=c
def bz (D:Nat->Prop) (θ:Th) (l:List AV) (cs:List Value):Prop:=∀ θ',Ag D θ θ'->bt θ' l=cs
section
variable {D D':Nat->Prop} {θ θ':Th}
theorem VR.now {v:AV} {c:Value} (h:VR D θ v c):aD θ v=c:=h θ (Ag.refl D θ)
theorem bz.now {l:List AV} {cs:List Value} (h:bz D θ l cs):bt θ l=cs:=h θ (Ag.refl D θ)
theorem VR.up {v:AV} {c:Value} (h:VR D θ v c) (ha:Ag D θ θ') (hd:∀ b,D b->D' b):VR D' θ' v c:=λ θ'' h'=>h θ'' (ha.trans h' hd)
theorem bz.up {l:List AV} {cs:List Value} (h:bz D θ l cs) (ha:Ag D θ θ') (hd:∀ b,D b->D' b):bz D' θ' l cs:=λ θ'' h'=>h θ'' (ha.trans h' hd)
theorem bz.nil:bz D θ [] []:=λ _ _=>rfl
theorem bz.cons {v:AV} {c:Value} {l:List AV} {cs:List Value} (h:VR D θ v c) (hl:bz D θ l cs):bz D θ (v::l) (c::cs) :=
 λ θ' ha=>by simp [bt,h θ' ha,hl θ' ha]
theorem bz.dF {v:AV} {l:List AV} {cs:List Value} (h:bz D θ (v::l) cs):∃ c cs',cs=c::cs'/\VR D θ v c/\bz D θ l cs':=by
 refine ⟨aD θ v,bt θ l,(by rw [<-h.now];rfl),λ θ' ha=>?_,λ θ' ha=>?_⟩
 ·have:=(h θ' ha).trans h.now.symm;simp only [bt] at this;injection this
 ·have:=(h θ' ha).trans h.now.symm;simp only [bt] at this;injection this
theorem bz.mH {cs:List Value} (h:bz D θ [] cs):cs=[]:=h.now.symm
theorem bz.length {l:List AV} {cs:List Value} (h:bz D θ l cs):cs.length=l.length:=by rw [<-h.now,mU];simp
theorem bz.app {l l':List AV} {cs cs':List Value} (h:bz D θ l cs) (h':bz D θ l' cs'):bz D θ (l++l') (cs++cs'):=by
 intro θ' ha;rw [mU,EC,<-mU,<-mU,h θ' ha,h' θ' ha]
theorem bz.kK {l:List AV} {cs:List Value} (h:bz D θ l cs) {i:Nat} {v:AV} (hv:l[i]? = some v):∃ c,cs[i]? = some c/\VR D θ v c:=by
 refine ⟨aD θ v,?_,λ θ' ha=>?_⟩
 ·rw [<-h.now,mU,xj,hv];rfl
 ·have:=(h θ' ha).trans h.now.symm;rw [mU,mU] at this;have h2:=congrArg (λ l=>l[i]?) this;simp only [xj,hv,Ff,qd] at h2;exact h2
theorem bz.drop {l:List AV} {cs:List Value} (h:bz D θ l cs) (n:Nat):bz D θ (l.drop n) (cs.drop n):=by
 intro θ' ha;rw [mU,List.map_drop,<-mU,h θ' ha]
theorem bz.take {l:List AV} {cs:List Value} (h:bz D θ l cs) (n:Nat):bz D θ (l.take n) (cs.take n):=by
 intro θ' ha;rw [mU,List.map_take,<-mU,h θ' ha]
theorem bz.one {v:AV} {c:Value} (h:VR D θ v c):bz D θ [v] [c]:=.cons h .nil
theorem VR.agg {l:List AV} {cs:List Value} (h:bz D θ l cs):VR D θ (.agg l) (.agg cs.toArray):=λ θ' ha=>by simp [aD,h θ' ha]
theorem VR.tuple {l:List AV} {cs:List Value} (h:bz D θ l cs):VR D θ (.tuple l) (.tuple cs.toArray):=λ θ' ha=>by simp [aD,h θ' ha]
theorem VR.fI {l:List AV} {c:Value} (h:VR D θ (.agg l) c):∃ cs:List Value,c=.agg cs.toArray/\bz D θ l cs:=by
 refine ⟨bt θ l,h.now.symm,λ θ' ha=>?_⟩;have:=(h θ' ha).trans h.now.symm;simpa [aD] using this
theorem VR.qA {l:List AV} {c:Value} (h:VR D θ (.tuple l) c):∃ cs:List Value,c=.tuple cs.toArray/\bz D θ l cs:=by
 refine ⟨bt θ l,h.now.symm,λ θ' ha=>?_⟩;have:=(h θ' ha).trans h.now.symm;simpa [aD] using this
theorem VR.iface {t:Nat} {v:AV} {c:Value} (h:VR D θ v c):VR D θ (.iface t v) (.iface t c):=λ θ' ha=>by simp [aD,h θ' ha]
theorem VR.gO {t:Nat} {v:AV} {c:Value} (h:VR D θ (.iface t v) c):∃ c',c=.iface t c'/\VR D θ v c':=by
 refine ⟨aD θ v,h.now.symm,λ θ' ha=>?_⟩;have:=(h θ' ha).trans h.now.symm;simpa [aD] using this
theorem VR.undef:VR D θ .undef Go.undef:=λ _ _=>rfl
theorem VR.bool (b:Bool):VR D θ (.bool b) (.bool b):=λ _ _=>rfl
theorem VR.int (k:IntKind) (n:Int):VR D θ (.int k n) (.int k n):=λ _ _=>rfl
theorem VR.str (s:List UInt8):VR D θ (.str s) (.string ⟨s.toArray⟩):=λ _ _=>rfl
theorem VR.ptr {b o:Nat} (hb:D b):VR D θ (.ptr b o) (.pointer (some ⟨θ.bF b,θ.off b+o,none⟩)):=λ θ' ha=>by obtain ⟨h1,h2,_⟩:=ha b hb;simp [aD,h1,h2]
theorem VR.map {b:Nat} (hb:D b):VR D θ (.map b) (.map (some (θ.bF b))):=λ θ' ha=>by obtain ⟨h1,_,_⟩:=ha b hb;simp [aD,h1]
theorem VR.slice {b o n c:Nat} (hb:D b):VR D θ (.slice b o n c) (aD θ (.slice b o n c)):=λ θ' ha=>by obtain ⟨h1,h2,_⟩:=ha b hb;simp [aD,h1,h2]
theorem VR.gslice {b i m s alt n:Nat} (hb:D b):VR D θ (.gslice b i m s alt n) (aD θ (.gslice b i m s alt n)):=λ θ' ha=>by
 obtain ⟨h1,h2,h3⟩:=ha b hb;simp [aD,h1,h2,h3]
end
def AW (fz cfz:Nat × Nat) (off size:Nat):Prop:=cfz.1=cfz.2\/(cfz.1<cfz.2/\off+fz.1<=cfz.1/\cfz.2<=off+fz.2)\/(fz.2<fz.1/\(size<=cfz.1\/cfz.2<=off))
def B7 (fz cfz:Nat × Nat):Prop:=cfz.1=cfz.2\/(cfz.1<cfz.2/\fz.1<=cfz.1/\cfz.2<=fz.2)
def own:bK->Bool
 | .row _ _ _ o=>o
 | _=>true
def jS (D:Nat->Prop) (θ:Th) (tm:T AV) (a:Array Value):Prop:=∀ t v,tm.get t=some v -> ∃ c,a[t]? = some c/\VR D θ v c
def stR:iq->LoopState
 | .ready=>.ready | .busy=>.busy | .done=>.done | .exhausted=>.exhausted
def hH:dX->Code
 | .exit id=>.exit id
 | .goto l=>.goto l
 | .ret=>.ret
def HA (D:Nat->Prop) (θ:Th) (e:AV × AV × Nat) (m:MapEntry):Prop:=VR D θ e.1 m.key/\VR D θ e.2.1 m.val/\m.born=e.2.2
def du (D:Nat->Prop) (θ:Th):List (AV × AV × Nat)->List MapEntry->Prop
 | [],[]=>True
 | e::es,m::ms=>HA D θ e m/\du D θ es ms
 | _,_=>False
def oq (P:Program) (f k n:Nat) (params:Array Tmp) (assign body:Code):Prop :=
 ∃ fn af lp ka kb L1 L2,P.funcs[f]? = some fn/\nE P fn=some af/\nth af.loops k=some lp/\lp.params=params.toList/\(∀ p ∈ params.toList,p<fn.ntmps)/\fn.ntmps<=n /\
  bH P fn.ntmps ka assign=some (lp.assign,L1)/\(∀ i l,nth L1 i=some l->nth af.loops (ka+i)=some l) /\
  bH P fn.ntmps kb body=some (lp.body,L2)/\(∀ i l,nth L2 i=some l->nth af.loops (kb+i)=some l)
def NV (D:Nat->Prop) (θ:Th):aM->Deferred->Prop
 | .eU b,d=>D b/\d = { target:=.collected (θ.bF b),args:=#[] }
 | .fn f args,d=>∃ c cap:Array Value,d = { target:=.fn (db θ f) cap,args:=c }/\(∀ θ',Ag D θ θ'->db θ' f=db θ f)/\bz D θ args (c++cap).toList
def jL (P:Program) (D:Nat->Prop) (θ:Th) (b:Nat):bK->Obj->Prop
 | .row cells e fz ow,o=>∃ pre cs post cfz e',o=.cells (pre++cs++post).toArray e' cfz/\pre.length = θ.off b/\bz D θ cells cs /\
  (ow=true->e'=e/\pre=[]/\post=[]/\B7 fz cfz)
 | .grown m size cells e fz,o=>∃ pre cs post cfz,o=.cells (pre++cs++post).toArray e cfz/\pre.length = θ.off b/\bz D θ cells cs /\
  cells.length=m*size/\post.length = θ.ext b*size/\0<size/\m + θ.ext b<=maxLen/\AW fz cfz (θ.off b) (pre.length+cs.length+post.length)
 | .map es clock,o=>∃ ms:List MapEntry,o=.map ms.toArray clock/\du D θ es ms
 | .mJ s pos,o=>o=.stringIter ⟨s.toArray⟩ pos /\ θ.off b=0
 | .loop st pend f k tm d,o=>∃ r:Loop,o=.loop r/\r.state=stR st/\r.pending=pend.map hH/\r.fn=f/\jS D θ tm r.tmps/\oq P f k r.tmps.size r.params r.assign r.body /\
  D d/\r.defers = θ.bF d
 | .deferred calls,o=>∃ ds,o=.deferred ds/\(match calls,ds with
  | none,none=>True
  | some l,some l'=>l=[]/\l'=[]
  | _,_=>False)
structure HR (P:Program) (base:Nat) (D:Nat->Prop) (θ:Th) (H:AHeap) (w:World):Prop where
 obj:∀ b o,H.get b=some o->D b /\ ∃ co,w.heap[θ.bF b]? = some co/\jL P D θ b o co
 inj:∀ b b' o o',H.get b=some o->H.get b'=some o'->own o=true->b ≠ b' -> θ.bF b ≠ θ.bF b'
 gw:∀ b o,H.get b=some o->own o=true->base <= θ.bF b
 cY:∀ g,g<P.globals.size->D g /\ θ.bF g=g /\ θ.off g=0
 low:base<=w.heap.size
def Lt (n:Nat):Nat->Prop:=λ b=>b<n
end Go.Am
namespace Go.Am
theorem pQ (k o i:Nat):(⟨k,o,none⟩:Addr).add i=⟨k,o+i,none⟩:=by unfold Addr.add;split<;>simp_all
def dB (w:World) (k:Nat) (o:Obj):World:={ w with heap:=w.heap.setIfInBounds k o }
theorem JO (w:World) (k:Nat) (o:Obj):(dB w k o).heap.size=w.heap.size:=by simp [dB]
theorem Cr (w:World) (k j:Nat) (o:Obj) (h:k<w.heap.size):(dB w k o).heap[j]? = if k=j then some o else w.heap[j]?:=by
 simp only [dB,vg];split<;>simp_all
theorem xaj (w:World) (k:Nat) (o o':Obj):dB (dB w k o) k o'=dB w k o':=by
 simp [dB]
theorem xai (w:World) (k:Nat) (o:Obj) (h:w.heap[k]? = some o):dB w k o=w:=by
 have:w.heap.setIfInBounds k o=w.heap:=by
  apply Array.ext_getElem?;intro j;rw [vg]
  by_cases hj:k=j
  ·subst hj;obtain ⟨hk,h2⟩:=j9.1 h;simp [hk,h2]
  ·simp [hj]
 simp only [dB,this]
theorem vL (w:World) (o:Obj) (j:Nat):(w.alloc o).heap[j]? = if j=w.heap.size then some o else w.heap[j]?:=by
 simp only [World.alloc,Array.getElem?_push]
section
variable {P:Program} {w:World} {k:Nat} {arr:Array Value} {e:TypeId} {fz:Nat × Nat}
theorem Gq (h:w.heap[k]? = some (.cells arr e fz)) (o:Nat):w.cell? ⟨k,o,none⟩=arr[o]?:=by simp [World.cell?,h]
theorem q91 (h:w.heap[k]? = some (.cells arr e fz)) {o:Nat} {v:Value} (hv:arr[o]? = some v):(load ⟨k,o,none⟩).run P w=.ok v w:=by
 rw [run_load,Gq h,hv]
theorem q2r (h:w.heap[k]? = some (.cells arr e fz)) (o n:Nat) (hn:n<=arr.size-o) :
 (loadCells ⟨k,o,none⟩ n).run P w=.ok ((arr.toList.drop o).take n).toArray w:=by
 have hl:((arr.toList.drop o).take n).length=n:=by simp;omega
 have:=run_loadCells_list (P:=P) w ⟨k,o,none⟩ ((arr.toList.drop o).take n) (λ j v hv=>by
  rw [pQ,Gq h];rw [kr] at hv;split at hv
  ·simpa using hv
  ·cases hv)
 rwa [hl] at this
theorem J1 (hlo:Nat):∀ (vs:List Value) (i:Nat) (arr:Array Value) (w:World),w.heap[k]? = some (.cells arr e fz) ->
 hlo+i+vs.length<=arr.size->(∀ j,j<vs.length -> ¬ (fz.1<=hlo+i+j/\hlo+i+j<fz.2))->(∀ v ∈ vs,v.oneCell'=true) ->
 (storeCells ⟨k,hlo,none⟩ vs i).run P w=.ok () (dB w k (.cells (arr.toList.take (hlo+i)++vs++arr.toList.drop (hlo+i+vs.length)).toArray e fz))
 | [],i,arr,w,hg,_,_,_=>by
  simp only [storeCells,zb,xK,qf,kn,HO];rw [xai w k _ hg];rfl
 | v::rest,i,arr,w,hg,hl,hf,h1=>by
  have hi:hlo+i<arr.size:=by simp at hl;omega
  have hk:k<w.heap.size:=(j9.1 hg).1;have hcell:w.cell? ⟨k,hlo+i,none⟩=some arr[hlo+i]:=by rw [Gq hg];simp [hi]
  have hfro:w.frozen? ⟨k,hlo+i,none⟩=false:=by
   have:=hf 0 (by simp);simp only [World.frozen?,hg];simp at this ⊢;omega
  have hset:w.setCell ⟨k,hlo+i,none⟩ v=dB w k (.cells (arr.setIfInBounds (hlo+i) v) e fz):=by
   simp only [World.setCell,dB];congr 1;apply Array.ext_getElem?;intro j;rw [Array.getElem?_modify,vg]
   by_cases hj:k=j
   ·subst hj;have h2:=(j9.1 hg).2;simp [hk,h2]
   ·simp [hj]
  have hst:(store ((⟨k,hlo,none⟩:Addr).add i) v).run P w=.ok () (dB w k (.cells (arr.setIfInBounds (hlo+i) v) e fz)):=by
   rw [pQ,run_store P w _ v _ (h1 v (by simp)),hcell];simp [hfro,hset]
  have ih:=J1 hlo rest (i+1) (arr.setIfInBounds (hlo+i) v) (dB w k (.cells (arr.setIfInBounds (hlo+i) v) e fz))
   (by rw [Cr _ _ _ _ hk];simp) (by simp at hl ⊢;omega)
   (λ j hj=>by have:=hf (j+1) (by simpa using hj);rwa [show hlo+i+(j+1)=hlo+(i+1)+j from by omega] at this)
   (λ x hx=>h1 x (by simp [hx]))
  simp only [storeCells,Sem.run_bind,hst,Result.andThen_ok,ih,xaj];congr 3;have ee:=list_seg_step arr.toList (hlo+i) v rest (by simp at hl ⊢;omega)
  simpa [Array.toList_setIfInBounds,vh] using ee
end
def Up (D:Nat->Prop) (n m:Nat):Nat->Prop:=λ b=>D b\/(n<=b/\b<m)
theorem Up.of {D:Nat->Prop} {n m:Nat}:∀ b,D b->Up D n m b:=λ _ h=>.inl h
def cJ (D:Nat->Prop) (n m:Nat):Prop:=∀ b,n<=b->b<m -> ¬ D b
theorem Up.up {D:Nat->Prop} {n m k:Nat} (h:n<=m) (h':m<=k):Up (Up D n m) m k=Up D n k:=by
 funext b;simp only [Up,eq_iff_iff];constructor
 ·rintro ((h1|⟨h1,h2⟩) | ⟨h1,h2⟩)
  ·exact .inl h1
  ·exact .inr ⟨h1,by omega⟩
  ·exact .inr ⟨by omega,h2⟩
 ·rintro (h1|⟨h1,h2⟩)
  ·exact .inl (.inl h1)
  ·by_cases hb:b<m
   ·exact .inl (.inr ⟨h1,hb⟩)
   ·exact .inr ⟨by omega,h2⟩
theorem Up.none {D:Nat->Prop} {n:Nat}:Up D n n=D:=by
 funext b;simp only [Up,eq_iff_iff];constructor
 ·rintro (h|⟨h1,h2⟩)
  ·exact h
  ·omega
 ·exact .inl
theorem cJ.left {D:Nat->Prop} {n m k:Nat} (h:cJ D n k) (hk:m<=k):cJ D n m:=λ b h1 h2=>h b h1 (by omega)
theorem cJ.right {D:Nat->Prop} {n m k:Nat} (h:cJ D n k) (hm:n<=m):cJ (Up D n m) m k:=λ b h1 h2 h3=>by
 rcases h3 with h3|⟨_,h4⟩
 ·exact h b (by omega) h2 h3
 ·omega
structure ba (D:Nat->Prop) (H:AHeap) (θ:Th) (w:World) (H':AHeap) (θ':Th) (w':World):Prop where
 next:H.next<=H'.next
 ag:Ag D θ θ'
 size:w.heap.size<=w'.heap.size
 os:w'.os=w.os
 tape:w'.tape=w.tape
 output:w'.output=w.output
 ae:∀ k,k<w.heap.size->(∀ b o,H.get b=some o->own o=true -> θ.bF b ≠ k)->w'.heap[k]? = w.heap[k]?
 news:∀ b o,H'.get b=some o->own o=true -> θ'.bF b<w.heap.size -> ∃ b' o',H.get b'=some o'/\own o'=true /\ θ.bF b' = θ'.bF b
theorem ba.refl (D:Nat->Prop) (H:AHeap) (θ:Th) (w:World):ba D H θ w H θ w :=
 ⟨qh _,Ag.refl _ _,qh _,rfl,rfl,rfl,λ _ _ _=>rfl,λ b o h ho _=>⟨b,o,h,ho,rfl⟩⟩
theorem ba.trans {D D':Nat->Prop} {H H' H'':AHeap} {θ θ' θ'':Th} {w w' w'':World} (a:ba D H θ w H' θ' w') (b:ba D' H' θ' w' H'' θ'' w'') (hd:∀ b,D b->D' b):ba D H θ w H'' θ'' w'':=by
 refine ⟨xu a.next b.next,a.ag.trans b.ag hd,xu a.size b.size,b.os.trans a.os,b.tape.trans a.tape,b.output.trans a.output,?_,?_⟩
 ·intro k hk hno;refine (b.ae k (qp hk a.size) ?_).trans (a.ae k hk hno);intro x o hx ho he;obtain ⟨b',o',h1,h2,h3⟩:=a.news x o hx ho (by omega);exact hno b' o' h1 h2 (by omega)
 ·intro x o hx ho hlt;obtain ⟨b',o',h1,h2,h3⟩:=b.news x o hx ho (qp hlt a.size);obtain ⟨b'',o'',g1,g2,g3⟩:=a.news b' o' h1 h2 (by omega);exact ⟨b'',o'',g1,g2,by omega⟩
theorem ba.draw {D:Nat->Prop} {H:AHeap} {θ:Th} {w w':World} (hh:w'.heap=w.heap) (ho:w'.os=w.os) (ht:w'.tape=w.tape) (hp:w'.output=w.output):ba D H θ w H θ w' :=
 ⟨qh _,Ag.refl _ _,by rw [hh];exact qh _,ho,ht,hp,λ _ _ _=>by rw [hh],λ b o h hw _=>⟨b,o,h,hw,rfl⟩⟩
theorem HR.draw {P:Program} {base:Nat} {D:Nat->Prop} {θ:Th} {H:AHeap} {w w':World} (h:HR P base D θ H w) (hh:w'.heap=w.heap):HR P base D θ H w' :=
 ⟨λ b o hb=>by rw [hh];exact h.obj b o hb,h.inj,h.gw,h.cY,by rw [hh];exact h.low⟩
theorem du.up {D D':Nat->Prop} {θ θ':Th} (ha:Ag D θ θ') (hd:∀ b,D b->D' b):∀ (es:List (AV × AV × Nat)) (ms:List MapEntry),du D θ es ms->du D' θ' es ms
 | [],[],_=>trivial
 | e::es,m::ms,⟨⟨h1,h2,h3⟩,h⟩=>⟨⟨h1.up ha hd,h2.up ha hd,h3⟩,du.up ha hd es ms h⟩
 | [],_::_,h=>h.elim
 | _::_,[],h=>h.elim
theorem jL.up {P:Program} {D D':Nat->Prop} {θ θ':Th} {b:Nat} {o:bK} {co:Obj} (h:jL P D θ b o co) (hb:D b) (ha:Ag D θ θ') (hd:∀ b,D b->D' b):jL P D' θ' b o co:=by
 obtain ⟨e1,e2,e3⟩:=ha b hb;cases o with
 | row cells e fz ow =>
  obtain ⟨pre,cs,post,cfz,et,h1,h2,h3,h4⟩:=h;exact ⟨pre,cs,post,cfz,et,h1,by rw [e2];exact h2,h3.up ha hd,h4⟩
 | grown m size cells e fz =>
  obtain ⟨pre,cs,post,cfz,h1,h2,h3,h4,h5,h6,h7,h8⟩:=h;exact ⟨pre,cs,post,cfz,h1,by rw [e2];exact h2,h3.up ha hd,h4,by rw [e3];exact h5,h6,by rw [e3];exact h7,by rw [e2];exact h8⟩
 | map es clock =>
  obtain ⟨ms,h1,h2⟩:=h;exact ⟨ms,h1,du.up ha hd _ _ h2⟩
 | mJ s pos=>exact ⟨h.1,e2.trans h.2⟩
 | loop st pend f k tm d =>
  obtain ⟨r,h1,h2,h3,h4,h5,h6,h7,h8⟩:=h;exact ⟨r,h1,h2,h3,h4,λ t v hv=>let ⟨c,hc,hr⟩:=h5 t v hv;⟨c,hc,hr.up ha hd⟩,h6,hd d h7,by rw [(ha d h7).1];exact h8⟩
 | deferred calls=>exact h
theorem HR.up {P:Program} {base:Nat} {D D':Nat->Prop} {θ:Th} {H:AHeap} {w:World} (h:HR P base D θ H w) (hd:∀ b,D b->D' b):HR P base D' θ H w :=
 ⟨λ b o hb=>let ⟨h1,co,h2,h3⟩:=h.obj b o hb;⟨hd b h1,co,h2,h3.up h1 (Ag.refl _ _) hd⟩,h.inj,h.gw,λ g hg=>⟨hd g (h.cY g hg).1,(h.cY g hg).2⟩,h.low⟩
section
variable {P:Program} {base:Nat} {D:Nat->Prop} {θ:Th} {H:AHeap} {w:World}
theorem HR.lt (h:HR P base D θ H w) {b:Nat} {o:bK} (hb:H.get b=some o):θ.bF b<w.heap.size:=by
 obtain ⟨_,co,hc,_⟩:=h.obj b o hb;exact (j9.1 hc).1
theorem AHeap.aJ (H:AHeap) (b b':Nat) (o:bK):(H.set b o).get b'=if b=b' then some o else H.get b':=T.aJ _ _ _ _
theorem AHeap.bj (H:AHeap) (b':Nat) (o:bK):(H.alloc o).get b'=if H.next=b' then some o else H.get b':=T.aJ _ _ _ _
theorem AHeap.kF (H:AHeap) (b b':Nat):(H.kill b).get b'=if b=b' then none else H.get b':=T.fN _ _ _ _
theorem HR.set (h:HR P base D θ H w) {b:Nat} {o o':bK} {co':Obj} (hb:H.get b=some o) (ho:own o=true) (ho':own o'=true) (hr:jL P D θ b o' co') :
 HR P base D θ (H.set b o') (dB w (θ.bF b) co'):=by
 have hlt:=h.lt hb;refine ⟨λ x ox hx=>?_,λ x y ox oy hx hy hox hne=>?_,λ x ox hx hox=>?_,h.cY,by rw [JO];exact h.low⟩
 ·rw [AHeap.aJ] at hx
  by_cases e:b=x
  ·subst e;simp only [xa,qd] at hx;subst hx;exact ⟨(h.obj b o hb).1,co',by rw [Cr _ _ _ _ hlt];simp,hr⟩
  ·simp only [e,qv] at hx;obtain ⟨h1,co,h2,h3⟩:=h.obj x ox hx;exact ⟨h1,co,by rw [Cr _ _ _ _ hlt,qe (h.inj b x o ox hb hx ho e)];exact h2,h3⟩
 ·rw [AHeap.aJ] at hx hy
  by_cases e:b=x<;>by_cases e':b=y
  ·exact absurd (e.symm.trans e') hne
  ·subst e;simp only [e',qv] at hy;exact h.inj b y o oy hb hy ho hne
  ·subst e';simp only [e,qv] at hx;exact h.inj x b ox o hx hb hox hne
  ·simp only [e,e',qv] at hx hy;exact h.inj x y ox oy hx hy hox hne
 ·rw [AHeap.aJ] at hx
  by_cases e:b=x
  ·subst e;exact h.gw b o hb ho
  ·simp only [e,qv] at hx;exact h.gw x ox hx hox
theorem ba.set {b:Nat} {o o':bK} {co':Obj} (hb:H.get b=some o) (ho:own o=true) (hlt:θ.bF b<w.heap.size) :
 ba D H θ w (H.set b o') θ (dB w (θ.bF b) co'):=by
 refine ⟨qh _,Ag.refl _ _,by rw [JO];exact qh _,rfl,rfl,rfl,λ k hk hno=>?_,λ x ox hx hox _=>?_⟩
 ·rw [Cr _ _ _ _ hlt,qe (hno b o hb ho)]
 ·rw [AHeap.aJ] at hx
  by_cases e:b=x
  ·subst e;exact ⟨b,o,hb,ho,rfl⟩
  ·simp only [e,qv] at hx;exact ⟨x,ox,hx,hox,rfl⟩
def Th.add (θ:Th) (n bF off ext:Nat):Th:={ bF:=λ b=>if b=n then bF else θ.bF b,off:=λ b=>if b=n then off else θ.off b,ext:=λ b=>if b=n then ext else θ.ext b }
theorem Th.cS (θ:Th) (n bF off ext:Nat):(θ.add n bF off ext).bF n=bF/\(θ.add n bF off ext).off n=off/\(θ.add n bF off ext).ext n=ext:=by simp [Th.add]
theorem Th.dS (θ:Th) (n bF off ext:Nat) {D:Nat->Prop} (hn:¬ D n):Ag D θ (θ.add n bF off ext):=λ b hb=>by
 have:b ≠ n:=λ e=>hn (e ▸ hb);simp [Th.add,this]
end
section
variable {P:Program} {base:Nat} {D:Nat->Prop} {θ:Th} {H:AHeap} {w:World}
theorem HR.alloc (h:HR P base D θ H w) (hn:¬ D H.next) {o:bK} {co:Obj} {k off ext:Nat} {w':World} (hk:w'.heap[k]? = some co) (hkeep:∀ j,j<w.heap.size->w'.heap[j]? = w.heap[j]?) (hks:w.heap.size<=k)
 (hs:w.heap.size<=w'.heap.size) (hr:jL P (Up D H.next (H.next+1)) (θ.add H.next k off ext) H.next o co) :
 HR P base (Up D H.next (H.next+1)) (θ.add H.next k off ext) (H.alloc o) w':=by
 have hag:=Th.dS θ H.next k off ext hn
 obtain ⟨e1,e2,e3⟩:=Th.cS θ H.next k off ext
 have old:∀ x ox,H.get x=some ox->(θ.add H.next k off ext).bF x = θ.bF x:=λ x ox hx=>(hag x (h.obj x ox hx).1).1;refine ⟨λ x ox hx=>?_,λ x y ox oy hx hy hox hne=>?_,λ x ox hx hox=>?_,λ g hg=>?_,by have:=h.low;omega⟩
 ·rw [AHeap.bj] at hx
  by_cases e:H.next=x
  ·subst e;simp only [xa,qd] at hx;subst hx;exact ⟨.inr ⟨qh _,zn _⟩,co,by rw [e1];exact hk,hr⟩
  ·simp only [e,qv] at hx;obtain ⟨h1,c,h2,h3⟩:=h.obj x ox hx;refine ⟨.inl h1,c,?_,h3.up h1 hag Up.of⟩;rw [old x ox hx,hkeep _ (h.lt hx)];exact h2
 ·rw [AHeap.bj] at hx hy
  by_cases e:H.next=x<;>by_cases e':H.next=y
  ·exact absurd (e.symm.trans e') hne
  ·subst e;simp only [e',qv] at hy;rw [e1,old y oy hy];have:=h.lt hy;omega
  ·subst e';simp only [e,qv] at hx;rw [e1,old x ox hx];have:=h.lt hx;omega
  ·simp only [e,e',qv] at hx hy;rw [old x ox hx,old y oy hy];exact h.inj x y ox oy hx hy hox hne
 ·rw [AHeap.bj] at hx
  by_cases e:H.next=x
  ·subst e;rw [e1];have:=h.low;omega
  ·simp only [e,qv] at hx;rw [old x ox hx];exact h.gw x ox hx hox
 ·obtain ⟨h1,h2,h3⟩:=h.cY g hg;obtain ⟨a1,a2,_⟩:=hag g h1;exact ⟨.inl h1,a1.trans h2,a2.trans h3⟩
theorem ba.alloc (h:HR P base D θ H w) (hn:¬ D H.next) (o:bK) (co:Obj) (off ext:Nat):ba D H θ w (H.alloc o) (θ.add H.next w.heap.size off ext) (w.alloc co):=by
 have hag:=Th.dS θ H.next w.heap.size off ext hn
 obtain ⟨e1,e2,e3⟩:=Th.cS θ H.next w.heap.size off ext
 refine ⟨ki _,hag,by simp,rfl,rfl,rfl,λ k hk _=>?_,λ x ox hx hox hlt=>?_⟩
 ·rw [vL,qe (EB hk)]
 ·rw [AHeap.bj] at hx
  by_cases e:H.next=x
  ·subst e;rw [e1] at hlt;omega
  ·simp only [e,qv] at hx;have:=(hag x (h.obj x ox hx).1).1;exact ⟨x,ox,hx,hox,this.symm⟩
end
section
variable {P:Program} {base:Nat} {D:Nat->Prop} {θ:Th} {H:AHeap} {w:World}
theorem HR.cells (h:HR P base D θ H w) {b:Nat} {l:List AV} (hb:H.bP b=some l) :
 ∃ pre cs post e fz,w.heap[θ.bF b]? = some (.cells (pre++cs++post).toArray e fz)/\pre.length = θ.off b/\bz D θ l cs:=by
 unfold AHeap.bP at hb;cases hg:H.get b with
 | none=>rw [hg] at hb;cases hb
 | some o =>
  rw [hg] at hb;obtain ⟨_,co,hc,hr⟩:=h.obj b o hg;cases o with
  | row cells e fz ow =>
   obtain ⟨pre,cs,post,cfz,et,h1,h2,h3,_⟩:=hr;injection hb with hb;subst hb
   exact ⟨pre,cs,post,et,cfz,by rw [hc,h1],h2,h3⟩
  | grown m size cells e fz =>
   obtain ⟨pre,cs,post,cfz,h1,h2,h3,_⟩:=hr;injection hb with hb;subst hb
   exact ⟨pre,cs,post,e,cfz,by rw [hc,h1],h2,h3⟩
  | map _ _=>cases hb
  | mJ _ _=>cases hb
  | loop _ _ _ _ _ _=>cases hb
  | deferred _=>cases hb
theorem Au (pre cs post:List Value) (o:Nat) {c:Value} (h:cs[o]? = some c):(pre++cs++post).toArray[pre.length+o]? = some c:=by
 have hlt:=(qj.1 h).1;simp only [List.getElem?_toArray,zi];rw [jh (by omega),show pre.length+o-pre.length=o from by omega,km hlt];exact h
theorem q5h (pre cs post:List Value) (o n:Nat) (h:n<=cs.length-o):(((pre++cs++post).toArray.toList.drop (pre.length+o)).take n)=(cs.drop o).take n:=by
 simp only [zi];rw [vz,show pre.length+o-pre.length=o from by omega,List.drop_of_length_le (l:=pre) (by omega),je,vz]
 by_cases ho:o<=cs.length
 ·rw [Fc,show n-(cs.drop o).length=0 from by simp;omega];simp
 ·have:n=0:=by omega
  subst this;simp
theorem HR.aa (h:HR P base D θ H w) {b o:Nat} {v:AV} (hl:H.aa b o=some v) :
 ∃ c,(load ⟨θ.bF b,θ.off b+o,none⟩).run P w=.ok c w/\VR D θ v c:=by
 unfold AHeap.aa at hl;cases hc:H.bP b with
 | none=>rw [hc] at hl;cases hl
 | some l =>
  rw [hc] at hl;obtain ⟨pre,cs,post,e,fz,h1,h2,h3⟩:=h.cells hc;simp only [qn,iS] at hl;obtain ⟨c,hc1,hc2⟩:=h3.kK hl;exact ⟨c,q91 h1 (by rw [<-h2];exact Au pre cs post o hc1),hc2⟩
theorem HR.ao (h:HR P base D θ H w) {b o n:Nat} {l:List AV} (hl:H.ao b o n=some l) :
 ∃ cs:List Value,(loadCells ⟨θ.bF b,θ.off b+o,none⟩ n).run P w=.ok cs.toArray w/\bz D θ l cs/\l.length=n:=by
 unfold AHeap.ao at hl;cases hc:H.bP b with
 | none=>rw [hc] at hl;cases hl
 | some l0 =>
  rw [hc] at hl;obtain ⟨pre,cs,post,e,fz,h1,h2,h3⟩:=h.cells hc;simp only [qn,oe] at hl;split at hl
  ·rename_i hn;injection hl with hl;subst hl
   have hlen:=h3.length;refine ⟨(cs.drop o).take n,?_,(h3.drop o).take n,by simp;omega⟩;rw [<-h2,q2r h1 (pre.length+o) n (by simp;omega),q5h pre cs post o n (by omega)]
  ·cases hl
theorem q2f {v:AV} {c:Value} (h:VR D θ v c) (h1:bn v=true):c.oneCell'=true:=by
 rw [<-h.now];cases v<;>simp_all [bn,aD,Value.oneCell']
theorem nZ (l:List AV):aX l=l.all bn:=by
 induction l with
 | nil=>rfl
 | cons x l ih =>
  show cond (bn x) (aX l) false=_;rw [ih];cases h:bn x<;>simp [h]
theorem qup {l:List AV} {cs:List Value} (h:bz D θ l cs) (h1:aX l=true):∀ c ∈ cs,c.oneCell'=true:=by
 intro c hc;obtain ⟨i,hi⟩:=DM hc;rw [nZ,BN] at h1;have hlt:i<l.length:=by rw [<-h.length];exact (qj.1 hi).1
 obtain ⟨c',h2,h3⟩:=h.kK (qz hlt);rw [hi] at h2;injection h2 with h2;subst h2
 exact q2f h3 (h1 _ (List.getElem_mem hlt))
end
end Go.Am
namespace Go.Am
def na (P:Program) (s:Sem Next) (w:World) (c:Value) (w':World):Prop:=s.run P w=.ok (.value c) w'\/(s.run P w=.ok .skip w'/\c=Go.undef)
def cK (P:Program) (o:Oper) (xs:List Operand) (f:List AV->Option AV):Prop :=
 ∀ (D:Nat->Prop) θ (ρ:Operand->Value) w vs v,bz D θ vs (xs.map ρ)->f vs=some v -> ∃ c,na P (execOp ρ o) w c w/\VR D θ v c
section
variable {P:Program} {w:World}
theorem wx {t:TypeId} {d:TypeDesc} (h:P.underlying t=some d):(underlying t).run P w=.ok d w:=run_underlying h w
theorem oT {t:TypeId} {n:Nat} (h:bO P t=some n):(sizeOf t).run P w=.ok n w:=by
 unfold bO at h;cases hi:P.info? t with
 | none=>rw [hi] at h;cases h
 | some i=>rw [hi] at h;injection h with h;subst h;simp [sizeOf,typeInfo,hi]
theorem qsy {t:TypeId} {n:Nat} (h:bO P t=some n):∃ i,P.info? t=some i/\i.size=n:=by
 unfold bO at h;cases hi:P.info? t with
 | none=>rw [hi] at h;cases h
 | some i=>rw [hi] at h;injection h with h;exact ⟨i,rfl,h⟩
theorem Jf {t:TypeId} {n:Option Nat} (h:lG P t=some n):(isAgg t).run P w=.ok n.isSome w /\ ∀ k,n=some k->(sizeOf t).run P w=.ok k w:=by
 unfold lG at h;cases hu:P.underlying t with
 | none=>rw [hu] at h;cases h
 | some d =>
  rw [hu] at h;cases d
  case struct fs =>
   simp only at h;cases hs:bO P t with
   | none=>rw [hs] at h;cases h
   | some m =>
    rw [hs] at h;injection h with h;subst h
    exact ⟨by simp [isAgg,wx hu],λ k hk=>by injection hk with hk;subst hk;exact oT hs⟩
  case array m e =>
   simp only at h;cases hs:bO P t with
   | none=>rw [hs] at h;cases h
   | some m =>
    rw [hs] at h;injection h with h;subst h
    exact ⟨by simp [isAgg,wx hu],λ k hk=>by injection hk with hk;subst hk;exact oT hs⟩
  all_goals
   (injection h with h;subst h
    exact ⟨by simp [isAgg,wx hu],λ k hk=>by cases hk⟩)
mutual
theorem LF (θ:Th):∀ (c:Value) (v:AV),dq c=some v->aD θ v=c
 | .bool b,v,h=>by simp [dq] at h;subst h;rfl
 | .int k n,v,h=>by simp [dq] at h;subst h;rfl
 | .string s,v,h=>by simp [dq] at h;subst h;simp [aD]
 | .pointer none,v,h=>by simp [dq] at h;subst h;rfl
 | .pointer (some a),v,h=>by simp [dq] at h
 | .slice none 0 0,v,h=>by simp [dq] at h;subst h;rfl
 | .slice none 0 (n+1),v,h=>by simp [dq] at h
 | .slice none (n+1) c,v,h=>by simp [dq] at h
 | .slice (some a) n c,v,h=>by simp [dq] at h
 | .map none,v,h=>by simp [dq] at h;subst h;rfl
 | .map (some r),v,h=>by simp [dq] at h
 | .nilFunc,v,h=>by simp [dq] at h;subst h;rfl
 | .nilIface,v,h=>by simp [dq] at h;subst h;rfl
 | .iface t x,v,h=>by
  simp only [dq] at h;cases hx:dq x with
  | none=>rw [hx] at h;cases h
  | some y=>rw [hx] at h;injection h with h;subst h;simp [aD,LF θ x y hx]
 | .agg cs,v,h=>by
  simp only [dq] at h;cases hx:iI cs.toList with
  | none=>rw [hx] at h;cases h
  | some l=>rw [hx] at h;injection h with h;subst h;simp [aD,Km θ cs.toList l hx]
 | .tuple cs,v,h=>by
  simp only [dq] at h;cases hx:iI cs.toList with
  | none=>rw [hx] at h;cases h
  | some l=>rw [hx] at h;injection h with h;subst h;simp [aD,Km θ cs.toList l hx]
 | .float _ _,v,h=>by simp [dq] at h
 | .complex _ _ _,v,h=>by simp [dq] at h
 | .chan _,v,h=>by simp [dq] at h
 | .func _ _ _,v,h=>by simp [dq] at h
theorem Km (θ:Th):∀ (cs:List Value) (l:List AV),iI cs=some l->bt θ l=cs
 | [],l,h=>by simp [iI] at h;subst h;rfl
 | c::cs,l,h=>by
  simp only [iI] at h;cases hx:dq c with
  | none=>rw [hx] at h;cases h
  | some y =>
   rw [hx] at h;simp only [qn] at h;cases hy:iI cs with
   | none=>rw [hy] at h;cases h
   | some ys=>rw [hy] at h;injection h with h;subst h;simp [bt,LF θ c y hx,Km θ cs ys hy]
end
theorem Jq {D:Nat->Prop} {θ:Th} {c:Value} {v:AV} (h:dq c=some v):VR D θ v c:=λ θ' _=>LF θ' c v h
theorem F0 {t:TypeId} {z:AV} (h:zeroOf P t=some z):∃ c,(zeroValue t).run P w=.ok c w /\ ∀ D θ,VR D θ z c:=by
 unfold zeroOf at h;cases hi:P.info? t with
 | none=>rw [hi] at h;cases h
 | some i =>
  rw [hi] at h;simp only [qn] at h;cases hz:i.zero with
  | none=>rw [hz] at h;cases h
  | some c=>rw [hz] at h;exact ⟨c,by simp [zeroValue,typeInfo,hi,hz],λ D θ=>Jq h⟩
end
section
variable {D:Nat->Prop} {θ:Th}
theorem VR.cells {v:AV} {c:Value} (h:VR D θ v c):bz D θ v.cells c.cells.toList:=by
 intro θ' ha;have h1:=h θ' ha;subst h1;cases v<;>simp [AV.cells,aD,Value.cells,bt]
end
section
variable {P:Program} {D:Nat->Prop} {θ:Th} {ρ:Operand->Value} {w:World}
theorem bz.fM {x:Operand} {vs:List AV} (h:bz D θ vs ([x].map ρ)):∃ v,vs=[v]/\VR D θ v (ρ x):=by
 cases vs with
 | nil=>have:=h.length;simp at this
 | cons v vs =>
  obtain ⟨c,cs,h1,h2,h3⟩:=h.dF;simp only [kt,List.map_nil,zu] at h1;obtain ⟨rfl,rfl⟩:=h1;have:=h3.length;cases vs with
  | nil=>exact ⟨v,rfl,h2⟩
  | cons _ _=>simp at this
theorem bz.mC {x y:Operand} {vs:List AV} (h:bz D θ vs ([x,y].map ρ)):∃ a b,vs=[a,b]/\VR D θ a (ρ x)/\VR D θ b (ρ y):=by
 cases vs with
 | nil=>have:=h.length;simp at this
 | cons v vs =>
  obtain ⟨c,cs,h1,h2,h3⟩:=h.dF;simp only [kt,List.map_nil,zu] at h1;obtain ⟨rfl,rfl⟩:=h1;obtain ⟨b,rfl,hb⟩:=bz.fM (ρ:=ρ) (x:=y) h3;exact ⟨v,b,rfl,h2,hb⟩
theorem bz.p9 {x y z:Operand} {vs:List AV} (h:bz D θ vs ([x,y,z].map ρ)):∃ a b c,vs=[a,b,c]/\VR D θ a (ρ x)/\VR D θ b (ρ y)/\VR D θ c (ρ z):=by
 cases vs with
 | nil=>have:=h.length;simp at this
 | cons v vs =>
  obtain ⟨c,cs,h1,h2,h3⟩:=h.dF;simp only [kt,List.map_nil,zu] at h1;obtain ⟨rfl,rfl⟩:=h1;obtain ⟨a,b,rfl,ha,hb⟩:=bz.mC (ρ:=ρ) (x:=y) (y:=z) h3;exact ⟨v,a,b,rfl,h2,ha,hb⟩
theorem q2m {o:Oper} {x:Operand} (ho:o.op=.move x\/o.op=.assign x):cK P o [x] Op.move:=by
 intro D θ ρ w vs v h hf;obtain ⟨a,rfl,ha⟩:=bz.fM h;simp only [Op.move,qd] at hf;subst hf;refine ⟨ρ x,.inl ?_,ha⟩;rcases ho with ho|ho<;>simp [execOp,ho]
theorem q9r {o:Oper} {c a b:Operand} (ho:o.op=.pick c a b):cK P o [c,a,b] Op.pick:=by
 intro D θ ρ w vs v h hf;obtain ⟨q,x,y,rfl,hq,hx,hy⟩:=bz.p9 h;unfold Op.pick at hf;split at hf
 ·rename_i b' x' y' heq;injection heq with h1 h2;subst h1;injection h2 with h2 h3;subst h2;injection h3 with h3 _;subst h3
  injection hf with hf;subst hf
  have hb:ρ c=.bool b':=hq.now.symm;cases b'
  ·exact ⟨ρ b,.inl (by simp [execOp,ho,hb,asBool]),hy⟩
  ·exact ⟨ρ a,.inl (by simp [execOp,ho,hb,asBool]),hx⟩
 ·cases hf
theorem xO {o:Oper} {op:UnOp} {t:TypeId} {x:Operand} (ho:o.op=.unOp op t x):cK P o [x] (Op.un op):=by
 intro D θ ρ w vs v h hf;obtain ⟨a,rfl,ha⟩:=bz.fM h;simp only [Op.un,unV] at hf;have hr:=ha.now;split at hf
 ·rename_i k n;injection hf with hf;subst hf
  exact ⟨_,.inl (by simp [execOp,ho,<-hr,aD,Go.Op.unary,Go.Op.intArith]<;>rfl),.int _ _⟩
 ·rename_i k n;simp only [dC] at hf;injection hf with hf;subst hf
  exact ⟨_,.inl (by simp [execOp,ho,<-hr,aD,Go.Op.unary,Go.Op.intBits]<;>rfl),.int _ _⟩
 ·injection hf with hf;subst hf
  exact ⟨_,.inl (by simp [execOp,ho,<-hr,aD,Go.Op.unary]),.bool _⟩
 ·cases hf
theorem q9s {o:Oper} {src dst:TypeId} {x:Operand} {k j:IntKind} (ho:o.op=.convert src dst x) (h1:P.underlying src=some (.int j)) (h2:P.underlying dst=some (.int k)):cK P o [x] (Op.wrap k):=by
 intro D θ ρ w vs v h hf;obtain ⟨a,rfl,ha⟩:=bz.fM h;have hr:=ha.now;unfold Op.wrap at hf;split at hf
 ·rename_i k' n heq;injection heq with heq;subst heq
  injection hf with hf;subst hf
  exact ⟨_,.inl (by simp [execOp,ho,<-hr,aD,convert,wx h1,wx h2,Conv.intToInt]<;>rfl),.int _ _⟩
 ·cases hf
theorem q36 {o:Oper} {f:FuncId} {a b:Array Operand} (ho:o.op=.makeFunc (.func f) a b):cK P o (a.toList++b.toList) (Op.bZ f a.size):=by
 intro D θ ρ w vs v h hf;simp only [Op.bZ,qd] at hf;subst hf;refine ⟨.func (.func f) (a.map ρ) (b.map ρ),.inl (by simp [execOp,ho,Instr.makeFunc]),λ θ' hg=>?_⟩;have h1:=(h.take a.size) θ' hg;have h2:=(h.drop a.size) θ' hg;simp only [aD,db,h1,h2];congr 1
 ·rw [EC,j7 (by simp)];apply xH;simp [zh]
 ·rw [EC,kx (by simp)];apply xH;simp [List.drop_of_length_le]
theorem q2k {o:Oper} {x:Operand} {i:Nat} (ho:o.op=.extract x i):cK P o [x] (Op.extract i):=by
 intro D θ ρ w vs v h hf;obtain ⟨a,rfl,ha⟩:=bz.fM h;unfold Op.extract at hf;split at hf
 ·rename_i l heq;injection heq with heq;subst heq
  obtain ⟨cs,hc,hl⟩:=ha.qA;rw [iS] at hf;obtain ⟨c,hc1,hc2⟩:=hl.kK hf;exact ⟨c,.inl (by simp [execOp,ho,hc,Instr.extract,hc1]),hc2⟩
 ·cases hf
theorem Ip {o:Oper} {c:Call} {b:Builtin} (ho:o.op=.call c) (hc:c.callee=.builtin b) :
 ∃ consts,execOp ρ o=builtin b c.argTypes o.type consts (c.args.map ρ):=by
 refine ⟨c.args.map λ | .const _=>true|_=>false,?_⟩;simp only [execOp,ho,resolve,hc,invoke];rfl
theorem AL {c:Call} {xs:List Operand} (hx:c.args.toList=xs):c.args.map ρ = (xs.map ρ).toArray:=by
 subst hx;apply xH;simp
theorem bz.lj {xs:List Operand} {a:AV} (h:bz D θ [a] (xs.map ρ)):∃ x,xs=[x]/\VR D θ a (ρ x):=by
 have:=h.length
 match xs,this,h with
 | [x],_,h=>obtain ⟨_,heq,ha⟩:=bz.fM h;injection heq with heq _;subst heq;exact ⟨x,rfl,ha⟩
theorem bz.qV {xs:List Operand} {a b:AV} (h:bz D θ [a,b] (xs.map ρ)):∃ x y,xs=[x,y]/\VR D θ a (ρ x)/\VR D θ b (ρ y):=by
 have:=h.length
 match xs,this,h with
 | [x,y],_,h =>
  obtain ⟨_,_,heq,ha,hb⟩:=bz.mC h;injection heq with h1 h2;injection h2 with h2 _;subst h1;subst h2;exact ⟨x,y,rfl,ha,hb⟩
theorem MU (s:List UInt8):(⟨s.toArray⟩:ByteArray).size=s.length:=by simp [ByteArray.size]
theorem q66 {o:Oper} {c:Call} {xs:List Operand} {t e:TypeId} (ho:o.op=.call c) (hc:c.callee=.builtin .len) (hx:c.args.toList=xs) (ht:c.argTypes[0]? = some t)
 (hu:P.underlying t=some (.slice e)):cK P o xs Op.bJ:=by
 intro D θ ρ w vs v h hf;obtain ⟨consts,he⟩:=Ip (ρ:=ρ) ho hc;unfold Op.bJ at hf;split at hf
 ·obtain ⟨x,rfl,ha⟩:=h.lj;injection hf with hf;subst hf
  refine ⟨_,.inl ?_,.int _ _⟩;rw [he,AL hx];simp [builtin,Builtin.len_,wx hu,ht,<-ha.now,aD,goInt]<;>rfl
 ·obtain ⟨x,rfl,ha⟩:=h.lj;injection hf with hf;subst hf
  refine ⟨_,.inl ?_,.int _ _⟩;rw [he,AL hx];simp [builtin,Builtin.len_,wx hu,ht,<-ha.now,aD,goInt]<;>rfl
 ·obtain ⟨x,rfl,ha⟩:=h.lj;injection hf with hf;subst hf
  refine ⟨_,.inl ?_,.int _ _⟩;rw [he,AL hx];simp [builtin,Builtin.len_,wx hu,ht,<-ha.now,aD,goInt]<;>rfl
 ·obtain ⟨x,rfl,ha⟩:=h.lj;injection hf with hf;subst hf
  refine ⟨_,.inl ?_,.int _ _⟩;rw [he,AL hx];simp [builtin,Builtin.len_,wx hu,ht,<-ha.now,aD,goInt]<;>rfl
 ·cases hf
theorem q6s {op:BinOp} {k:IntKind} {a b:Int} {v:AV} (hs:cU op=false) (h:dC op k a b=some v) (t:TypeId) :
 ∃ c,(binOp op t (.int k a) (.int k b)).run P w=.ok c w/\VR D θ v c:=by
 cases op<;>simp only [dC,cU,qd,At,JM,wV,Bool.true_eq_false] at h hs
 case quo =>
  cases hb:(b == 0)<;>rw [hb] at h<;>simp at h;subst h;exact ⟨_,by simp [binOp,Go.Op.intDiv,by simpa using hb]<;>rfl,.int _ _⟩
 case rem =>
  cases hb:(b == 0)<;>rw [hb] at h<;>simp at h;subst h;exact ⟨_,by simp [binOp,Go.Op.intDiv,by simpa using hb]<;>rfl,.int _ _⟩
 all_goals
  subst h
  first|refine ⟨_,?_,VR.int _ _⟩|refine ⟨_,?_,VR.bool _⟩
  simp only [binOp,ne_eq,not_true_eq_false,qv,Go.Op.intBits,Go.Op.intArith,Go.Op.intCmp];rfl
theorem q1g (a b:List UInt8):bytesLess a b=Go.Op.bytesLess a b:=by
 induction a generalizing b with
 | nil=>cases b<;>rfl
 | cons x a ih=>cases b with
  | nil=>rfl
  | cons y b =>
   simp only [bytesLess,Go.Op.bytesLess,ih,vW];congr 1;rw [Bool.eq_iff_iff];simp [UInt8.lt_iff_toNat_lt]
theorem NS (s:List UInt8):(⟨s.toArray⟩:ByteArray).toList=s:=by rw [ByteArray.toList_eq]
theorem q7i {op:BinOp} {a b:List UInt8} {v:AV} (h:kR op a b=some v) (t:TypeId) :
 ∃ c,(binOp op t (.string ⟨a.toArray⟩) (.string ⟨b.toArray⟩)).run P w=.ok c w/\VR D θ v c:=by
 cases op<;>simp only [kR,qd,reduceCtorEq,FF,q1g] at h
 case add =>
  cases hb:Nat.ble (a.length+b.length) 140737488355328<;>rw [hb] at h<;>simp at h;subst h;have hle:a.length+b.length<=140737488355328:=by simpa [we] using hb
  refine ⟨.string (⟨a.toArray⟩++⟨b.toArray⟩),?_,λ θ' _=>?_⟩
  ·simp only [binOp,Go.Op.stringOp,MU,Sem.run_ite];rw [qe (by simp [IntKind.max,IntKind.bits,IntKind.signed];omega)];rfl
  ·show Value.string ⟨(a++b).toArray⟩=_;congr 1
 all_goals
  subst h;exact ⟨_,by simp [binOp,Go.Op.stringOp,NS]<;>rfl,.bool _⟩
theorem q5l {o:Oper} {op:BinOp} {t t':TypeId} {x y:Operand} (ho:o.op=.binOp op t x y t'):cK P o [x,y] (Op.bin op):=by
 intro D θ ρ w vs v h hf;obtain ⟨a,b,rfl,ha,hb⟩:=bz.mC h;simp only [Op.bin,jI] at hf;have hra:=ha.now;have hrb:=hb.now;have guard:∀ (u u':Value),(∀ l,u ≠ .agg l)->u ≠ .nilIface->(eqGuard op t x y u u').run P w=.ok () w:=by
  intro u u' h1 h2;unfold eqGuard;cases u<;>cases op<;>simp_all
 split at hf
 ·rename_i k a k' b;cases hs:cU op
  ·rw [hs] at hf;simp only [zk,KV] at hf
   by_cases hk:k=k'
   ·subst hk;simp only [decide_true,xk] at hf;obtain ⟨c,hc,hv⟩:=q6s (P:=P) (w:=w) (D:=D) (θ:=θ) hs hf t;refine ⟨c,.inl ?_,hv⟩;have hg:=guard (.int k a) (.int k b) (λ _=>by simp) (by simp);simp [execOp,ho,<-hra,<-hrb,aD,hg,hc]
   ·simp [hk] at hf
  ·rw [hs] at hf;simp only [xk,rI,JM] at hf
   by_cases hb0:b<0
   ·simp [hb0] at hf
   ·simp only [hb0,decide_false,zk] at hf;have hg:=guard (.int k a) (.int k' b) (λ _=>by simp) (by simp);cases op<;>simp only [cU,ya,Bool.true_eq_false] at hs
    all_goals
     injection hf with hf;subst hf
     exact ⟨_,.inl (by simp [execOp,ho,<-hra,<-hrb,aD,hg,binOp,Go.Op.shift,hb0]<;>rfl),.int _ _⟩
 ·rename_i a b;obtain ⟨c,hc,hv⟩:=q7i (P:=P) (w:=w) (D:=D) (θ:=θ) hf t;have hg:=guard (.string ⟨a.toArray⟩) (.string ⟨b.toArray⟩) (λ _=>by simp) (by simp);exact ⟨c,.inl (by simp [execOp,ho,<-hra,<-hrb,aD,hg,hc]),hv⟩
 ·cases hf
end
end Go.Am
namespace Go.Am
section
variable {P:Program} {D:Nat->Prop} {θ:Th} {ρ:Operand->Value} {w:World}
theorem Ja {t:TypeId} {l:List AV} {cs:List Value} {off:Nat} {n:Option Nat} {v:AV} (hn:lG P t=some n) (hl:bz D θ l cs) (h:partAt l off n=some v) :
 ∃ c,(part t cs.toArray off).run P w=.ok c w/\VR D θ v c:=by
 obtain ⟨h1,h2⟩:=Jf (w:=w) hn;cases n with
 | none =>
  simp only [partAt,iS] at h;obtain ⟨c,hc,hv⟩:=hl.kK h;exact ⟨c,by simp [part,h1,hc],hv⟩
 | some k =>
  simp only [partAt,oe] at h;split at h
  ·rename_i hk;injection h with h;subst h
   refine ⟨.agg ((cs.drop off).take k).toArray,?_,VR.agg ((hl.drop off).take k)⟩;have hlen:=hl.length;simp only [part,Sem.run_bind,h1,Result.andThen_ok,Cd,xa,h2 k rfl];simp only [Sem.run_pure,Result.ok.injEq,Value.agg.injEq,mz];apply xH;simp [Array.toList_extract,List.extract,List.drop_take,yc]
  ·cases h
theorem q22 {i:Int} {n k:Nat} (h:within i n=some k):i=(k:Int)/\k<n:=by
 unfold within at h;cases i with
 | ofNat m =>
  simp only at h;cases hb:Nat.blt m n<;>rw [hb] at h
  ·cases h
  ·injection h with h;subst h;exact ⟨rfl,by simpa [mX] using hb⟩
 | negSucc m=>cases h
theorem qx6 {o:Oper} {t:TypeId} {x:Operand} {i:Nat} {fs:Array Field} {f:Field} {n:Nat} (ho:o.op=.fieldAddr t x i) (ht:P.underlying t=some (.struct fs)) (hf:fs[i]? = some f) (hn:bO P f.type=some n) (hn0:n ≠ 0) :
 cK P o [x] (Op.fieldAddr f.offset):=by
 intro D θ ρ w vs v h hv;unfold Op.fieldAddr at hv;split at hv
 ·rename_i b ofs;obtain ⟨y,heq,ha⟩:=h.lj;injection heq with heq _;subst heq
  injection hv with hv;subst hv
  have hr:=ha.now;refine ⟨.pointer (some ⟨θ.bF b,θ.off b+ofs+f.offset,none⟩),.inl ?_,λ θ' hg=>?_⟩
  ·simp [execOp,ho,Instr.fieldAt,wx ht,hf,<-hr,aD,Instr.sureAddr,fieldPlace,oT hn,hn0,pQ]
  ·have:=ha θ' hg;rw [<-hr] at this;simp [aD] at this ⊢;omega
 ·cases hv
theorem qve {x:AV} {c:Value} {size j b o:Nat} (h:VR D θ x c) (he:elemAt size x j=some (b,o)) :
 ∃ n m,c=.slice (some ⟨θ.bF b,θ.off b+o-j*size,none⟩) n m/\j<n/\j*size<=o/\(∀ θ',Ag D θ θ' -> θ'.bF b = θ.bF b /\ θ'.off b+o = θ.off b+o):=by
 have hr:=h.now;unfold elemAt at he;split at he
 ·rename_i b' o' n' c';cases hb:Nat.blt j n'<;>rw [hb] at he
  ·cases he
  ·simp only [xk,qd,xw] at he;obtain ⟨rfl,rfl⟩:=he;refine ⟨n',c',?_,by simpa [mX] using hb,by omega,λ θ' ha=>?_⟩
   ·rw [<-hr];simp only [aD];congr 3;omega
   ·have:=h θ' ha;rw [<-hr] at this;simp only [aD,Value.slice.injEq,qd,Addr.mk.injEq] at this;omega
 ·rename_i b' i' m' s' alt' n';cases hb:(Nat.blt j n' && Nat.beq s' size && Nat.blt (i'+j) m')<;>rw [hb] at he
  ·cases he
  ·simp only [xk,qd,xw] at he;obtain ⟨rfl,rfl⟩:=he;simp only [xq,mX,zy] at hb;obtain ⟨⟨h1,rfl⟩,h3⟩:=hb;refine ⟨n',m'-i' + θ.ext b',?_,h1,by omega,λ θ' ha=>?_⟩
   ·rw [<-hr];simp only [aD];rw [qe (by omega)];congr 3;omega
   ·have:=h θ' ha;rw [<-hr] at this;simp only [aD,Value.slice.injEq,qd,Addr.mk.injEq] at this;rw [qe (by omega),qe (by omega)] at this;omega
 ·cases he
theorem q2l {o:Oper} {t e:TypeId} {x i:Operand} {size:Nat} (ho:o.op=.indexAddr t x i) (ht:P.underlying t=some (.slice e)) (hs:bO P e=some size) :
 cK P o [x,i] (Op.aP size):=by
 intro D θ ρ w vs v h hv;unfold Op.aP at hv;split at hv
 ·rename_i a k j;obtain ⟨y,z,heq,ha,hb⟩:=h.qV;injection heq with h1 h2;injection h2 with h2 _;subst h1;subst h2
  cases hl:dO a with
  | none=>rw [hl] at hv;cases hv
  | some n0 =>
   rw [hl] at hv;simp only [qn] at hv;cases hw:within j n0 with
   | none=>rw [hw] at hv;cases hv
   | some m =>
    rw [hw] at hv;simp only [qn] at hv;obtain ⟨rfl,hlt⟩:=q22 hw;cases he:elemAt size a m with
    | none=>rw [he] at hv;cases hv
    | some p =>
     obtain ⟨b,ofs⟩:=p;rw [he] at hv;injection hv with hv;subst hv
     obtain ⟨n,c,hc,hjn,hle,hst⟩:=qve ha he;refine ⟨.pointer (some ⟨θ.bF b,θ.off b+ofs,none⟩),.inl ?_,λ θ' hg=>?_⟩
     ·have hi:(0:Int)<=(m:Int)/\(m:Int)<(n:Int):=by omega
      have heq:θ.off b+ofs-m*size+m*size = θ.off b+ofs:=by omega
      simp [execOp,ho,Instr.indexAt,wx ht,hc,<-hb.now,aD,asIntOf,hi,oT hs,pQ,heq];intro hh;omega
     ·obtain ⟨h1,h2⟩:=hst θ' hg;simp only [aD,h1,h2]
 ·cases hv
theorem q0p {o:Oper} {t e:TypeId} {x i:Operand} {len size:Nat} (ho:o.op=.indexAddr t x i) (ht:P.underlying t=some (.array len e)) (hs:bO P e=some size) :
 cK P o [x,i] (Op.aT len size):=by
 intro D θ ρ w vs v h hv;unfold Op.aT at hv;split at hv
 ·rename_i b ofs k j;obtain ⟨y,z,heq,ha,hb⟩:=h.qV;injection heq with h1 h2;injection h2 with h2 _;subst h1;subst h2
  cases hw:within j len with
  | none=>rw [hw] at hv;cases hv
  | some m =>
   rw [hw] at hv;injection hv with hv;subst hv
   obtain ⟨rfl,hlt⟩:=q22 hw;have hi:(0:Int)<=(m:Int)/\(m:Int)<(len:Int):=by omega
   refine ⟨.pointer (some ⟨θ.bF b,θ.off b+ofs+m*size,none⟩),.inl ?_,λ θ' hg=>?_⟩
   ·simp [execOp,ho,Instr.indexAt,wx ht,<-ha.now,<-hb.now,aD,asIntOf,Instr.sureAddr,hi,oT hs,pQ];intro hh;omega
   ·have:=ha θ' hg;rw [<-ha.now] at this;simp [aD] at this ⊢;omega
 ·cases hv
theorem q0q {o:Oper} {x:Operand} (ho:o.op=.nilCheck x):cK P o [x] Op.nilCheck:=by
 intro D θ ρ w vs v h hv;obtain ⟨a,rfl,ha⟩:=bz.fM h;have hr:=ha.now;unfold Op.nilCheck at hv;split at hv
 ·cases hv
 ·cases hv
 ·cases hv
 ·rename_i f a1 b1 heq;injection heq with heq;subst heq
  injection hv with hv;subst hv
  exact ⟨ρ x,.inl (by simp [execOp,ho,<-hr,aD,db]),ha⟩
 ·cases hv
 ·rename_i a' h1 h2 h3 h4 h5 heq;injection heq with heq;subst heq
  injection hv with hv;subst hv
  refine ⟨ρ x,.inl ?_,ha⟩;have hρ:=hr.symm;clear hr ha h;cases a
  case nilp=>exact absurd rfl h1
  case nili=>exact absurd rfl h2
  case nilf=>exact absurd rfl h3
  case fn f' a' b'=>exact absurd rfl (h5 f' a' b')
  all_goals (simp only [aD] at hρ;simp [execOp,ho,hρ])
 ·cases hv
theorem q49 (off:Nat):∀ (cs:List Value) (j:Nat) (arr:List Value),off+j+cs.length<=arr.length ->
 ((cs.zipIdx j).foldl (λ acc (p:Value × Nat)=>acc.setIfInBounds (off+p.2) p.1) arr.toArray)=(arr.take (off+j)++cs++arr.drop (off+j+cs.length)).toArray
 | [],j,arr,_=>by simp
 | c::cs,j,arr,h=>by
  simp only [List.zipIdx_cons,Fi,List.setIfInBounds_toArray];rw [q49 off cs (j+1) (arr.set (off+j) c) (by simp at h ⊢;omega)];congr 1;have ee:=list_seg_step arr (off+j) c cs (by simp at h ⊢;omega)
  simpa [vh] using ee
theorem q86 (off:Nat) (cs:Array Value) (arr:List Value) (h:off+cs.size<=arr.length) :
 (cs.zipIdx.foldl (λ acc (p:Value × Nat)=>acc.setIfInBounds (off+p.2) p.1) arr.toArray)=(arr.take off++cs.toList++arr.drop (off+cs.size)).toArray:=by
 have:=q49 off cs.toList 0 arr (by simpa using h);rw [<-Array.foldl_toList]
 simpa using this
theorem Nd:∀ (places:List (Nat × Nat)) (vs:List AV) (parts:List (Nat × Operand)) (pl:Nat->Option (Nat × Nat)) (out:List AV),
 uE pl parts=some places->bz D θ vs (parts.map λ p=>ρ p.2) -> ∀ (cells:List AV) (ccells:List Value),bz D θ cells ccells->eW cells places vs=some out ->
 ∃ cout:List Value,Instr.fill pl ccells.toArray (parts.map λ p=>(p.1,ρ p.2))=some cout.toArray/\bz D θ out cout:=by
 intro places vs parts
 induction parts generalizing places vs with
 | nil =>
  intro pl out hp hv cells ccells hc hf;simp only [uE,qd] at hp;subst hp;have:vs=[]:=by have:=hv.length;simp at this;exact List.eq_nil_of_length_eq_zero (by omega)
  subst this;simp only [eW,qd] at hf;subst hf;exact ⟨ccells,rfl,hc⟩
 | cons p parts ih =>
  intro pl out hp hv cells ccells hc hf;obtain ⟨i,x⟩:=p;simp only [uE] at hp;cases hpl:pl i with
  | none=>rw [hpl] at hp;cases hp
  | some q =>
   obtain ⟨off,size⟩:=q;rw [hpl] at hp;simp only [qn] at hp;cases hr:uE pl parts with
   | none=>rw [hr] at hp;cases hp
   | some l =>
    rw [hr] at hp;injection hp with hp;subst hp
    cases vs with
    | nil=>simp only [eW] at hf;cases hf
    | cons v vs =>
     obtain ⟨c,cs',h1,h2,h3⟩:=hv.dF;simp only [kt,zu] at h1;obtain ⟨rfl,rfl⟩:=h1;simp only [eW,zN] at hf;cases hb:Nat.beq v.cells.length size
     ·rw [hb] at hf;cases hf
     ·rw [hb] at hf;simp only [xk,wM] at hf;have hcells:=h2.cells;have hlen:=hcells.length;have hsz:(ρ x).cells.size=size:=by rw [<-yp,hlen];simpa [zy] using hb
      split at hf
      ·rename_i hle;simp only [qn] at hf;have hcl:=hc.length;have hnew:bz D θ (cells.take off++v.cells++cells.drop (off+v.cells.length)) (ccells.take off++(ρ x).cells.toList++ccells.drop (off+v.cells.length)) :=
        ((hc.take off).app hcells).app (hc.drop _)
       obtain ⟨cout,h5,h6⟩:=ih l vs pl out hr h3 _ _ hnew hf;refine ⟨cout,?_,h6⟩;simp only [kt,Instr.fill,hpl];rw [qe (by simp only [List.size_toArray];rw [hsz];rw [<-yp] at hsz;simp;omega)];rw [<-h5];congr 1;have hla:=q86 off (ρ x).cells ccells (by rw [<-yp];omega);rw [show v.cells.length=(ρ x).cells.size from by rw [<-yp];omega];exact hla
      ·cases hf
theorem q9m (parts:Array (Nat × Operand)):(parts.map λ (p:Nat × Operand)=>(p.1,ρ p.2)).toList=parts.toList.map λ p=>(p.1,ρ p.2):=by simp
theorem q0z (fs:Array Field) (hall:∀ f ∈ fs,∃ n,bO P f.type=some n) :
 ∃ pl:Array (Nat × Nat),(fs.mapM λ (f:Field)=>(do pure (f.offset,<-sizeOf f.type):Sem (Nat × Nat))).run P w=.ok pl w /\ ∀ i:Nat,pl[i]? = E7 P fs i:=by
 have key:∀ l:List Field,(∀ f ∈ l,∃ n,bO P f.type=some n) ->
  ∃ pl:List (Nat × Nat),(l.mapM λ (f:Field)=>(do pure (f.offset,<-sizeOf f.type):Sem (Nat × Nat))).run P w=.ok pl w /\ ∀ i:Nat,pl[i]? = (l[i]?).bind λ (f:Field)=>(bO P f.type).bind λ n=>some (f.offset,n):=by
  intro l
  induction l with
  | nil=>intro _;exact ⟨[],by simp,by simp⟩
  | cons f l ih =>
   intro hl;obtain ⟨n,hn⟩:=hl f (by simp);obtain ⟨pl,h1,h2⟩:=ih (λ g hg=>hl g (by simp [hg]));refine ⟨(f.offset,n)::pl,?_,λ i=>?_⟩
   ·simp only [List.mapM_cons,Sem.run_bind,oT hn,Result.andThen_ok,Sem.run_pure,h1]
   ·cases i with
    | zero=>simp [hn]
    | succ i=>simpa using h2 i
 obtain ⟨pl,h1,h2⟩:=key fs.toList (λ f hf=>hall f (by simpa using hf));refine ⟨pl.toArray,?_,λ i=>?_⟩
 ·rw [Array.mapM_eq_mapM_toList];simp only [Sem.run_map,h1,Result.andThen_ok]
 ·simp [E7,h2 i]
theorem qsk {o:Oper} {t:TypeId} {parts:Array (Nat × Operand)} {z:AV} {fs:Array Field} {ps:List (Nat × Nat)} (ho:o.op=.build t parts) (hz:zeroOf P t=some z)
 (ht:P.underlying t=some (.struct fs)) (hall:∀ f ∈ fs,∃ n,bO P f.type=some n) (hp:uE (E7 P fs) parts.toList=some ps):cK P o (parts.toList.map (·.2)) (Op.build z.cells ps):=by
 intro D θ ρ w vs v h hv;obtain ⟨zc,hz1,hz2⟩:=F0 (w:=w) hz;obtain ⟨pl,h1,h2⟩:=q0z (w:=w) fs hall;unfold Op.build at hv;cases hf:eW z.cells ps vs with
 | none=>rw [hf] at hv;cases hv
 | some out =>
  rw [hf] at hv;injection hv with hv;subst hv
  have h':bz D θ vs (parts.toList.map λ p=>ρ p.2):=by simpa [rj,Function.comp_def] using h
  obtain ⟨cout,h3,h4⟩:=Nd (ρ:=ρ) ps vs parts.toList (E7 P fs) out hp h' z.cells zc.cells.toList (hz2 D θ).cells hf;refine ⟨.agg cout.toArray,.inl ?_,VR.agg h4⟩;have hpl:(λ i=>pl[i]?)=E7 P fs:=funext h2;simp only [execOp,ho,Instr.build,Sem.run_bind,hz1,Result.andThen_ok,wx ht,h1,hpl];have e:(parts.map λ (p:Nat × Operand)=>(p.1,ρ p.2)).toList=parts.toList.map λ p=>(p.1,ρ p.2):=by simp
  simp only [HO] at h3;simp [e,h3]
theorem qt6 {o:Oper} {t e:TypeId} {parts:Array (Nat × Operand)} {z:AV} {len n:Nat} {ps:List (Nat × Nat)} (ho:o.op=.build t parts) (hz:zeroOf P t=some z)
 (ht:P.underlying t=some (.array len e)) (hn:bO P e=some n) (hp:uE (ED n) parts.toList=some ps):cK P o (parts.toList.map (·.2)) (Op.build z.cells ps):=by
 intro D θ ρ w vs v h hv;obtain ⟨zc,hz1,hz2⟩:=F0 (w:=w) hz;unfold Op.build at hv;cases hf:eW z.cells ps vs with
 | none=>rw [hf] at hv;cases hv
 | some out =>
  rw [hf] at hv;injection hv with hv;subst hv
  have h':bz D θ vs (parts.toList.map λ p=>ρ p.2):=by simpa [rj,Function.comp_def] using h
  obtain ⟨cout,h3,h4⟩:=Nd (ρ:=ρ) ps vs parts.toList (ED n) out hp h' z.cells zc.cells.toList (hz2 D θ).cells hf;refine ⟨.agg cout.toArray,.inl ?_,VR.agg h4⟩;simp only [execOp,ho,Instr.build,Sem.run_bind,hz1,Result.andThen_ok,wx ht,oT hn];have e:(parts.map λ (p:Nat × Operand)=>(p.1,ρ p.2)).toList=parts.toList.map λ p=>(p.1,ρ p.2):=by simp
  simp only [HO] at h3;have hpl:(λ i=>some (i*n,n))=ED n:=rfl;simp [e,hpl,h3]
end
end Go.Am
namespace Go.Am
section
variable {P:Program} {D:Nat->Prop} {θ:Th} {ρ:Operand->Value} {w:World}
def ik (D:Nat->Prop) (θ:Th) (ρ:Operand->Value):Option Operand->Option AV->Prop
 | none,a=>a=none
 | some x,a=>∃ v,a=some v/\VR D θ v (ρ x)
theorem Nb:∀ (opts:List (Option Operand)) (pre rest:List AV),bz D θ rest ((iu opts).map ρ) -> ∀ (j:Nat) (o:Option Operand) (idx:Option Nat),opts[j]? = some o->(eF pre.length opts)[j]? = some idx ->
 ∀ a,arg (pre++rest) idx=some a->ik D θ ρ o a
 | [],pre,rest,h,j,o,idx,ho,hi,a,ha=>by simp at ho
 | none::opts,pre,rest,h,j,o,idx,ho,hi,a,ha=>by
  cases j with
  | zero =>
   simp only [eF,jl,qd] at ho hi;subst ho;subst hi;simp only [arg,qd] at ha;exact ha.symm
  | succ j=>exact Nb opts pre rest h j o idx (by simpa using ho) (by simpa [eF] using hi) a ha
 | some x::opts,pre,rest,h,j,o,idx,ho,hi,a,ha=>by
  cases rest with
  | nil=>have:=h.length;simp [iu] at this
  | cons v rest =>
   obtain ⟨c,cs,h1,h2,h3⟩:=h.dF;simp only [iu,kt,zu] at h1;obtain ⟨rfl,rfl⟩:=h1;cases j with
   | zero =>
    simp only [eF,jl,qd] at ho hi;subst ho;subst hi;simp only [arg,iS] at ha;rw [jh (qh _)] at ha;simp at ha;exact ⟨v,ha.symm,h2⟩
   | succ j =>
    refine Nb opts (pre ++ [v]) rest h3 j o idx (by simpa using ho) (by simpa [eF] using hi) a ?_
    simpa using ha
theorem M1 {o:Option Operand} {a:Option AV} {d mx r:Nat} (h:ik D θ ρ o a) (hb:bound a d mx=some r) :
 (match o with
  | none=>r=d
  | some x=>(∀ code y,mx<=y->(Instr.sliceBound (ρ x) y code).run P w=.ok r w)/\r<=mx):=by
 cases o with
 | none =>
  simp only [ik] at h;subst h;simp only [bound,qd] at hb;exact hb.symm
 | some x =>
  obtain ⟨v,rfl,hv⟩:=h;unfold bound at hb;split at hb
  ·rename_i heq;cases heq
  ·rename_i k i heq;injection heq with heq;subst heq
   cases hle:Nat.ble i mx<;>rw [hle] at hb
   ·cases hb
   ·injection hb with hb;subst hb
    have hle':i<=mx:=by simpa [we] using hle
    refine ⟨λ code y hy=>?_,hle'⟩;have hi:(0:Int)<=(i:Int)/\(i:Int)<=(y:Int):=by omega
    have hiy:i<=y:=by omega
    simp [Instr.sliceBound,<-hv.now,aD,asIntOf,hi,hiy]
  ·cases hb
theorem G6 {lo hi mx:Option Operand} {a b m:Option AV} {isS:Bool} {len cap low M Y h l:Nat} (ha:ik D θ ρ lo a) (hb:ik D θ ρ hi b) (hm:ik D θ ρ mx m)
 (hM:(mx=none/\M=cap) \/ ∃ d,bound m d low=some M/\low<=cap/\mx.isSome=true) (hY:Y<=M) (hh:bound b len Y=some h) (hl:bound a 0 h=some l) (hno:mx.isSome=true->hi.isSome=true) :
 (Instr.sliceBounds isS len cap (lo.map ρ) (hi.map ρ) (mx.map ρ)).run P w=.ok (l,h,M) w:=by
 have e2:=M1 (P:=P) (w:=w) hb hh;have e3:=M1 (P:=P) (w:=w) ha hl;cases mx with
 | none =>
  obtain ⟨_,rfl⟩|⟨_,_,_,h9⟩:=hM
  ·cases hi with
   | none =>
    simp only at e2;subst e2;cases lo with
    | none=>simp only at e3;subst e3;simp [Instr.sliceBounds]
    | some x=>simp [Instr.sliceBounds,e3.1 _ _ (qh _)]
   | some y =>
    cases lo with
    | none=>simp only at e3;subst e3;simp [Instr.sliceBounds,e2.1 _ _ hY]
    | some x=>simp [Instr.sliceBounds,e2.1 _ _ hY,e3.1 _ _ (qh _)]
  ·cases h9
 | some z =>
  obtain ⟨h9,_⟩|⟨d,h9,hlow,_⟩:=hM
  ·cases h9
  ·have e1:=M1 (P:=P) (w:=w) hm h9;cases hi with
   | none=>simp at hno
   | some y =>
    cases lo with
    | none=>simp only at e3;subst e3;simp [Instr.sliceBounds,e1.1 _ _ hlow,e2.1 _ _ hY]
    | some x=>simp [Instr.sliceBounds,e1.1 _ _ hlow,e2.1 _ _ hY,e3.1 _ _ (qh _)]
theorem q6d (v:AV) (d d':Nat) {mx:Nat}:bound (some v) d mx=bound (some v) d' mx:=by
 cases v<;>try rfl
 rename_i k n;cases n<;>rfl
theorem BG {o:Option Operand} {a:Option AV} {d mx r:Nat} (h:ik D θ ρ o a) (hb:bound a d mx=some r) (hd:d<=mx):r<=mx:=by
 cases o with
 | none=>simp only [ik] at h;subst h;simp only [bound,qd] at hb;omega
 | some x =>
  obtain ⟨v,rfl,hv⟩:=h;unfold bound at hb;split at hb
  ·rename_i heq;cases heq
  ·rename_i k i heq;cases hle:Nat.ble i mx<;>rw [hle] at hb
   ·cases hb
   ·injection hb with hb;subst hb;simpa [we] using hle
  ·cases hb
theorem q99 (lo hi mx:Option Operand):∃ i j k,eF 0 [lo,hi,mx]=[i,j,k]:=by cases lo<;>cases hi<;>cases mx<;>simp [eF]
theorem q7e {size:Nat} {x:AV} {c:Value} {lo hi mx:Option Operand} {a b m:Option AV} {v:AV} (hx:VR D θ x c) (ha:ik D θ ρ lo a) (hb:ik D θ ρ hi b) (hm:ik D θ ρ mx m) (hv:c6 size x a b m=some v) :
 ∃ ad len cap l h M,c=.slice ad len cap/\(∀ isS,(Instr.sliceBounds isS len cap (lo.map ρ) (hi.map ρ) (mx.map ρ)).run P w=.ok (l,h,M) w) /\
  VR D θ v (.slice (if M=l then ad else ad.map (·.add (l*size))) (h-l) (M-l)):=by
 have hr:=hx.now;unfold c6 at hv;split at hv
 ·-- nil
  split at hv
  ·rename_i mx';cases hh:bound b 0 0 with
   | none=>rw [hh] at hv;cases hv
   | some h =>
    rw [hh] at hv;simp only [qn] at hv;cases hl:bound a 0 h with
    | none=>rw [hl] at hv;cases hv
    | some l =>
     rw [hl] at hv;injection hv with hv;subst hv
     have hmx:mx=none:=by
      cases mx with
      | none=>rfl
      | some z=>obtain ⟨_,h9,_⟩:=hm;cases h9
     subst hmx;have h0:h=0/\l=0:=by
      have q2:=BG hb hh (qh _);have q3:=BG ha hl (zq _);omega
     obtain ⟨rfl,rfl⟩:=h0;refine ⟨none,0,0,0,0,0,hr.symm,λ isS=>G6 (low:=0) ha hb hm (.inl ⟨rfl,rfl⟩) (qh _) hh hl (by simp),λ θ' _=>by simp [aD]⟩
  ·cases hv
 ·-- a slice of a known capacity
  rename_i bb oo n cc;split at hv
  ·cases hv
  ·rename_i hnn;cases hM:bound m cc cc with
   | none=>rw [hM] at hv;cases hv
   | some M =>
    rw [hM] at hv;simp only [qn] at hv;cases hh:bound b n M with
    | none=>rw [hh] at hv;cases hv
    | some h =>
     rw [hh] at hv;simp only [qn] at hv;cases hl:bound a 0 h with
     | none=>rw [hl] at hv;cases hv
     | some l =>
      rw [hl] at hv;injection hv with hv;subst hv
      have hno:mx.isSome=true->hi.isSome=true:=by
       intro h9;cases mx with
       | none=>cases h9
       | some z =>
        obtain ⟨_,hz,_⟩:=hm;cases hi with
        | some _=>rfl
        | none=>simp only [ik] at hb;subst hb;exact absurd (hnn _ hz) (by simp)
      have hMM:(mx=none/\M=cc) \/ ∃ d,bound m d cc=some M/\cc<=cc/\mx.isSome=true:=by
       cases mx with
       | none=>simp only [ik] at hm;subst hm;simp only [bound,qd] at hM;exact .inl ⟨rfl,hM.symm⟩
       | some z=>exact .inr ⟨cc,hM,qh _,rfl⟩
      refine ⟨_,n,cc,l,h,M,hr.symm,λ isS=>G6 ha hb hm hMM (qh _) hh hl hno,λ θ' hg=>?_⟩;have hst:=hx θ' hg;rw [<-hr] at hst;simp only [aD,Value.slice.injEq,qd,Addr.mk.injEq] at hst ⊢
      by_cases e:M=l
      ·subst e;simp [Nat.beq_refl]<;>omega
      ·have e':Nat.beq M l=false:=by rw [Bool.eq_false_iff];simpa [zy] using e
       rw [e'];simp [e,pQ]<;>omega
 ·-- a grown row's slice
  rename_i bb i m' s alt n;cases hc:(Nat.beq s size && Nat.ble i m')<;>rw [hc] at hv
  ·cases hv
  ·simp only [xq,zy,we] at hc;obtain ⟨rfl,him⟩:=hc;simp only [xk] at hv;split at hv
   ·-- no third bound
    rename_i hi';have hmx:mx=none:=by
     cases mx with
     | none=>rfl
     | some z=>obtain ⟨_,h9,_⟩:=hm;cases h9
    subst hmx;cases hh:bound b n (m'-i) with
    | none=>rw [hh] at hv;cases hv
    | some h =>
     rw [hh] at hv;simp only [qn] at hv;cases hl:bound a 0 h with
     | none=>rw [hl] at hv;cases hv
     | some l =>
      rw [hl] at hv;simp only [qn] at hv;cases hb2:Nat.ble h (m'-i)<;>rw [hb2] at hv
      ·cases hv
      ·injection hv with hv;subst hv
       have hhm:h<=m'-i:=by simpa [we] using hb2
       have hlh:=BG ha hl (zq _);refine ⟨_,n,_,l,h,_,hr.symm,λ isS=>G6 (low:=0) ha hb hm (.inl ⟨rfl,rfl⟩) (xS _ _) hh hl (by simp),λ θ' hg=>?_⟩;have hst:=hx θ' hg;rw [<-hr] at hst;simp only [aD,Value.slice.injEq,qd,Addr.mk.injEq,mz,qS] at hst;obtain ⟨⟨q1,q2⟩,q3⟩:=hst;have hext:θ'.ext bb = θ.ext bb:=by omega
       have hmul:(i+l)*s=i*s+l*s:=kh i l s;simp only [aD,Value.slice.injEq,qS,hext,hmul];refine ⟨?_,by omega⟩
       by_cases e:m'-i + θ.ext bb=l
       ·rw [qm e,qm (by omega)];simp only [qd,Addr.mk.injEq,mz];refine ⟨q1,?_⟩;rw [hext] at q2
        by_cases l0:l=0
        ·subst l0;rw [qm e] at q2 ⊢;exact q2
        ·have:Nat.beq l 0=false:=by rw [Bool.eq_false_iff];simpa [zy] using l0
         rw [this];rw [qe (by omega)] at q2 ⊢;exact q2
       ·rw [qe e,qe (by omega)];simp only [Ff,pQ,qd,Addr.mk.injEq,mz];refine ⟨q1,?_⟩;rw [hext] at q2;rw [qe (by omega)] at q2 ⊢;omega
   ·cases hv
   ·-- a third bound
    rename_i hno1 hno2;cases hM:bound m 0 (m'-i) with
    | none=>rw [hM] at hv;cases hv
    | some M =>
     rw [hM] at hv;simp only [qn] at hv;cases hh:bound b 0 M with
     | none=>rw [hh] at hv;cases hv
     | some h =>
      rw [hh] at hv;simp only [qn] at hv;cases hl:bound a 0 h with
      | none=>rw [hl] at hv;cases hv
      | some l =>
       rw [hl] at hv;simp only [qn] at hv;cases hb2:Nat.beq M l<;>rw [hb2] at hv
       ·injection hv with hv;subst hv
        have hne:M ≠ l:=by intro e;subst e;simp at hb2
        obtain ⟨z,hz,hz2⟩:∃ z,mx=some z /\ ∃ v,m=some v:=by
         cases mx with
         | none=>simp only [ik] at hm;exact absurd hm hno1
         | some z=>obtain ⟨v,h9,_⟩:=hm;exact ⟨z,rfl,v,h9⟩
        obtain ⟨mv,hmv⟩:=hz2;have hhi:hi.isSome=true:=by
         cases hi with
         | some _=>rfl
         | none=>simp only [ik] at hb;exact absurd hb (hno2 _ hmv)
        have hMle:=BG hm hM (zq _);have hhM:=BG hb hh (zq _);have hlh:=BG ha hl (zq _);have hh':bound b n M=some h:=by
         obtain ⟨y,hy⟩:=Option.isSome_iff_exists.1 hhi;subst hy;obtain ⟨bv,h9,_⟩:=hb;subst h9;rw [q6d bv n 0];exact hh
        refine ⟨_,n,_,l,h,M,hr.symm,λ isS=>G6 ha hb hm (.inr ⟨0,hM,xS _ _,by rw [hz];rfl⟩) (qh _) hh' hl (λ _=>hhi),λ θ' hg=>?_⟩;have hst:=hx θ' hg;rw [<-hr] at hst;simp only [aD,Value.slice.injEq,qd,Addr.mk.injEq,mz,qS] at hst;obtain ⟨⟨q1,q2⟩,q3⟩:=hst;have hext:θ'.ext bb = θ.ext bb:=by omega
        have hmul:(i+l)*s=i*s+l*s:=kh i l s;simp only [aD,Value.slice.injEq,mz,hmul,qe hne,Ff,pQ,qd,Addr.mk.injEq];refine ⟨q1,?_⟩;rw [hext,qe (by omega)] at q2;rw [qe (by omega)];omega
       ·cases hv
 ·-- a slice without room
  rename_i bb;split at hv
  ·rename_i mx';cases hh:bound b 0 0 with
   | none=>rw [hh] at hv;cases hv
   | some h =>
    rw [hh] at hv;simp only [qn] at hv;cases hl:bound a 0 h with
    | none=>rw [hl] at hv;cases hv
    | some l =>
     rw [hl] at hv;injection hv with hv;subst hv
     have hmx:mx=none:=by
      cases mx with
      | none=>rfl
      | some z=>obtain ⟨_,h9,_⟩:=hm;cases h9
     subst hmx;have h0:h=0/\l=0:=by
      have q2:=BG hb hh (qh _);have q3:=BG ha hl (zq _);omega
     obtain ⟨rfl,rfl⟩:=h0;refine ⟨_,0,0,0,0,0,hr.symm,λ isS=>G6 (low:=0) ha hb hm (.inl ⟨rfl,rfl⟩) (qh _) hh hl (by simp),λ θ' hg=>?_⟩;rw [hx θ' hg,<-hr];rfl
  ·cases hv
 ·cases hv
theorem q2n {o:Oper} {t e:TypeId} {x:Operand} {lo hi mx:Option Operand} {size:Nat} (ho:o.op=.slice t x lo hi mx) (ht:P.underlying t=some (.slice e)) (hs:bO P e=some size) :
 cK P o (x::iu [lo,hi,mx]) (Op.aQ size (eF 0 [lo,hi,mx])):=by
 intro D θ ρ w vs v h hv;obtain ⟨i,j,k,hij⟩:=q99 lo hi mx;rw [hij] at hv;unfold Op.aQ at hv;split at hv
 ·rename_i lo' hi' mx' y vs' heq;injection heq with e1 e2;injection e2 with e2 e3;injection e3 with e3 _;subst e1;subst e2;subst e3
  obtain ⟨c,cs,h1,h2,h3⟩:=h.dF;simp only [kt,zu] at h1;obtain ⟨rfl,rfl⟩:=h1;have hargs:=λ (q:Nat) (oo:Option Operand) (idx:Option Nat) (h1:[lo,hi,mx][q]? = some oo) (h2:[i,j,k][q]? = some idx)=>Nb [lo,hi,mx] [] vs' h3 q oo idx h1 (by simpa [hij] using h2);cases ha:arg vs' i with
  | none=>rw [ha] at hv;cases hv
  | some a =>
   rw [ha] at hv;simp only [qn] at hv;cases hb:arg vs' j with
   | none=>rw [hb] at hv;cases hv
   | some b =>
    rw [hb] at hv;simp only [qn] at hv;cases hm:arg vs' k with
    | none=>rw [hm] at hv;cases hv
    | some m =>
     rw [hm] at hv;simp only [qn] at hv;obtain ⟨ad,len,cap,l,hh,M,hc,hrun,hvr⟩:=q7e (P:=P) (w:=w) h2 (hargs 0 lo i rfl rfl a ha) (hargs 1 hi j rfl rfl b hb) (hargs 2 mx k rfl rfl m hm) hv;refine ⟨_,.inl ?_,hvr⟩;simp [execOp,ho,Instr.sliceAt,wx ht,Instr.slice,hc,hrun,oT hs]
 ·cases hv
theorem q9q {o:Oper} (xs:List Operand):cK P o xs Op.fail:=by
 intro D θ ρ w vs v _ hv;cases hv
end
end Go.Am
namespace Go.Am
def mA (P:Program) (o:Oper) (xs:List Operand) (f:List AV->AHeap->Option AV):Prop :=
 ∀ (base:Nat) (D:Nat->Prop) θ H (ρ:Operand->Value) w vs v,HR P base D θ H w->bz D θ vs (xs.map ρ)->f vs H=some v -> ∃ c,na P (execOp ρ o) w c w/\VR D θ v c
section
variable {P:Program}
theorem q67 {o:Oper} {t:TypeId} {x:Operand} (ho:o.op=.load t x) (ht:lG P t=some none):mA P o [x] Op.aa:=by
 intro base D θ H ρ w vs v hh h hv;unfold Op.aa at hv;split at hv
 ·rename_i b off;obtain ⟨x',he,ha⟩:=h.lj;simp only [zu,mz] at he;subst he;obtain ⟨c,h1,h2⟩:=hh.aa hv;refine ⟨c,.inl ?_,h2⟩;obtain ⟨g1,_⟩:=Jf (w:=w) ht;simp only [execOp,ho,<-ha.now,aD,Instr.loadAt,Instr.sureAddr,loadVar,Sem.run_bind,Sem.run_pure,Result.andThen_ok,g1,II,ya,qv,h1]
 ·cases hv
theorem q68 {o:Oper} {t:TypeId} {x:Operand} {n:Nat} (ho:o.op=.load t x) (ht:lG P t=some (some n)):mA P o [x] (Op.ao n):=by
 intro base D θ H ρ w vs v hh h hv;unfold Op.ao at hv;split at hv
 ·rename_i b off;obtain ⟨x',he,ha⟩:=h.lj;simp only [zu,mz] at he;subst he;cases hl:H.ao b off n with
  | none=>rw [hl] at hv;cases hv
  | some l =>
   rw [hl] at hv;injection hv with hv;subst hv
   obtain ⟨cs,h1,h2,_⟩:=hh.ao hl;refine ⟨.agg cs.toArray,.inl ?_,.agg h2⟩;obtain ⟨g1,g2⟩:=Jf (w:=w) ht;simp only [execOp,ho,<-ha.now,aD,Instr.loadAt,Instr.sureAddr,loadVar,Sem.run_bind,Sem.run_pure,Result.andThen_ok,g1,g2 n rfl,Cd,xa,h1]
 ·cases hv
theorem HR.tT {base:Nat} {D:Nat->Prop} {θ:Th} {H:AHeap} {w:World} (h:HR P base D θ H w) {b:Nat} {m:List (AV × AV × Nat) × Nat} (hb:H.tT b=some m) :
 H.get b=some (.map m.1 m.2)/\D b /\ ∃ ms:List MapEntry,w.heap[θ.bF b]? = some (.map ms.toArray m.2)/\du D θ m.1 ms:=by
 unfold AHeap.tT at hb;cases hg:H.get b with
 | none=>rw [hg] at hb;cases hb
 | some o =>
  rw [hg] at hb;obtain ⟨hd,co,hc,hr⟩:=h.obj b o hg;cases o<;>simp only [reduceCtorEq,qd] at hb;subst hb;obtain ⟨ms,h1,h2⟩:=hr;exact ⟨rfl,hd,ms,by rw [hc,h1],h2⟩
theorem du.length {D:Nat->Prop} {θ:Th}:∀ (es:List (AV × AV × Nat)) (ms:List MapEntry),du D θ es ms->es.length=ms.length
 | [],[],_=>rfl
 | _::es,_::ms,⟨_,h⟩=>by simp [du.length es ms h]
 | [],_::_,h=>h.elim
 | _::_,[],h=>h.elim
theorem VR.isAgg {D:Nat->Prop} {θ:Th} {l:List AV} {c:Value} (h:VR D θ (.agg l) c):∃ cs:List Value,c=.agg cs.toArray/\bz D θ l cs:=h.fI
theorem q3q {t:TypeId} {fs:Array Field} (h:P.underlying t=some (.struct fs)):P.fieldsOf t=fs:=by
 simp [Program.fieldsOf,h]
theorem q6n {x y:AV} {r:Bool} (h:bg .int x y=some r):∃ k a b,x=.int k a/\y=.int k b/\r=(a == b):=by
 cases x<;>cases y<;>simp only [bg,reduceCtorEq] at h;rename_i k a k' b;cases hk:nR k k' with
 | false=>rw [hk] at h;cases h
 | true =>
  rw [hk] at h;simp only [xk,qd] at h;have:k=k':=by simpa [KV] using hk
  subst this;exact ⟨k,a,b,rfl,rfl,by rw [<-h,At]⟩
theorem q6o {x y:AV} {r:Bool} (h:bg .str x y=some r):∃ a b,x=.str a/\y=.str b/\r=(a == b):=by
 cases x<;>cases y<;>simp only [bg,reduceCtorEq,qd] at h;exact ⟨_,_,rfl,rfl,by rw [<-h,FF]⟩
theorem q3p {x y:AV} {r:Bool} (h:bg .bool x y=some r):∃ a b,x=.bool a/\y=.bool b/\r=(a == b):=by
 cases x<;>cases y<;>simp only [bg,reduceCtorEq,qd] at h;exact ⟨_,_,rfl,rfl,h.symm⟩
theorem JF {off:Nat} {n:Option Nat} {t rest:bR} {x y:AV} {r:Bool} (h:bg (.part off n t rest) x y=some r) :
 ∃ l l' a b q,x=.agg l/\y=.agg l'/\partAt l off n=some a/\partAt l' off n=some b/\bg t a b=some q/\(q=true->bg rest (.agg l) (.agg l')=some r)/\(q=false->r=false):=by
 cases x<;>cases y<;>simp only [bg,reduceCtorEq] at h;rename_i l l';simp only [qc] at h;obtain ⟨a,ha,b,hb,q,hq,h⟩:=h;refine ⟨l,l',a,b,q,rfl,rfl,ha,hb,hq,λ e=>?_,λ e=>?_⟩
 ·subst e;exact h
 ·subst e;simpa using h.symm
theorem Ju {x y:AV} {r:Bool} (h:bg .nil x y=some r):r=true/\(∃ l,x=.agg l)/\(∃ l,y=.agg l):=by
 cases x<;>cases y<;>simp only [bg,reduceCtorEq,qd] at h;exact ⟨h.symm,⟨_,rfl⟩,⟨_,rfl⟩⟩
theorem qyo (s:Nat) (a:Option Nat) (q:bR) (n i:Nat) {x y:AV} {r:Bool} (h:bg (dK.itemsT s a q n i) x y=some r):(∃ l,x=.agg l)/\(∃ l,y=.agg l):=by
 cases n with
 | zero=>exact (Ju h).2
 | succ n=>obtain ⟨l,l',_,_,_,h1,h2,_⟩:=JF h;exact ⟨⟨l,h1⟩,⟨l',h2⟩⟩
theorem qvh {go:TypeId->Option bR} {fs:List Field} {q:bR} (hq:dK.fieldsT P go fs=some q) {x y:AV} {r:Bool} (h:bg q x y=some r):(∃ l,x=.agg l)/\(∃ l,y=.agg l):=by
 cases fs with
 | nil=>injection hq with hq;subst hq;exact (Ju h).2
 | cons f fs =>
  simp only [dK.fieldsT] at hq;split at hq
  ·cases hq
  ·simp only [qc] at hq;obtain ⟨a,_,q1,_,r1,_,hq⟩:=hq;injection hq with hq;subst hq
   obtain ⟨l,l',_,_,_,h1,h2,_⟩:=JF h;exact ⟨⟨l,h1⟩,⟨l',h2⟩⟩
def td (P:Program) (w:World) (D:Nat->Prop) (θ:Th) (m:Nat) (t:TypeId) (q:bR):Prop :=
 ∀ (x y:AV) (cx cy:Value) (r:Bool),VR D θ x cx->VR D θ y cy->bg q x y=some r->(Op.equalIn m t cx cy).run P w=.ok r w
theorem qss {w:World} {D:Nat->Prop} {θ:Th} {m:Nat} {go:TypeId->Option bR} (ih:∀ t q,go t=some q->td P w D θ m t q) {l l':List AV} {cs cs':List Value} (hl:bz D θ l cs) (hl':bz D θ l' cs') :
 ∀ (fs:List Field) (q:bR) (r:Bool),dK.fieldsT P go fs=some q->bg q (.agg l) (.agg l')=some r->(Op.eqFields m cs.toArray cs'.toArray fs).run P w=.ok r w
 | [],q,r,hq,h=>by
  injection hq with hq;subst hq
  rw [(Ju h).1];simp [Op.eqFields]
 | f::fs,q,r,hq,h=>by
  simp only [dK.fieldsT] at hq;split at hq
  ·cases hq
  ·rename_i hn;simp only [qc] at hq;obtain ⟨a,ha,q1,hq1,r1,hr1,hq⟩:=hq;injection hq with hq;subst hq
   obtain ⟨l1,l2,x,y,e,h1,h2,h3,h4,h5,h6,h7⟩:=JF h;injection h1 with h1;injection h2 with h2;subst h1;subst h2
   obtain ⟨c,p1,v1⟩:=Ja (w:=w) ha hl h3;obtain ⟨c',p2,v2⟩:=Ja (w:=w) ha hl' h4;have p3:=ih f.type q1 hq1 x y c c' e v1 v2 h5;simp only [Op.eqFields,hn,ne_eq,not_false_eq_true,xa,Sem.run_bind,p1,p2,p3,Result.andThen_ok];cases e
   ·simp [h7 rfl]
   ·simpa using qss ih hl hl' fs r1 r hr1 (h6 rfl)
theorem qvg {w:World} {D:Nat->Prop} {θ:Th} {m:Nat} {e:TypeId} {s:Nat} {a:Option Nat} {q:bR} (ha:lG P e=some a) (ih:td P w D θ m e q) {l l':List AV} {cs cs':List Value} (hl:bz D θ l cs) (hl':bz D θ l' cs') :
 ∀ (n i:Nat) (r:Bool),bg (dK.itemsT s a q n i) (.agg l) (.agg l')=some r->(Op.eqItems m e s cs.toArray cs'.toArray (List.range' i n)).run P w=.ok r w
 | 0,i,r,h=>by rw [(Ju h).1];simp [Op.eqItems]
 | n+1,i,r,h=>by
  obtain ⟨l1,l2,x,y,b,h1,h2,h3,h4,h5,h6,h7⟩:=JF h;injection h1 with h1;injection h2 with h2;subst h1;subst h2
  obtain ⟨c,p1,v1⟩:=Ja (w:=w) ha hl h3;obtain ⟨c',p2,v2⟩:=Ja (w:=w) ha hl' h4;have p3:=ih x y c c' b v1 v2 h5;simp only [List.range'_succ,Op.eqItems,Sem.run_bind,p1,p2,p3,Result.andThen_ok];cases b
  ·simp [h7 rfl]
  ·simpa using qvg ha ih hl hl' n (i+1) r (h6 rfl)
theorem IP (m:Nat) {D:Nat->Prop} {θ:Th} (w:World):∀ (d:Nat) (t:TypeId) (q:bR),dK P d t=some q->td P w D θ (d+m) t q
 | 0,_,_,h=>by cases h
 | d+1,t,q,h=>by
  intro x y cx cy r hx hy hr;unfold dK at h;have ed:d+1+m=(d+m)+1:=by omega
  rw [ed];cases hu:P.underlying t with
  | none=>rw [hu] at h;cases h
  | some kd =>
   rw [hu] at h;cases kd
   case int k0 =>
    injection h with h;subst h
    obtain ⟨k,a,b,rfl,rfl,rfl⟩:=q6n hr;rw [<-hx.now,<-hy.now,aD,aD,run_equalIn_int w _ t k k0 a b hu]
   case string =>
    injection h with h;subst h
    obtain ⟨a,b,rfl,rfl,rfl⟩:=q6o hr;rw [<-hx.now,<-hy.now,aD,aD,run_equalIn_string w _ t _ _ hu,NS,NS]
   case bool =>
    injection h with h;subst h
    obtain ⟨a,b,rfl,rfl,rfl⟩:=q3p hr;rw [<-hx.now,<-hy.now,aD,aD,run_equalIn_bool' w _ t _ _ hu]
   case struct fs =>
    simp only at h;split at h
    ·cases h
    ·rename_i hst;have hst':P.stoodInHeld t=false:=by simpa using hst
     obtain ⟨⟨l,rfl⟩,⟨l',rfl⟩⟩:=qvh h hr;obtain ⟨cs,rfl,hl⟩:=hx.fI;obtain ⟨cs',rfl,hl'⟩:=hy.fI;have hf:=q3q hu;rw [run_equalIn_struct w _ t _ _ (by rw [hf];exact hu) hst',hf];exact qss (λ t q hq=>IP m w d t q hq) hl hl' _ _ _ h hr
   case array n e =>
    simp only [qc] at h;obtain ⟨s,hs,a,ha,q1,hq1,h⟩:=h;injection h with h;subst h
    obtain ⟨⟨l,rfl⟩,⟨l',rfl⟩⟩:=qyo _ _ _ _ _ hr;obtain ⟨cs,rfl,hl⟩:=hx.fI;obtain ⟨cs',rfl,hl'⟩:=hy.fI;obtain ⟨i,hi,his⟩:=qsy hs;rw [run_equalIn_array _ _ _ _ hu hi,List.range_eq_range'];have hc:P.cellsOf e=s:=by simp [Program.cellsOf,hi,his]
    rw [hc];exact qvg ha (IP m w d e q1 hq1) hl hl' n 0 r hr
   all_goals (cases h)
theorem B6 {D:Nat->Prop} {θ:Th} {w:World} {t:TypeId} {q:bR} (h:G3 P t=some q) {x y:AV} {cx cy:Value} {r:Bool} (hx:VR D θ x cx) (hy:VR D θ y cy) (hr:bg q x y=some r) :
 (Op.equal t cx cy).run P w=.ok r w:=IP 9980 w 20 t q h x y cx cy r hx hy hr
end
end Go.Am
namespace Go.Am
section
variable {P:Program} {base:Nat} {D:Nat->Prop} {θ:Th} {H:AHeap} {w:World}
def isStr:AV->Bool
 | .str _=>true
 | _=>false
theorem Mk (hh:HR P base D θ H w) {x:AV} {c:Value} {size n k:Nat} {l:List AV} (hx:VR D θ x c) (hk:dO x=some k) (hn:n<=k) (hs:isStr x=false)
 (h:firstCells H size n x=some l):∃ a len cap,c=.slice a len cap/\len=k/\((a=none/\l=[]/\n=0/\k=0) \/
  ∃ ad cs,a=some ad/\(loadCells ad (n*size)).run P w=.ok cs.toArray w/\bz D θ l cs/\l.length=n*size):=by
 have hz:∀ a,(loadCells a 0).run P w=.ok ([]:List Value).toArray w:=λ a=>rfl;cases x<;>simp only [dO,reduceCtorEq,qd] at hk
 case str s=>cases hs
 case nils =>
  subst hk;simp only [firstCells,qd] at h;subst h;exact ⟨none,0,0,hx.now.symm,rfl,.inl ⟨rfl,rfl,by omega,rfl⟩⟩
 case slice b o n' cp =>
  subst hk;simp only [firstCells] at h;refine ⟨_,_,_,hx.now.symm,rfl,.inr ?_⟩;cases hb:Nat.beq n 0 with
  | true =>
   have:n=0:=by simpa using hb
   subst this;rw [hb] at h;injection h with h;subst h
   exact ⟨_,[],rfl,by simpa using hz _,.nil,by simp⟩
  | false =>
   rw [hb] at h;obtain ⟨cs,h1,h2,h3⟩:=hh.ao h;exact ⟨_,cs,rfl,h1,h2,h3⟩
 case eslice b =>
  subst hk;have:n=0:=by omega
  subst this;simp only [firstCells,Nat.beq,xk,qd] at h;subst h;exact ⟨_,_,_,hx.now.symm,rfl,.inr ⟨_,[],rfl,by simpa using hz _,.nil,by simp⟩⟩
 case gslice b i m s alt n' =>
  subst hk;simp only [firstCells] at h;refine ⟨_,_,_,hx.now.symm,rfl,.inr ?_⟩;cases hb:Nat.beq n 0 with
  | true =>
   have:n=0:=by simpa using hb
   subst this;rw [hb] at h;injection h with h;subst h
   exact ⟨_,[],rfl,by simpa using hz _,.nil,by simp⟩
  | false =>
   rw [hb] at h;simp only [zk] at h;cases hc:(Nat.beq s size && Nat.blt i m) with
   | false=>rw [hc] at h;cases h
   | true =>
    rw [hc] at h;simp only [xq,zy,mX] at hc;obtain ⟨rfl,hi⟩:=hc;obtain ⟨cs,h1,h2,h3⟩:=hh.ao h;refine ⟨_,cs,rfl,?_,h2,h3⟩;rw [qe (by omega)];exact h1
end
end Go.Am
namespace Go.Am
section
variable {P:Program} {base:Nat} {D:Nat->Prop} {θ:Th} {H:AHeap} {w:World}
theorem KN {w:World} {r:Nat} {c:Array Value} {e:TypeId} {fz:Nat × Nat} (h:w.heap[r]? = some (.cells c e fz)):w.shape? r=some (e,c.size):=by
 simp [World.shape?,h]
theorem qt7 {w:World} {r:Nat} {c:Array Value} {e:TypeId} {fz:Nat × Nat} (h:w.heap[r]? = some (.cells c e fz)):(viewAt r).run P w=.ok none w:=by
 simp [viewAt,KN h]
theorem qmm {w:World} {a:Addr} {c:Array Value} {e:TypeId} {fz:Nat × Nat} (h:w.heap[a.block]? = some (.cells c e fz)):(noView a).run P w=.ok () w:=by
 simp [noView,qt7 h]
theorem JC {isN isS:AV->Bool} {x y:AV} {q:Bool} (h:mo isN isS x y=some q) :
 (isN x=true/\isN y=true/\q=true)\/(isN x=true/\isS y=true/\q=false)\/(isS x=true/\isN y=true/\q=false):=by
 unfold mo at h;cases h1:isN x<;>cases h2:isN y<;>cases h3:isS x<;>cases h4:isS y<;>simp_all
theorem B7.not {cfz:Nat × Nat} (h:B7 (0,0) cfz) (i:Nat):¬ (cfz.1<=i/\i<cfz.2):=by
 rcases h with h|⟨_,h⟩<;>simp at *<;>omega
theorem q9p (hh:HR P base D θ H w) {b b' o o':Nat} (hne:b ≠ b') (h:pH H b b'=true) :
 (sameAddr ⟨θ.bF b,θ.off b+o,none⟩ ⟨θ.bF b',θ.off b'+o',none⟩).run P w=.ok false w:=by
 have key:∀ (k1 k2 o1 o2:Nat) (c1 c2:Array Value) (e1 e2:TypeId) (f1 f2:Nat × Nat),k1 ≠ k2->w.heap[k1]? = some (.cells c1 e1 f1)->w.heap[k2]? = some (.cells c2 e2 f2) ->
  ((∀ i,¬ (f1.1<=i/\i<f1.2))/\c2.size ≠ 0\/(∀ i,¬ (f2.1<=i/\i<f2.2))/\c1.size ≠ 0)->(sameAddr ⟨k1,o1,none⟩ ⟨k2,o2,none⟩).run P w=.ok false w:=by
  intro k1 k2 o1 o2 c1 c2 e1 e2 f1 f2 hk h1 h2 hc;have s1:=KN h1;have s2:=KN h2;have n1:(noView ⟨k1,o1,none⟩).run P w=_:=qmm h1;have n2:(noView ⟨k2,o2,none⟩).run P w=_:=qmm h2;have fr1:∀ i,w.frozen? ⟨k1,i,none⟩=(decide (f1.1<=i) && decide (i<f1.2)):=λ i=>by simp [World.frozen?,h1]
  have fr2:∀ i,w.frozen? ⟨k2,i,none⟩=(decide (f2.1<=i) && decide (i<f2.2)):=λ i=>by simp [World.frozen?,h2]
  have hkb:(k1 == k2)=false:=by simpa using hk
  rcases hc with ⟨hf,hz⟩|⟨hf,hz⟩
  ·have fz1:∀ i,w.frozen? ⟨k1,i,none⟩=false:=λ i=>by rw [fr1];have:=hf i;simp at this ⊢;omega
   simp only [sameAddr,Sem.run_bind,run_frozen,fz1,n1,n2,hkb,mayBeOne,stringish,run_shape,s1,s2,Sem.run_ite,Bool.false_and,ya,qv,Sem.run_pure,Result.andThen_ok];cases w.frozen? ⟨k2,o2,none⟩<;>simp [hz,s2]
  ·have fz2:∀ i,w.frozen? ⟨k2,i,none⟩=false:=λ i=>by rw [fr2];have:=hf i;simp at this ⊢;omega
   simp only [sameAddr,Sem.run_bind,run_frozen,fz2,n1,n2,hkb,mayBeOne,stringish,run_shape,s1,s2,Sem.run_ite,Bool.and_false,ya,qv,Sem.run_pure,Result.andThen_ok];cases w.frozen? ⟨k1,o1,none⟩<;>simp [hz,s1,s2,fz2]
 unfold pH at h;split at h
 ·rename_i c e x c' e' fz' ow' hb hb';obtain ⟨_,co,hc,pre,cs,post,cfz,et,rfl,h2,h3,h4⟩:=hh.obj b _ hb;obtain ⟨_,co',hc',pre',cs',post',cfz',et',rfl,h2',h3',h4'⟩:=hh.obj b' _ hb';refine key _ _ _ _ _ _ _ _ _ _ (hh.inj b b' _ _ hb hb' rfl hne) hc hc' (.inl ⟨(h4 rfl).2.2.2.not,?_⟩);have:=h3'.length;simp only [List.size_toArray,qx,yi] at this ⊢;omega
 ·rename_i c e fz ow c' e' hb hb';obtain ⟨_,co,hc,pre,cs,post,cfz,et,rfl,h2,h3,h4⟩:=hh.obj b _ hb;obtain ⟨_,co',hc',pre',cs',post',cfz',et',rfl,h2',h3',h4'⟩:=hh.obj b' _ hb';refine key _ _ _ _ _ _ _ _ _ _ (λ e=>hh.inj b' b _ _ hb' hb rfl (λ e=>hne e.symm) e.symm) hc hc' (.inr ⟨(h4' rfl).2.2.2.not,?_⟩);have:=h3.length;simp only [List.size_toArray,qx,yi] at this ⊢;omega
 ·cases h
def oV (P:Program) (t:TypeId) (x y:Operand):oM->Prop
 | .bool=>P.underlying t=some .bool
 | .ptr=>∃ e n,P.underlying t=some (.pointer e)/\bO P e=some (n+1)
 | .slice=>∃ e,P.underlying t=some (.slice e)
 | .map=>∃ k e,P.underlying t=some (.map k e)
 | .func=>∃ a b c,P.underlying t=some (.func a b c)
 | .iface=>∃ ms,P.underlying t=some (.interface ms)/\((∃ v,x=.const v) \/ ∃ v,y=.const v)
 | .ifaces f=>(∃ ms,P.underlying t=some (.interface ms)) /\ ∀ u q,f u=some q->dK P 20 u=some q /\ ∃ i,P.info? u=some i/\i.comparable=true
 | .agg q=>P.eqGuardType P.depth t=false/\G3 P t=some q/\((∃ fs,P.underlying t=some (.struct fs)) \/ ∃ n e,P.underlying t=some (.array n e))
set_option maxHeartbeats 2000000 in
theorem DX (hh:HR P base D θ H w) {t:TypeId} {x y:Operand} {ρ:Operand->Value} {k:oM} (hk:oV P t x y k) {a b:AV} (ha:VR D θ a (ρ x)) (hb:VR D θ b (ρ y)) {q:Bool}
 (h:Ck H k a b=some q) (op:BinOp) (hop:op=.eql\/op=.neq) :
 ((do eqGuard op t x y (ρ x) (ρ y);binOp op t (ρ x) (ρ y)):Sem Value).run P w=.ok (.bool (if op=.neq then !q else q)) w:=by
 have fin:(eqGuard op t x y (ρ x) (ρ y)).run P w=.ok () w->(Op.equal t (ρ x) (ρ y)).run P w=.ok q w->(binOp .eql t (ρ x) (ρ y)).run P w=((do pure (.bool (<-Op.equal t (ρ x) (ρ y)))):Sem Value).run P w ->
  (binOp .neq t (ρ x) (ρ y)).run P w=((do pure (.bool (!(<-Op.equal t (ρ x) (ρ y))))):Sem Value).run P w ->
  ((do eqGuard op t x y (ρ x) (ρ y);binOp op t (ρ x) (ρ y)):Sem Value).run P w=.ok (.bool (if op=.neq then !q else q)) w:=by
  intro h1 h2 h3 h4;rw [Sem.run_bind,h1,Result.andThen_ok];rcases hop with rfl|rfl
  ·rw [h3];simp [h2]
  ·rw [h4];simp [h2]
 obtain ⟨dd,e1,e0⟩:∃ d,(∀ p q,Op.equal t p q=Op.equalIn (d+1) t p q) /\ ∃ m,d=20+m:=⟨9999,λ _ _=>rfl,9979,rfl⟩
 cases k
 case bool =>
  cases a<;>cases b<;>simp only [Ck,reduceCtorEq,qd] at h;subst h;have hu:P.underlying t=some .bool:=hk;rw [<-ha.now,<-hb.now];rw [<-ha.now,<-hb.now] at fin;refine fin ?_ (run_equalIn_bool' w _ t _ _ hu) (by simp only [aD,binOp]) (by simp only [aD,binOp]);rcases hop with rfl|rfl<;>simp [eqGuard,aD]
 case ptr =>
  obtain ⟨e,n,hu,hs⟩:=hk;have hs':=oT (w:=w) hs;have hq:(Op.equal t (ρ x) (ρ y)).run P w=.ok q w:=by
   cases a<;>cases b<;>simp only [Ck,reduceCtorEq,qd] at h
   ·subst h;rw [<-ha.now,<-hb.now,e1];simp [aD,Op.equalIn,wx hu]
   ·subst h;rw [<-ha.now,<-hb.now,e1];simp [aD,Op.equalIn,wx hu]
   ·subst h;rw [<-ha.now,<-hb.now,e1];simp [aD,Op.equalIn,wx hu]
   ·rename_i b1 o1 b2 o2;rw [<-ha.now,<-hb.now,e1];simp only [aD,Op.equalIn,Sem.run_bind,wx hu,Result.andThen_ok,hs',ne_eq,Nat.add_eq_zero_iff,Nat.succ_ne_zero,and_false,not_false_eq_true,xa];cases hbb:Nat.beq b1 b2 with
    | true =>
     rw [hbb] at h;have:b1=b2:=by simpa using hbb
     subst this;simp only [xk,qd] at h;subst h;simp only [sameAddr,beq_self_eq_true,xa,Sem.run_pure];congr 1
     by_cases ho:o1=o2
     ·subst ho;simp
     ·have:Nat.beq o1 o2=false:=by simpa [<-Bool.not_eq_true,zy] using ho
      rw [this];simp [ho]
    | false =>
     rw [hbb] at h;simp only [zk] at h;cases hp:pH H b1 b2 with
     | false=>rw [hp] at h;cases h
     | true =>
      rw [hp] at h;simp only [xk,qd] at h;subst h;have hne:b1 ≠ b2:=λ e=>by subst e;simp at hbb
      exact q9p hh hne hp
  cases a<;>cases b<;>simp only [Ck,reduceCtorEq,qd] at h <;>
   (rw [<-ha.now,<-hb.now] at hq ⊢;rw [<-ha.now,<-hb.now] at fin
    exact fin (by rcases hop with rfl|rfl<;>simp [eqGuard,aD]) hq (by simp only [aD,binOp]) (by simp only [aD,binOp]))
 case slice =>
  obtain ⟨e,hu⟩:=hk;have hc:=JC h;cases a<;>cases b<;>simp [vA,isSlice] at hc <;>
   (subst hc;rw [<-ha.now,<-hb.now];rw [<-ha.now,<-hb.now] at fin
    exact fin (by rcases hop with rfl|rfl<;>simp [eqGuard,aD]) (by rw [e1];simp [aD,Op.equalIn,wx hu]) (by simp only [aD,binOp]) (by simp only [aD,binOp]))
 case map =>
  obtain ⟨k,e,hu⟩:=hk;have hc:=JC h;cases a<;>cases b<;>simp [uk,isMap] at hc <;>
   (subst hc;rw [<-ha.now,<-hb.now];rw [<-ha.now,<-hb.now] at fin
    exact fin (by rcases hop with rfl|rfl<;>simp [eqGuard,aD]) (by rw [e1];simp [aD,Op.equalIn,wx hu]) (by simp only [aD,binOp]) (by simp only [aD,binOp]))
 case func =>
  obtain ⟨p1,p2,p3,hu⟩:=hk;have hc:=JC h;cases a<;>cases b<;>simp [ud,GB] at hc <;>
   (subst hc;rw [<-ha.now,<-hb.now];rw [<-ha.now,<-hb.now] at fin
    exact fin (by rcases hop with rfl|rfl<;>simp [eqGuard,aD]) (by rw [e1];simp [aD,Op.equalIn,wx hu]) (by simp only [aD,binOp]) (by simp only [aD,binOp]))
 case iface =>
  obtain ⟨ms,hu,hxy⟩:=hk;have hc:=JC h;cases a<;>cases b<;>simp [rX,isIface] at hc <;>
   (subst hc;rw [<-ha.now,<-hb.now];rw [<-ha.now,<-hb.now] at fin
    exact fin (by rcases hop with rfl|rfl<;>rcases hxy with ⟨v,rfl⟩|⟨v,rfl⟩<;>simp [eqGuard,aD]) (by rw [e1];simp [aD,Op.equalIn,wx hu]) (by simp only [aD,binOp]) (by simp only [aD,binOp]))
 case ifaces f =>
  obtain ⟨⟨ms,hu⟩,hf⟩:=hk;cases a<;>cases b<;>simp only [Ck,reduceCtorEq,qd] at h
  ·rename_i t1 v1 t2 v2;obtain ⟨c1,hc1,hv1⟩:=ha.gO;obtain ⟨c2,hc2,hv2⟩:=hb.gO;rw [hc1,hc2] at fin ⊢;refine fin (by rcases hop with rfl|rfl<;>simp [eqGuard]) ?_ (by simp only [binOp]) (by simp only [binOp]);rw [e1];cases hbq:Nat.beq t1 t2 with
   | true =>
    rw [hbq] at h;simp only [zy] at hbq;subst hbq;simp only [xk,qc] at h;obtain ⟨tr,htr,h⟩:=h;obtain ⟨g1,i,g2,g3⟩:=hf _ _ htr;obtain ⟨m,rfl⟩:=e0;have hrun:=IP m (D:=D) (θ:=θ) w 20 t1 tr g1 v1 v2 c1 c2 q hv1 hv2 h;simp [Op.equalIn,wx hu,typeInfo,g2,g3,hrun]
   | false =>
    rw [hbq] at h;have hne:t1 ≠ t2:=λ e=>by subst e;simp at hbq
    simp only [zk,qd] at h;subst h;simp [Op.equalIn,wx hu,hne]
  ·subst h;rw [<-ha.now,<-hb.now];rw [<-ha.now,<-hb.now] at fin;exact fin (by rcases hop with rfl|rfl<;>simp [eqGuard,aD]) (by rw [e1];simp [aD,Op.equalIn,wx hu]) (by simp only [aD,binOp]) (by simp only [aD,binOp])
  ·subst h;rw [<-ha.now,<-hb.now];rw [<-ha.now,<-hb.now] at fin;exact fin (by rcases hop with rfl|rfl<;>simp [eqGuard,aD]) (by rw [e1];simp [aD,Op.equalIn,wx hu]) (by simp only [aD,binOp]) (by simp only [aD,binOp])
 case agg tr =>
  obtain ⟨hg,hkt,hu⟩:=hk;have hq:=B6 (w:=w) hkt ha hb h;have hagg:(∃ l,a=.agg l) /\ ∃ l,b=.agg l:=by
   have hkt:dK P (19+1) t=some tr:=hkt;rw [dK] at hkt;rcases hu with ⟨fs,hu⟩|⟨n,e,hu⟩
   ·rw [hu] at hkt;simp only at hkt;split at hkt
    ·cases hkt
    ·exact qvh hkt h
   ·rw [hu] at hkt;simp only [qc] at hkt;obtain ⟨s,hs,a',ha',q1,hq1,hkt⟩:=hkt;injection hkt with hkt;subst hkt
    exact qyo _ _ _ _ _ h
  obtain ⟨⟨l,rfl⟩,⟨l',rfl⟩⟩:=hagg;obtain ⟨cs,h1,_⟩:=ha.fI;obtain ⟨cs',h2,_⟩:=hb.fI;rw [h1,h2] at hq fin ⊢;exact fin (run_eqGuard_agg w _ t x y _ _ hg) hq (by simp only [binOp]) (by simp only [binOp])
theorem q9u {o:Oper} {t t':TypeId} {x y:Operand} {k:oM} {neg:Bool} (ho:o.op=.binOp (if neg then .neq else .eql) t x y t') (hk:oV P t x y k):mA P o [x,y] (Op.eq k neg):=by
 intro base D θ H ρ w vs v hh h hv;unfold Op.eq at hv;split at hv
 ·rename_i a b;obtain ⟨x',y',he,ha,hb⟩:=h.qV;simp only [zu,mz] at he;obtain ⟨rfl,rfl⟩:=he;simp only [qc] at hv;obtain ⟨q,hq,hv⟩:=hv;injection hv with hv;subst hv
  have:=DX hh hk ha hb hq (if neg then .neq else .eql) (by cases neg<;>simp);refine ⟨_,.inl ?_,.bool _⟩;simp only [execOp,ho];rw [Sem.run_bind,this];cases neg<;>simp
 ·cases hv
end
end Go.Am
namespace Go.Am
structure gZ (w w0:World):Prop where
 heap:w0.heap=w.heap
 os:w0.os=w.os
 tape:w0.tape=w.tape
 output:w0.output=w.output
theorem gZ.refl (w:World):gZ w w:=⟨rfl,rfl,rfl,rfl⟩
theorem gZ.drew (w:World):gZ w w.drew:=⟨rfl,rfl,rfl,rfl⟩
theorem gZ.trans {a b c:World} (h:gZ a b) (h':gZ b c):gZ a c:=⟨h'.heap.trans h.heap,h'.os.trans h.os,h'.tape.trans h.tape,h'.output.trans h.output⟩
def gP (P:Program) (o:Oper) (xs:List Operand) (f:List AV->Option (bK × (Nat->AV))):Prop :=
 ∀ (D:Nat->Prop) θ (ρ:Operand->Value) w vs ob mk,bz D θ vs (xs.map ρ)->f vs=some (ob,mk) ->
  own ob=true /\ ∃ w0 co ext c,(execOp ρ o).run P w=.ok (.value c) (w0.alloc co)/\gZ w w0 /\
   ∀ (D':Nat->Prop) θ' id,Ag D θ θ'->(∀ b,D b->D' b)->D' id -> θ'.bF id=w.heap.size -> θ'.off id=0 -> θ'.ext id=ext->jL P D' θ' id ob co/\VR D' θ' (mk id) c
section
variable {P:Program}
theorem I5 {D':Nat->Prop} {θ':Th} {id:Nat} {cells:List AV} {cs:List Value} {e:TypeId} (h:bz D' θ' cells cs) (ho:θ'.off id=0) :
 jL P D' θ' id (.row cells e (0,0) true) (.cells cs.toArray e (0,0)) :=
 ⟨[],cs,[],(0,0),_,by simp,by simp [ho],h,λ _=>⟨rfl,rfl,rfl,.inl rfl⟩⟩
theorem q5j {D':Nat->Prop} {θ':Th} {id k:Nat} (hd:D' id) (hb:θ'.bF id=k) (ho:θ'.off id=0):VR D' θ' (Op.ptrTo id) (.pointer (some ⟨k,0,none⟩)):=by
 have:=VR.ptr (θ:=θ') (o:=0) hd;rw [hb,ho] at this;exact this
theorem qyq {D':Nat->Prop} {θ':Th} {id k n m:Nat} (hd:D' id) (hb:θ'.bF id=k) (ho:θ'.off id=0):VR D' θ' (Op.sliceTo n m id) (.slice (some ⟨k,0,none⟩) n m):=by
 have:=VR.slice (θ:=θ') (o:=0) (n:=n) (c:=m) hd;simp only [aD,hb,ho] at this;exact this
theorem q3b {o:Oper} {e:TypeId} {z:AV} (ho:o.op=.alloc e) (hz:zeroOf P e=some z):gP P o [] (Op.alloc e z.cells):=by
 intro D θ ρ w vs ob mk h hv;unfold Op.alloc at hv;split at hv
 ·injection hv with hv;injection hv with h1 h2;subst h1;subst h2
  obtain ⟨zc,hz1,hz2⟩:=F0 (w:=w) hz;refine ⟨rfl,w,.cells zc.cells e (0,0),0,.pointer (some ⟨w.heap.size,0,none⟩),?_,.refl w,λ D' θ' id ha hd hid hb hoff _=>⟨?_,q5j hid hb hoff⟩⟩
  ·simp [execOp,ho,Instr.alloc,hz1,newVar,newRow]
  ·have:=I5 (P:=P) (e:=e) (hz2 D' θ').cells hoff
   simpa using this
 ·cases hv
theorem q7z {o:Oper} {e:TypeId} {x:Operand} (ho:o.op=.box e x):gP P o [x] (Op.box e):=by
 intro D θ ρ w vs ob mk h hv;unfold Op.box at hv;split at hv
 ·rename_i v;obtain ⟨x',he,ha⟩:=h.lj;simp only [zu,mz] at he;subst he;injection hv with hv;injection hv with h1 h2;subst h1;subst h2
  refine ⟨rfl,w,.cells (ρ x).cells e (0,0),0,.pointer (some ⟨w.heap.size,0,none⟩),?_,.refl w,λ D' θ' id hg hd hid hb hoff _=>⟨?_,q5j hid hb hoff⟩⟩
  ·simp [execOp,ho,Instr.box,newVar,newRow]
  ·have:=I5 (P:=P) (e:=e) (ha.up hg hd).cells hoff
   simpa using this
 ·cases hv
theorem LJ {D:Nat->Prop} {θ:Th} {z:List AV} {zc:List Value} (h:bz D θ z zc) (n:Nat):bz D θ (dh n z) (List.replicate n zc).flatten:=by
 induction n with
 | zero=>exact .nil
 | succ n ih =>
  simp only [dh,jF,HI,G0];exact h.app ih
theorem KG (zc:List Value) (n:Nat):((Array.range (n*zc.length)).map (λ i=>zc.toArray[i % zc.toArray.size]!))=(List.replicate n zc).flatten.toArray:=by
 apply xH;simp only [Array.toList_map,Array.toList_range,List.size_toArray]
 induction n with
 | zero=>simp
 | succ n ih =>
  rw [show (n+1)*zc.length=zc.length+n*zc.length from by rw [kh];omega,List.range_add,EC,rj,HI,G0];congr 1
  ·apply List.ext_getElem
   ·simp
   ·intro i h1 h2;simp at h1;simp [Nat.mod_eq_of_lt h1,h1]
  ·rw [<-ih];apply List.map_congr_left;intro i hi;simp
theorem qs5 {o:Oper} {t e:TypeId} {len n:Nat} {parts:Array (Nat × Operand)} {z:AV} {ps:List (Nat × Nat)} (ho:o.op=.buildSlice t len parts) (hu:P.underlying t=some (.slice e))
 (hs:bO P e=some n) (hz:zeroOf P e=some z) (hp:uE (ED n) parts.toList=some ps) (hzn:z.cells.length=n) (hbig:len*n<=16777216) :
 gP P o (parts.toList.map (·.2)) (Op.buildSlice e len z.cells ps):=by
 intro D θ ρ w vs ob mk h hv;simp only [Op.buildSlice,qc] at hv;obtain ⟨c,hc,hv⟩:=hv;injection hv with hv;injection hv with h1 h2;subst h1;subst h2
 obtain ⟨zc,hz1,hz2⟩:=F0 (w:=w) hz;have hzl:=(hz2 D θ).cells.length;have hnew:bz D θ (dh len z.cells) (List.replicate len zc.cells.toList).flatten:=LJ (hz2 D θ).cells len;have hv':bz D θ vs (parts.toList.map λ p=>ρ p.2):=by simpa [rj,Function.comp_def] using h
 obtain ⟨cout,g1,g2⟩:=Nd ps vs parts.toList (ED n) c hp hv' _ _ hnew hc;have hsize:zc.cells.size=n:=by rw [<-yp];omega
 refine ⟨rfl,w,.cells cout.toArray e (0,0),0,.slice (some ⟨w.heap.size,0,none⟩) len len,?_,.refl w,λ D' θ' id hg hd hid hb hoff _=>⟨I5 (g2.up hg hd) hoff,qyq hid hb hoff⟩⟩;have hzeros:=KG zc.cells.toList len;rw [show zc.cells.toList.length=n from by omega] at hzeros;simp only [HO] at hzeros;have hfill:Instr.fill (λ i=>some (i*n,n)) (((Array.range (len*n)).map (λ i=>zc.cells[i % zc.cells.size]!))) ((parts.map λ (p:Nat × Operand)=>(p.1,ρ p.2)).toList)=some cout.toArray:=by
  rw [hzeros,q9m];exact g1
 by_cases h0:len*n=0
 ·have hfill':Instr.fill (λ i=>some (i*n,n)) #[] ((parts.map λ (p:Nat × Operand)=>(p.1,ρ p.2)).toList)=some cout.toArray:=by
   rw [h0,show Array.range 0 = #[] from rfl] at hfill;simpa only [Array.map_empty] using hfill
  simp only [execOp,ho,Instr.buildSlice,Sem.run_bind,wx hu,Result.andThen_ok,oT hs,h0,show Array.range 0 = #[] from rfl,Array.map_empty,xa,Sem.run_pure,hfill'];simp [newRow]
 ·have hb:¬ (len*n > 2 ^ 24):=by omega
  simp only [execOp,ho,Instr.buildSlice,Sem.run_bind,wx hu,Result.andThen_ok,oT hs,h0,hb,qv,hz1,Sem.run_pure];simp only [hfill];simp [newRow]
theorem qza {o:Oper} {t e:TypeId} {l c:Operand} {b n:Nat} {z:AV} (ho:o.op=.makeSlice t l c) (hu:P.underlying t=some (.slice e)) (hb:im P e=some b)
 (hs:bO P e=some n) (hz:zeroOf P e=some z) (hzn:z.cells.length=n):gP P o [l,c] (Op.mkSlice e b z.cells):=by
 intro D θ ρ w vs ob mk h hv;unfold Op.mkSlice at hv;split at hv
 ·rename_i k1 i1 k2 i2;obtain ⟨x,y,he,ha,hb'⟩:=h.qV;simp only [zu,mz] at he;obtain ⟨rfl,rfl⟩:=he;cases hcond:(nh 0 i1 && nh i1 i2 && nh (i2*b) 140737488355328 && nh i2 140737488355328) with
  | false=>rw [hcond] at hv;cases hv
  | true =>
   rw [hcond] at hv;simp only [xk,qd,xw] at hv;obtain ⟨rfl,rfl⟩:=hv;simp only [xq,wV,Fb] at hcond;obtain ⟨⟨⟨c1,c2⟩,c3⟩,c4⟩:=hcond;obtain ⟨zc,hz1,hz2⟩:=F0 (w:=w) hz;have hzl:=(hz2 D θ).cells.length;have hsize:zc.cells.size=n:=by rw [<-yp];omega
   refine ⟨rfl,w,.cells (List.replicate i2.toNat zc.cells.toList).flatten.toArray e (0,0),0,.slice (some ⟨w.heap.size,0,none⟩) i1.toNat i2.toNat,?_,.refl w,
    λ D' θ' id hg hd hid hb hoff _=>⟨I5 (LJ ((hz2 D' θ').cells) _) hoff,qyq hid hb hoff⟩⟩
   have w1:IntKind.i64.wrap i1=i1:=by simp [IntKind.wrap,IntKind.signed,IntKind.bits];omega
   have w2:IntKind.i64.wrap i2=i2:=by simp [IntKind.wrap,IntKind.signed,IntKind.bits];omega
   have hbt:∃ i,P.info? e=some i/\i.bytes=b:=by
    unfold im at hb;cases hi:P.info? e with
    | none=>rw [hi] at hb;cases hb
    | some i=>rw [hi] at hb;injection hb with hb;exact ⟨i,rfl,hb⟩
   obtain ⟨inf,hi,rfl⟩:=hbt;have hzeros:=KG zc.cells.toList i2.toNat;rw [show zc.cells.toList.length=n from by omega] at hzeros;simp only [HO] at hzeros;have t2:¬ (i2<0):=by omega
   have t3:¬ ((inf.bytes:Int)*i2 > 2 ^ 48):=by rw [Int.mul_comm];omega
   have t4:¬ (i1<0):=by omega
   have t5:¬ (i1 > i2):=by omega
   have t6:¬ (i2.toNat*inf.bytes > roomBytes):=by
    have:((i2.toNat*inf.bytes:Nat):Int)=i2*inf.bytes:=by rw [Int.natCast_mul];congr 1;omega
    unfold roomBytes;omega
   have t7:(2:Int) ^ 48=281474976710656:=by decide
   simp only [execOp,ho,<-ha.now,<-hb'.now,aD,Instr.makeSlice,Sem.run_bind,wx hu,Result.andThen_ok,asInt,asIntOf,Sem.run_pure,typeInfo,run_program,hi,w1,w2,oT hs]
   by_cases h0:i2.toNat*n=0
   ·have hzeros':(List.replicate i2.toNat zc.cells.toList).flatten.toArray = #[]:=by rw [<-hzeros,h0,show Array.range 0 = #[] from rfl,Array.map_empty]
    simp only [t2,t3,t4,t5,t6,h0,askRoom,hzeros',decide_false,decide_true,Bool.or_self,ya,qv,xa,Sem.run_bind,Sem.run_pure,Result.andThen_ok,oT hs,show Array.range 0 = #[] from rfl,Array.map_empty];simp [newRow]
   ·simp only [t2,t3,t4,t5,t6,h0,askRoom,decide_false,decide_true,Bool.or_self,ya,qv,xa,Sem.run_bind,Sem.run_pure,Result.andThen_ok,oT hs,hz1,hzeros];simp [newRow]
 ·cases hv
end
end Go.Am
