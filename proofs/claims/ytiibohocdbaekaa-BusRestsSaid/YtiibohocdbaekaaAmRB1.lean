/- B1: Defs Exec Comp Lists Rel Heap Pure Pure2 Pure3 Reads Reads2 Reads3 Allocs. -/
import GoSem.Step
import Derived.CallsIn
import Derived.WalkKit
import Derived.WalkLawsBesides
import Derived.Lib.Strings
import Derived.Lib.Bytealg
import Derived.DeepKeys3
import Derived.Laws.Cover3
import Derived.Laws.Pointers
import Derived.Room.MakeNoZero
import Derived.Laws.IdiomStrings
set_option linter.unusedVariables false
set_option linter.unusedSimpArgs false
namespace Go.Am
theorem qb:type_of% @Option.bind_eq_some_iff:=@Option.bind_eq_some_iff
theorem qc:type_of% @Option.some.injEq:=@Option.some.injEq
theorem qd:type_of% @if_neg:=@if_neg
theorem qe:type_of% @Nat.add_zero:=@Nat.add_zero
theorem qg:type_of% @Nat.le_refl:=@Nat.le_refl
theorem qi:type_of% @Option.bind_some:=@Option.bind_some
theorem ql:type_of% @List.getElem?_eq_some_iff:=@List.getElem?_eq_some_iff
theorem qm:type_of% @if_pos:=@if_pos
theorem qn:type_of% @Nat.lt_of_lt_of_le:=@Nat.lt_of_lt_of_le
theorem qo:type_of% @if_false:=@if_false
theorem qu:type_of% @List.length_append:=@List.length_append
theorem qv:type_of% @List.getElem?_eq_getElem:=@List.getElem?_eq_getElem
theorem qw:type_of% @if_true:=@if_true
theorem qz:type_of% @List.length_set:=@List.length_set
theorem xe:type_of% @cond_true:=@cond_true
theorem xf:type_of% @Option.map_eq_some_iff:=@Option.map_eq_some_iff
theorem xj:type_of% @eq_true:=@eq_true
theorem xk:type_of% @Bool.and_eq_true:=@Bool.and_eq_true
theorem xl:type_of% @List.mem_singleton:=@List.mem_singleton
theorem xm:type_of% @List.getElem?_map:=@List.getElem?_map
theorem xp:type_of% @List.getElem?_set_self:=@List.getElem?_set_self
theorem xq:type_of% @Prod.mk.injEq:=@Prod.mk.injEq
theorem xt:type_of% @Nat.le_trans:=@Nat.le_trans
theorem xx:type_of% @List.getElem?_set_ne:=@List.getElem?_set_ne
theorem xy:type_of% @List.mem_append:=@List.mem_append
theorem x9:type_of% @List.append_nil:=@List.append_nil
theorem za:type_of% @List.length_replicate:=@List.length_replicate
theorem zb:type_of% @List.length_map:=@List.length_map
theorem zd:type_of% @cond_false:=@cond_false
theorem ze:type_of% @Int.toNat_natCast:=@Int.toNat_natCast
theorem zh:type_of% @Nat.lt_succ_self:=@Nat.lt_succ_self
theorem zi:type_of% @List.append_assoc:=@List.append_assoc
theorem zl:type_of% @Nat.zero_le:=@Nat.zero_le
theorem zm:type_of% @List.getElem?_eq_none:=@List.getElem?_eq_none
theorem zn:type_of% @List.cons.injEq:=@List.cons.injEq
theorem zq:type_of% @List.getElem?_cons_succ:=@List.getElem?_cons_succ
theorem zr:type_of% @Nat.beq_eq:=@Nat.beq_eq
theorem zt:type_of% @List.nil_append:=@List.nil_append
theorem zw:type_of% @List.take_of_length_le:=@List.take_of_length_le
theorem jb:type_of% @Classical.byContradiction:=@Classical.byContradiction
theorem jc:type_of% @Bool.and_self:=@Bool.and_self
theorem jd:type_of% @List.mem_cons:=@List.mem_cons
theorem jf:type_of% @List.mem_of_getElem?:=@List.mem_of_getElem?
theorem ji:type_of% @List.getElem?_cons_zero:=@List.getElem?_cons_zero
theorem jo:type_of% @List.getElem?_append_right:=@List.getElem?_append_right
theorem jp:type_of% @Nat.lt_or_ge:=@Nat.lt_or_ge
theorem jt:type_of% @List.flatMap_cons:=@List.flatMap_cons
theorem ju:type_of% @Option.bind_assoc:=@Option.bind_assoc
theorem jx:type_of% @List.length_cons:=@List.length_cons
theorem jz:type_of% @Array.getD_eq_getD_getElem?:=@Array.getD_eq_getD_getElem?
theorem j2:type_of% @Array.getElem?_toList:=@Array.getElem?_toList
theorem j5:type_of% @Iff.rfl:=@Iff.rfl
theorem j6:type_of% @List.drop_eq_nil_of_le:=@List.drop_eq_nil_of_le
theorem j7:type_of% @List.flatMap_append:=@List.flatMap_append
theorem j8:type_of% @List.length_drop:=@List.length_drop
theorem j9:type_of% @List.length_take:=@List.length_take
theorem kc:type_of% @List.take_append_of_le_length:=@List.take_append_of_le_length
theorem kh:type_of% @Array.getElem?_eq_some_iff:=@Array.getElem?_eq_some_iff
theorem ki:type_of% @Nat.mul_le_mul_right:=@Nat.mul_le_mul_right
theorem kj:type_of% @Int.eq_ofNat_of_zero_le:=@Int.eq_ofNat_of_zero_le
theorem km:type_of% @List.map_cons:=@List.map_cons
theorem kn:type_of% @Nat.add_mul:=@Nat.add_mul
theorem ko:type_of% @Nat.le_succ:=@Nat.le_succ
theorem kq:type_of% @List.getElem?_append_left:=@List.getElem?_append_left
theorem ku:type_of% @List.getElem?_take:=@List.getElem?_take
theorem kw:type_of% @List.drop_append_of_le_length:=@List.drop_append_of_le_length
theorem kx:type_of% @List.ext_getElem?:=@List.ext_getElem?
theorem ya:type_of% @Bool.false_eq_true:=@Bool.false_eq_true
theorem yb:type_of% @List.getElem?_drop:=@List.getElem?_drop
theorem yc:type_of% @List.length_eq_zero_iff:=@List.length_eq_zero_iff
theorem yd:type_of% @List.take_append_drop:=@List.take_append_drop
theorem ye:type_of% @Nat.add_sub_cancel_left:=@Nat.add_sub_cancel_left
theorem yf:type_of% @Nat.zero_add:=@Nat.zero_add
theorem yl:type_of% @List.length_range:=@List.length_range
theorem yq:type_of% @Array.length_toList:=@Array.length_toList
theorem vd:type_of% @List.mem_cons_of_mem:=@List.mem_cons_of_mem
theorem ve:type_of% @Nat.zero_mul:=@Nat.zero_mul
theorem vj:type_of% @Array.getElem?_setIfInBounds:=@Array.getElem?_setIfInBounds
theorem vk:type_of% @List.mem_cons_self:=@List.mem_cons_self
theorem vl:type_of% @Nat.add_assoc:=@Nat.add_assoc
theorem vp:type_of% @Ne.symm:=@Ne.symm
theorem vq:type_of% @Bool.or_eq_true:=@Bool.or_eq_true
theorem vr:type_of% @Int.toNat_of_nonneg:=@Int.toNat_of_nonneg
theorem vv:type_of% @List.getElem?_range:=@List.getElem?_range
theorem vx:type_of% @List.length_nil:=@List.length_nil
theorem we:type_of% @List.drop_append:=@List.drop_append
theorem wh:type_of% @Nat.ble_eq:=@Nat.ble_eq
theorem wz:type_of% @List.getElem?_of_mem:=@List.getElem?_of_mem
theorem E9:type_of% @Decidable.byContradiction:=@Decidable.byContradiction
theorem pw:type_of% @Nat.succ_mul:=@Nat.succ_mul
theorem nR:type_of% @Nat.blt_eq:=@Nat.blt_eq
theorem yZ:type_of% @Nat.le_add_right:=@Nat.le_add_right
theorem yF:type_of% @Option.getD_some:=@Option.getD_some
theorem re:type_of% @List.map_map:=@List.map_map
theorem CB:type_of% @Option.isSome_some:=@Option.isSome_some
theorem lG:type_of% @and_true:=@and_true
theorem Bm:type_of% @List.all_eq_true:=@List.all_eq_true
theorem HE:type_of% @List.getElem?_replicate:=@List.getElem?_replicate
theorem wJ:type_of% @Nat.lt_irrefl:=@Nat.lt_irrefl
theorem DY:type_of% @Nat.le_succ_of_le:=@Nat.le_succ_of_le
theorem CZ:type_of% @decide_eq_true_eq:=@decide_eq_true_eq
theorem BH:type_of% @List.map_append:=@List.map_append
theorem Iq:type_of% @Nat.ne_of_beq_eq_false:=@Nat.ne_of_beq_eq_false
theorem EJ:type_of% @List.cons_append:=@List.cons_append
theorem BO:type_of% @List.drop_drop:=@List.drop_drop
theorem HO:type_of% @Array.toArray_toList:=@Array.toArray_toList
theorem FT:type_of% @Bool.not_eq_true':=@Bool.not_eq_true'
theorem Ft:type_of% @Classical.not_not:=@Classical.not_not
theorem FC:type_of% @List.take_add_one:=@List.take_add_one
theorem FA:type_of% @Nat.lt_succ_of_lt:=@Nat.lt_succ_of_lt
theorem Er:type_of% @decide_eq_false:=@decide_eq_false
theorem Ib:type_of% @List.drop_succ_cons:=@List.drop_succ_cons
theorem Ix:type_of% @List.replicate_succ:=@List.replicate_succ
theorem Gb:type_of% @List.take_append:=@List.take_append
theorem Dm:type_of% @List.take_zero:=@List.take_zero
theorem DG:type_of% @decide_eq_true:=@decide_eq_true
theorem GH:type_of% @Option.isSome_none:=@Option.isSome_none
theorem pe:type_of% @true_and:=@true_and
theorem F7:type_of% @List.foldl_cons:=@List.foldl_cons
theorem FJ:type_of% @List.mem_filter:=@List.mem_filter
theorem Bk:type_of% @List.mem_map:=@List.mem_map
theorem FI:type_of% @Option.map_some:=@Option.map_some
theorem G2:type_of% @List.flatten_cons:=@List.flatten_cons
theorem Fu:type_of% @List.drop_zero:=@List.drop_zero
theorem qW:type_of% @or_false:=@or_false
theorem yP:type_of% @Array.ext':=@Array.ext'
theorem zH:type_of% @Nat.mod_lt:=@Nat.mod_lt
theorem Ef:type_of% @Nat.ne_of_lt:=@Nat.ne_of_lt
theorem CQ:type_of% @Nat.sub_zero:=@Nat.sub_zero
theorem A5:type_of% @beq_iff_eq:=@beq_iff_eq
inductive T (α:Type) where
 | nil
 | node (l:T α) (v:Option α) (r:T α)
noncomputable section
namespace T
variable {α:Type}
def l:T α->T α
 | .nil=>.nil
 | .node a _ _=>a
def r:T α->T α
 | .nil=>.nil
 | .node _ _ b=>b
def val:T α->Option α
 | .nil=>none
 | .node _ v _=>v
def path (i:Nat):List Bool:=go i i
 where go:Nat->Nat->List Bool
 | 0,_=>[]
 | f+1,i=>match i with
  | 0=>[]
  | n+1=>Nat.beq (Nat.mod n 2) 0::go f (Nat.div n 2)
def oE:List Bool->T α->Option α
 | [],t=>t.val
 | b::p,t=>oE p (cond b t.l t.r)
def nj (v:Option α):List Bool->T α->T α
 | [],t=>.node t.l v t.r
 | b::p,t=>cond b (.node (nj v p t.l) t.val t.r) (.node t.l t.val (nj v p t.r))
def get (t:T α) (i:Nat):Option α:=oE (path i) t
def put (t:T α) (i:Nat) (v:Option α):T α:=nj v (path i) t
def set (t:T α) (i:Nat) (v:α):T α:=t.put i (some v)
structure Get (α:Type) where
 run:T α->Option α
structure Put (α:Type) where
 run:Option α->T α->T α
def iW:List Bool->Get α
 | []=>⟨val⟩
 | true::p=>⟨λ t=>(iW p).run t.l⟩
 | false::p=>⟨λ t=>(iW p).run t.r⟩
def p9:List Bool->Put α
 | []=>⟨λ v t=>.node t.l v t.r⟩
 | true::p=>⟨λ v t=>.node ((p9 p).run v t.l) t.val t.r⟩
 | false::p=>⟨λ v t=>.node t.l t.val ((p9 p).run v t.r)⟩
end T
def nth {α:Type} (l:List α):Nat->Option α :=
 List.rec (motive:=λ _=>Nat->Option α) (λ _=>none) (λ x _ ih i=>Nat.rec (motive:=λ _=>Option α) (some x) (λ n _=>ih n) i) l
def fU {α:Type} (a b:List α):List α:=List.rec (motive:=λ _=>List α) b (λ x _ ih=>x::ih) a
def cz {α:Type} (l:List α):Nat:=List.rec (motive:=λ _=>Nat) 0 (λ _ _ ih=>ih+1) l
def Ii {α:Type}:List α->List α
 | []=>[]
 | _::l=>l
def aQ {α:Type} (n:Nat):List α->List α:=Nat.rec (motive:=λ _=>List α->List α) (λ l=>l) (λ _ ih l=>ih (Ii l)) n
def rQ {α:Type} (n:Nat):List α->Option (List α) :=
 Nat.rec (motive:=λ _=>List α->Option (List α)) (λ _=>some [])
  (λ _ ih l=>List.rec (motive:=λ _=>Option (List α)) none (λ x t _=>(ih t).bind λ r=>some (x::r)) l) n
def pM {α:Type} (new:List α):List α->Option (List α) :=
 List.rec (motive:=λ _=>List α->Option (List α)) (λ l=>some l)
  (λ x _ ih l=>List.rec (motive:=λ _=>Option (List α)) none (λ _ t _=>(ih t).bind λ r=>some (x::r)) l) new
def putAt {α:Type} (o:Nat) (new:List α):List α->Option (List α) :=
 Nat.rec (motive:=λ _=>List α->Option (List α)) (λ l=>pM new l)
  (λ _ ih l=>List.rec (motive:=λ _=>Option (List α)) none (λ x t _=>(ih t).bind λ r=>some (x::r)) l) o
def dX {α:Type} (l:List α) (o n:Nat):Option (List α):=rQ n (aQ o l)
inductive fj where
 | func (f:Nat)
 | yield (l:Nat)
inductive AV where
 | bool (b:Bool)
 | int (k:IntKind) (n:Int)
 | str (s:List UInt8)
 | nilp
 | ptr (b o:Nat)
 | nils
 | slice (b o n c:Nat)
 | gslice (b i m size alt n:Nat)
 | eslice (b:Nat)
 | kL
 | map (b:Nat)
 | fn (f:fj) (first captured:List AV)
 | nilf
 | iface (t:Nat) (v:AV)
 | nili
 | agg (l:List AV)
 | tuple (l:List AV)
instance:Inhabited AV:=⟨.nili⟩
def AV.undef:AV:=.tuple []
def AV.cells:AV->List AV
 | .agg l=>l
 | v=>[v]
inductive bD where
 | tmp (t:Nat)
 | const (v:AV)
 | c8 (g:Nat)
 | func (f:Nat)
inductive cU where
 | tmp (t:Nat)
 | gq (a:Nat)
 | cC (n:Nat) (a:Nat)
inductive ew where
 | exit (id:Nat) | goto (l:Nat) | ret
inductive im where
 | ready|busy|done|exhausted
inductive aL where
 | fm (b:Nat)
 | fn (f:fj) (args:List AV)
inductive bN where
 | row (cells:List AV) (elem:Nat) (fz:Nat × Nat) (own:Bool)
 | grown (m size:Nat) (cells:List AV) (elem:Nat) (fz:Nat × Nat)
 | map (es:List (AV × AV × Nat)) (clock:Nat)
 | mO (s:List UInt8) (pos:Nat)
 | loop (st:im) (pend:Option ew) (fn k:Nat) (tm:T AV) (defers:Nat)
 | deferred (calls:Option (List aL))
structure AHeap where
 t:T bN
 next:Nat
namespace AHeap
def get (H:AHeap) (b:Nat):Option bN:=H.t.get b
def set (H:AHeap) (b:Nat) (o:bN):AHeap:={ H with t:=H.t.set b o }
def alloc (H:AHeap) (o:bN):AHeap:={ t:=H.t.set H.next o,next:=H.next+1 }
def kill (H:AHeap) (b:Nat):AHeap:={ H with t:=H.t.put b none }
def bS (H:AHeap) (b:Nat):Option (List AV) :=
 match H.get b with
 | some (.row c _ _ _)=>some c
 | some (.grown _ _ c _ _)=>some c
 | _=>none
end AHeap
def AHeap.aa (H:AHeap) (b o:Nat):Option AV:=(H.bS b).bind λ l=>nth l o
def AHeap.tB (H:AHeap) (b:Nat):Option (List (AV × AV × Nat) × Nat) :=
 match H.get b with
 | some (.map es c)=>some (es,c)
 | _=>none
def AHeap.aq (H:AHeap) (b o n:Nat):Option (List AV):=(H.bS b).bind λ l=>dX l o n
def cP (fz:Nat × Nat) (o n:Nat):Bool:=Nat.ble (o+n) fz.1 || Nat.ble fz.2 o
def br:AV->Bool
 | .agg _ | .tuple _=>false
 | _=>true
def ba (l:List AV):Bool:=List.rec (motive:=λ _=>Bool) true (λ x _ ih=>cond (br x) ih false) l
def AHeap.store (H:AHeap) (b o:Nat) (new:List AV):Option AHeap :=
 cond (ba new) (match H.get b with
  | some (.row c e fz true)=>cond (cP fz o (cz new)) ((putAt o new c).bind λ c'=>some (H.set b (.row c' e fz true))) none
  | some (.grown m s c e fz)=>cond (cP fz o (cz new)) ((putAt o new c).bind λ c'=>some (H.set b (.grown m s c' e fz))) none
  | _=>none) none
def lg (tm:T AV):bD->Option AV
 | .tmp t=>tm.get t
 | .const v=>some v
 | .c8 g=>some (.ptr g 0)
 | .func f=>some (.fn (.func f) [] [])
def gR (tm:T AV):List bD->Option (List AV)
 | []=>some []
 | x::xs=>(lg tm x).bind λ v=>(gR tm xs).bind λ vs=>some (v::vs)
structure Ev where
 run:T AV->Option AV
structure Evs where
 run:T AV->Option (List AV)
def Fz:bD->Ev
 | .tmp t=>⟨(T.iW (T.path t)).run⟩
 | .const v=>⟨λ _=>some v⟩
 | .c8 g=>⟨λ _=>some (.ptr g 0)⟩
 | .func f=>⟨λ _=>some (.fn (.func f) [] [])⟩
def nO:List bD->Evs
 | []=>⟨λ _=>some []⟩
 | [x]=>⟨λ tm=>((Fz x).run tm).bind λ v=>some [v]⟩
 | x::xs=>⟨λ tm=>((Fz x).run tm).bind λ v=>((nO xs).run tm).bind λ vs=>some (v::vs)⟩
def nd (a b:Int):Bool:=match a,b with
 | .ofNat m,.ofNat n=>Nat.ble m n
 | .ofNat _,.negSucc _=>false
 | .negSucc _,.ofNat _=>true
 | .negSucc m,.negSucc n=>Nat.ble n m
def GK (a b:Int):Bool:=!nd b a
def pC (a b:Int):Bool:=match a,b with
 | .ofNat m,.ofNat n=>Nat.beq m n
 | .negSucc m,.negSucc n=>Nat.beq m n
 | _,_=>false
def ie:IntKind->Nat
 | .i8=>0 | .i16=>1 | .i32=>2 | .i64=>3 | .u8=>4 | .u16=>5 | .u32=>6 | .u64=>7
def oa (a b:IntKind):Bool:=Nat.beq (ie a) (ie b)
def GM (a b:UInt8):Bool:=Nat.beq a.toNat b.toNat
def rj:List UInt8->List UInt8->Bool
 | [],[]=>true
 | a::x,b::y=>cond (GM a b) (rj x y) false
 | _,_=>false
inductive bW where
 | int|str|bool
 | nil
 | part (off:Nat) (n:Option Nat) (t rest:bW)
def partAt (l:List AV) (off:Nat):Option Nat->Option AV
 | none=>nth l off
 | some k=>(dX l off k).bind λ c=>some (.agg c)
def bm:bW->AV->AV->Option Bool
 | .int,.int k a,.int k' b=>cond (oa k k') (some (pC a b)) none
 | .str,.str a,.str b=>some (rj a b)
 | .bool,.bool a,.bool b=>some (a == b)
 | .nil,.agg _,.agg _=>some true
 | .part off n t rest,.agg x,.agg y=>(partAt x off n).bind λ a=>(partAt y off n).bind λ b=>(bm t a b).bind λ q =>
  cond q (bm rest (.agg x) (.agg y)) (some false)
 | _,_,_=>none
def bytesLess:List UInt8->List UInt8->Bool
 | _,[]=>false
 | [],_::_=>true
 | a::x,b::y=>Nat.blt a.toNat b.toNat || (GM a b && bytesLess x y)
def kY (op:BinOp) (a b:List UInt8):Option AV :=
 match op with
 | .add=>cond (Nat.ble (a.length+b.length) 140737488355328) (some (.str (a++b))) none
 | .eql=>some (.bool (rj a b))
 | .neq=>some (.bool (!(rj a b)))
 | .lss=>some (.bool (bytesLess a b))
 | .leq=>some (.bool (bytesLess a b || rj a b))
 | .gtr=>some (.bool (!(bytesLess a b || rj a b)))
 | .geq=>some (.bool (!bytesLess a b))
 | _=>none
def aZ (k:IntKind) (n:Int):Int:=k.wrap n
def dJ (op:BinOp) (k:IntKind) (a b:Int):Option AV :=
 match op with
 | .add=>some (.int k (aZ k (a+b)))
 | .sub=>some (.int k (aZ k (a-b)))
 | .mul=>some (.int k (aZ k (a*b)))
 | .quo=>cond (pC b 0) none (some (.int k (aZ k (a.tdiv b))))
 | .rem=>cond (pC b 0) none (some (.int k (a.tmod b)))
 | .and=>some (.int k (aZ k ((BitVec.ofInt k.bits a &&& BitVec.ofInt k.bits b).toNat)))
 | .or=>some (.int k (aZ k ((BitVec.ofInt k.bits a ||| BitVec.ofInt k.bits b).toNat)))
 | .xor=>some (.int k (aZ k ((BitVec.ofInt k.bits a ^^^ BitVec.ofInt k.bits b).toNat)))
 | .andNot=>some (.int k (aZ k ((BitVec.ofInt k.bits a &&& ~~~(BitVec.ofInt k.bits b)).toNat)))
 | .eql=>some (.bool (pC a b))
 | .neq=>some (.bool (!pC a b))
 | .lss=>some (.bool (GK a b))
 | .leq=>some (.bool (nd a b))
 | .gtr=>some (.bool (GK b a))
 | .geq=>some (.bool (nd b a))
 | _=>none
inductive oI where
 | bool|ptr|slice|map|func|iface
 | ifaces (f:Nat->Option bW)
 | agg (t:bW)
def mj (isNil isSome:AV->Bool) (x y:AV):Option Bool :=
 cond (isNil x) (cond (isNil y) (some true) (cond (isSome y) (some false) none)) (cond (isSome x && isNil y) (some false) none)
def uV:AV->Bool
 | .nils=>true
 | _=>false
def isSlice:AV->Bool
 | .slice ..=>true
 | .gslice ..=>true
 | .eslice _=>true
 | _=>false
def ud:AV->Bool
 | .kL=>true
 | _=>false
def isMap:AV->Bool
 | .map _=>true
 | _=>false
def tP:AV->Bool
 | .nilf=>true
 | _=>false
def Gq:AV->Bool
 | .fn ..=>true
 | _=>false
def ux:AV->Bool
 | .nili=>true
 | _=>false
def isIface:AV->Bool
 | .iface ..=>true
 | _=>false
def pU (H:AHeap) (b b':Nat):Bool :=
 match H.get b,H.get b' with
 | some (.row _ _ (0,0) true),some (.row (_::_) _ _ _)=>true
 | some (.row (_::_) _ _ _),some (.row _ _ (0,0) true)=>true
 | _,_=>false
def tT (op:BinOp) (k:IntKind) (a b:Int):Option AV :=
 cond (GK b 0) none (match op with
  | .shl=>some (.int k (aZ k (a*2 ^ (min b.toNat k.bits))))
  | _=>some (.int k (a.fdiv (2 ^ (min b.toNat k.bits)))))
def cX:BinOp->Bool
 | .shl | .shr=>true
 | _=>false
def Cr (H:AHeap):oI->AV->AV->Option Bool
 | .bool,.bool a,.bool b=>some (a == b)
 | .ptr,.nilp,.nilp=>some true
 | .ptr,.nilp,.ptr _ _=>some false
 | .ptr,.ptr _ _,.nilp=>some false
 | .ptr,.ptr b o,.ptr b' o'=>cond (Nat.beq b b') (some (Nat.beq o o')) (cond (pU H b b') (some false) none)
 | .slice,x,y=>mj uV isSlice x y
 | .map,x,y=>mj ud isMap x y
 | .func,x,y=>mj tP Gq x y
 | .iface,x,y=>mj ux isIface x y
 | .ifaces f,.iface t a,.iface u b=>cond (Nat.beq t u) ((f t).bind λ q=>bm q a b) (some false)
 | .ifaces _,.nili,.iface _ _=>some false
 | .ifaces _,.iface _ _,.nili=>some false
 | .agg t,x,y=>bm t x y
 | _,_,_=>none
def jQ (op:BinOp) (x y:AV):Option AV :=
 match x,y with
 | .int k a,.int k' b=>cond (cX op) (tT op k a b) (cond (oa k k') (dJ op k a b) none)
 | .str a,.str b=>kY op a b
 | _,_=>none
def unV (op:UnOp) (x:AV):Option AV :=
 match op,x with
 | .neg,.int k n=>some (.int k (aZ k (0-n)))
 | .xor,.int k n=>dJ .xor k (if k.signed then -1 else k.max) n
 | .not,.bool b=>some (.bool (!b))
 | _,_=>none
def fh (cells:List AV):List (Nat × Nat)->List AV->Option (List AV)
 | [],[]=>some cells
 | (off,size)::ps,v::vs=>cond (Nat.beq (cz v.cells) size) ((putAt off v.cells cells).bind λ c=>fh c ps vs) none
 | _,_=>none
def dq (n:Nat) (z:List AV):List AV :=
 match n with
 | 0=>[]
 | n+1=>fU z (dq n z)
def within (i:Int) (n:Nat):Option Nat:=match i with
 | .ofNat k=>cond (Nat.blt k n) (some k) none
 | .negSucc _=>none
def arg (vs:List AV):Option Nat->Option (Option AV)
 | none=>some none
 | some i=>(nth vs i).bind λ v=>some (some v)
def bound (v:Option AV) (d mx:Nat):Option Nat :=
 match v with
 | none=>some d
 | some (.int _ (.ofNat i))=>cond (Nat.ble i mx) (some i) none
 | _=>none
def dh (size:Nat) (x:AV) (lo hi mx:Option AV):Option AV :=
 match x with
 | .nils=>match mx with
  | none=>(bound hi 0 0).bind λ h=>(bound lo 0 h).bind λ _=>some .nils
  | some _=>none
 | .slice b o n c=>match mx,hi with
  | some _,none=>none
  | mx,hi=>(bound mx c c).bind λ m=>(bound hi n m).bind λ h=>(bound lo 0 h).bind λ l =>
   some (.slice b (cond (Nat.beq m l) o (o+l*size)) (h-l) (m-l))
 | .gslice b i m s alt n =>
  cond (Nat.beq s size && Nat.ble i m) (match mx,hi with
   | none,hi=>(bound hi n (m-i)).bind λ h=>(bound lo 0 h).bind λ l =>
    cond (Nat.ble h (m-i)) (some (.gslice b (i+l) m s (cond (Nat.beq l 0) alt (i*s)) (h-l))) none
   | some _,none=>none
   | mx,hi=>(bound mx 0 (m-i)).bind λ x=>(bound hi 0 x).bind λ h=>(bound lo 0 h).bind λ l =>
    cond (Nat.beq x l) none (some (.slice b ((i+l)*s) (h-l) (x-l)))) none
 | .eslice b=>match mx with
  | none=>(bound hi 0 0).bind λ h=>(bound lo 0 h).bind λ _=>some (.eslice b)
  | some _=>none
 | _=>none
def dS:AV->Option Nat
 | .str s=>some (cz s)
 | .nils=>some 0
 | .slice _ _ n _=>some n
 | .gslice _ _ _ _ _ n=>some n
 | .eslice _=>some 0
 | _=>none
def elemAt (size:Nat) (x:AV) (j:Nat):Option (Nat × Nat) :=
 match x with
 | .slice b o n _=>cond (Nat.blt j n) (some (b,o+j*size)) none
 | .gslice b i m s _ n=>cond (Nat.blt j n && Nat.beq s size && Nat.blt (i+j) m) (some (b,i*s+j*s)) none
 | _=>none
def firstCells (H:AHeap) (size n:Nat) (x:AV):Option (List AV) :=
 match x with
 | .nils=>some []
 | .str s=>cond (Nat.beq size 1) (some ((s.take n).map λ b=>.int .u8 b.toNat)) none
 | .slice b o _ _=>cond (Nat.beq n 0) (some []) (H.aq b o (n*size))
 | .gslice b i m s _ _=>cond (Nat.beq n 0) (some []) (cond (Nat.beq s size && Nat.blt i m) (H.aq b (i*s) (n*size)) none)
 | .eslice _=>cond (Nat.beq n 0) (some []) none
 | _=>none
def gk (n:Int):AV:=.int .i64 n
def fits (n bytes:Nat):Bool:=Nat.ble (n*bytes) 140737488355328 && Nat.ble n 140737488355328
def cq (H:AHeap) (e size n:Nat) (cells:List AV) (fz:Nat × Nat):AV × AHeap :=
 (.gslice H.next 0 n size 0 n,H.alloc (.grown n size cells e fz))
def bY (H:AHeap) (e size bytes:Nat) (s:AV) (n:Nat) (new:List AV):Option (AV × AHeap) :=
 match s with
 | .nils=>cond (Nat.beq n 0) (some (.nils,H)) (cond (fits n bytes && Nat.blt 0 size) (some (cq H e size n new (0,0))) none)
 | .slice b o len c =>
  cond (Nat.ble (len+n) c)
   (cond (Nat.beq n 0) (some (.slice b o (len+n) c,H)) ((H.store b (o+len*size) new).bind λ H'=>some (.slice b o (len+n) c,H')))
   (cond (fits (len+n) bytes && Nat.ble c (len+n) && Nat.blt 0 size)
    ((firstCells H size len (.slice b o len c)).bind λ old=>some (cq H e size (len+n) (fU old new) (0,0))) none)
 | .gslice b i m sz alt len =>
  cond (Nat.beq n 0) (cond (Nat.ble (i+len) m) (some (.gslice b i m sz alt len,H)) none) (cond (Nat.beq sz size && Nat.ble (i+len) m && Nat.blt 0 size)
   (cond (Nat.ble (i+len+n) m)
    ((H.store b ((i+len)*size) new).bind λ H'=>some (.gslice b i m sz alt (len+n),H'))
    (cond (fits (len+n) bytes) (match H.get b with
     | some (.grown m' sz' c e' fz) =>
      cond (Nat.beq m m' && Nat.beq sz sz' && Nat.beq e' e)
       (cond (Nat.beq i 0 && Nat.beq len m && Nat.ble fz.2 (m*size)) (some (cq (H.kill b) e size (len+n) (fU c new) fz)) (cond (Nat.ble fz.2 (i*size))
        ((dX c (i*size) (len*size)).bind λ old=>some (cq (H.kill b) e size (len+n) (fU old new) (cond (Nat.beq fz.1 fz.2) (0,0) (1,0))))
        (cond (Nat.beq i 0 && Nat.ble fz.2 (len*size))
         ((dX c 0 (len*size)).bind λ old=>some (cq (H.kill b) e size (len+n) (fU old new) fz)) none))) none
     | _=>none) none)) none)
 | _=>none
namespace Op
def fail:List AV->Option AV:=λ _=>none
def move:List AV->Option AV
 | [v]=>some v
 | _=>none
def pick:List AV->Option AV
 | [.bool q,a,b]=>some (cond q a b)
 | _=>none
def build (zero:List AV) (places:List (Nat × Nat)) (vs:List AV):Option AV :=
 (fh zero places vs).bind λ c=>some (.agg c)
def nilCheck:List AV->Option AV
 | [.nilp] | [.nili] | [.nilf]=>none
 | [.fn (.func f) a b]=>some (.fn (.func f) a b)
 | [.fn _ _ _]=>none
 | [v]=>some v
 | _=>none
def bin (op:BinOp):List AV->Option AV
 | [x,y]=>jQ op x y
 | _=>none
def eq (t:oI) (neg:Bool):List AV->AHeap->Option AV
 | [x,y],H=>(Cr H t x y).bind λ q=>some (.bool (cond neg (!q) q))
 | _,_=>none
def un (op:UnOp):List AV->Option AV
 | [x]=>unV op x
 | _=>none
def wrap (k:IntKind):List AV->Option AV
 | [.int _ n]=>some (.int k (aZ k n))
 | _=>none
def pG (t:Nat):List AV->Option AV
 | [v]=>some (.iface t v)
 | _=>none
def cB (f nf:Nat) (l:List AV):Option AV:=some (.fn (.func f) (l.take nf) (l.drop nf))
def aR (size:Nat):List (Option Nat)->List AV->Option AV
 | [lo,hi,mx],x::vs=>(arg vs lo).bind λ a=>(arg vs hi).bind λ b=>(arg vs mx).bind λ m=>dh size x a b m
 | _,_=>none
def fieldAddr (off:Nat):List AV->Option AV
 | [.ptr b o]=>some (.ptr b (o+off))
 | _=>none
def field (off:Nat) (n:Option Nat):List AV->Option AV
 | [.agg l]=>partAt l off n
 | _=>none
def aS (size:Nat):List AV->Option AV
 | [x,.int _ j]=>(dS x).bind λ n=>(within j n).bind λ k=>(elemAt size x k).bind λ p=>some (.ptr p.1 p.2)
 | _=>none
def aY (len size:Nat):List AV->Option AV
 | [.ptr b o,.int _ j]=>(within j len).bind λ k=>some (.ptr b (o+k*size))
 | _=>none
def extract (i:Nat):List AV->Option AV
 | [.tuple l]=>nth l i
 | _=>none
def oX:List AV->Option AV
 | [.str s]=>some (gk (cz s))
 | _=>none
def bB:List AV->Option AV
 | [.nils]=>some (gk 0)
 | [.slice _ _ n _]=>some (gk n)
 | [.gslice _ _ _ _ _ n]=>some (gk n)
 | [.eslice _]=>some (gk 0)
 | _=>none
def cap:List AV->Option AV
 | [.nils]=>some (gk 0)
 | [.slice _ _ _ c]=>some (gk c)
 | _=>none
def aa:List AV->AHeap->Option AV
 | [.ptr b o],H=>H.aa b o
 | _,_=>none
def aq (n:Nat):List AV->AHeap->Option AV
 | [.ptr b o],H=>(H.aq b o n).bind λ l=>some (.agg l)
 | _,_=>none
def ptrTo (b:Nat):AV:=.ptr b 0
def alloc (e:Nat) (zero:List AV):List AV->Option (bN × (Nat->AV))
 | []=>some (.row zero e (0,0) true,ptrTo)
 | _=>none
def box (e:Nat):List AV->Option (bN × (Nat->AV))
 | [v]=>some (.row v.cells e (0,0) true,ptrTo)
 | _=>none
def sliceTo (n m:Nat) (b:Nat):AV:=.slice b 0 n m
def buildSlice (e n:Nat) (zero:List AV) (places:List (Nat × Nat)) (vs:List AV):Option (bN × (Nat->AV)) :=
 (fh (dq n zero) places vs).bind λ c=>some (.row c e (0,0) true,sliceTo n n)
def mkSlice (e bytes:Nat) (zero:List AV):List AV->Option (bN × (Nat->AV))
 | [.int _ n,.int _ m]=>cond (nd 0 n && nd n m && nd (m*bytes) 140737488355328 && nd m 140737488355328)
  (some (.row (dq m.toNat zero) e (0,0) true,sliceTo n.toNat m.toNat)) none
 | _=>none
def store (n:Nat):List AV->AHeap->Option (AV × AHeap)
 | [.ptr b o,v],H=>cond (Nat.beq (cz v.cells) n) ((H.store b o v.cells).bind λ H'=>some (.undef,H')) none
 | _,_=>none
def AY:AV->AV->Bool
 | .int k a,.int k' b=>oa k k' && pC a b
 | .str a,.str b=>rj a b
 | .bool a,.bool b=>a == b
 | _,_=>false
def db:List AV->List AV->Bool
 | [],[]=>true
 | a::x,b::y=>cond (AY a b) (db x y) false
 | _,_=>false
def stays:AV->AV->Bool
 | .agg a,.agg b=>db a b
 | a,b=>AY a b
def append (e size bytes:Nat):List AV->AHeap->Option (AV × AHeap)
 | [a,b],H=>(dS b).bind λ n=>(firstCells H size n b).bind λ new=>cond (ba new) (bY H e size bytes a n new) none
 | _,_=>none
def de (zero:List AV):List AV->AHeap->Option (AV × AHeap)
 | [.str _],_=>none
 | [x],H=>(dS x).bind λ n=>cond (Nat.beq n 0) (some (.tuple [],H))
  ((elemAt zero.length x 0).bind λ p=>(H.store p.1 p.2 (dq n zero)).bind λ H'=>some (.tuple [],H'))
 | _,_=>none
def mI (fz:Nat × Nat) (o n:Nat):Nat × Nat:=cond (Nat.beq fz.1 fz.2) (o,o+n) (min fz.1 o,max fz.2 (o+n))
end Op
inductive dL where
 | pure (f:List AV->Option AV)
 | read (f:List AV->AHeap->Option AV)
 | alloc (f:List AV->Option (bN × (Nat->AV)))
 | eF (f:List AV->AHeap->Option (AV × AHeap))
 | eM (f:Nat)
 | eL
 | invoke (name:String)
 | recover
 | defer
 | panic
structure aV where
 eN:Bool
 dst:Option Nat
 guard:Option (Nat × Bool)
 args:List bD
 op:dL
 bR:Option (List Nat)
inductive ah where
 | skip
 | region (steps:List aV)
 | seq (a b:ah)
 | cond (c:bD) (thn els:ah)
 | block (id:Nat) (body:ah)
 | loop (ae:Option (List Nat)) (body:ah)
 | rangeFunc (f:bD) (k:Nat)
 | exit (id:Nat)
 | scope (body:ah)
 | label (l:Nat)
 | goto (l:Nat)
 | ret
 | stuck
instance:Inhabited ah:=⟨.skip⟩
structure dG where
 params:List Nat
 assign:ah
 body:ah
structure aw where
 results:List cU
 body:ah
 loops:List dG
structure fG where
 func:Nat->Option aw
 lI:Nat->String->Option Nat
abbrev aC:=List (AV × Bool)
structure St where
 tm:T AV
 aT:List aL
 up:Option aC
 H:AHeap
inductive aF where
 | normal
 | exit (id:Nat)
 | goto (l:Nat)
 | ret
 | panic (chain:aC)
inductive bz where
 | ret (v:AV)
 | panic (chain:aC)
abbrev bE:=Nat->List AV->Option aC->AHeap->Option (bz × Option aC × AHeap)
structure Ctx where
 round:Option Nat
 fn:Nat
end
end Go.Am
namespace Go.Am
noncomputable section
def C5:T AV->List Nat->List AV->Option (T AV)
 | tm,[],[]=>some tm
 | tm,p::ps,v::vs=>C5 (tm.set p v) ps vs
 | _,_,_=>none
def fD:Nat->List AV->T AV->T AV
 | _,[],t=>t
 | i,v::vs,t=>fD (i+1) vs (t.set i v)
def gf:aF->Option ew
 | .exit id=>some (.exit id)
 | .goto l=>some (.goto l)
 | .ret=>some .ret
 | _=>none
def kF:Option ew->aF
 | none=>.normal
 | some (.exit id)=>.exit id
 | some (.goto l)=>.goto l
 | some .ret=>.ret
def qX:aF->Bool
 | .normal=>true
 | _=>false
def KP (tm:T AV):List Nat->T AV->T AV
 | [],acc=>acc
 | k::ks,acc=>KP tm ks (acc.put k (tm.get k))
def forget:List Nat->T AV->T AV
 | [],t=>t
 | d::ds,t=>forget ds (t.put d none)
def cV (dst:Option Nat) (v:AV) (tm:T AV):T AV :=
 match dst with
 | some d=>tm.set d v
 | none=>tm
structure Mn where
 run:AV->T AV->T AV
def gj:Option Nat->Mn
 | some d=>⟨λ v tm=>(T.p9 (T.path d)).run (some v) tm⟩
 | none=>⟨λ _ tm=>tm⟩
abbrev dQ:=Option (aF × St)
def dO (ae:Option (List Nat)) (body:St->dQ):Nat->St->dQ
 | 0,_=>none
 | n+1,st =>
  (body (match ae with|none=>st|some ks=>{ st with tm:=KP st.tm ks .nil })).bind λ r=>match r.1 with
   | .normal=>dO ae body n r.2
   | e=>some (e,r.2)
def wD:ah->Nat->Bool
 | .seq a b,l=>wD a l || wD b l
 | .label l',l=>Nat.beq l' l
 | _,_=>false
mutual
def bM:AV->AV->Bool
 | .bool a,.bool b=>a == b
 | .int k a,.int k' b=>oa k k' && pC a b
 | .str a,.str b=>rj a b
 | .nilp,.nilp=>true
 | .ptr a b,.ptr c d=>Nat.beq a c && Nat.beq b d
 | .nils,.nils=>true
 | .slice a b c d,.slice a' b' c' d'=>Nat.beq a a' && Nat.beq b b' && Nat.beq c c' && Nat.beq d d'
 | .gslice a b c d e f,.gslice a' b' c' d' e' f'=>Nat.beq a a' && Nat.beq b b' && Nat.beq c c' && Nat.beq d d' && Nat.beq e e' && Nat.beq f f'
 | .eslice a,.eslice b=>Nat.beq a b
 | .kL,.kL=>true
 | .map a,.map b=>Nat.beq a b
 | .nilf,.nilf=>true
 | .nili,.nili=>true
 | .fn (.func f) x a,.fn (.func g) y b=>Nat.beq f g && db x y && db a b
 | .fn (.yield f) x a,.fn (.yield g) y b=>Nat.beq f g && db x y && db a b
 | .iface t a,.iface u b=>Nat.beq t u && bM a b
 | .agg a,.agg b=>db a b
 | .tuple a,.tuple b=>db a b
 | _,_=>false
def db:List AV->List AV->Bool
 | [],[]=>true
 | x::xs,y::ys=>bM x y && db xs ys
 | _,_=>false
end
abbrev eW:=List AV->Nat->AHeap->Option (bz × AHeap)
structure RT where
 AP:fG
 call:bE
 round:eW
 n:Nat
 ctx:Ctx
def bV (call:bE) (round:eW) (f:fj) (args:List AV) (H:AHeap):Option (bz × AHeap) :=
 match f with
 | .func g=>(call g args none H).bind λ r=>some (r.1,r.2.2)
 | .yield l=>round args l H
def dv (put:AV->T AV->T AV) (bR:Option (List Nat)) (st:St) (k:St->dQ) (r:bz × AHeap):dQ :=
 match r.1 with
 | .ret v=>k ⟨put v st.tm,st.aT,st.up,r.2⟩
 | .panic c=>bR.bind λ ds=>some (.panic c,⟨forget ds st.tm,st.aT,st.up,r.2⟩)
def Hu (put:AV->T AV->T AV) (st:St):St :=
 match st.up with
 | some ((v,false)::older)=>⟨put v st.tm,st.aT,some ((v,true)::older),st.H⟩
 | _=>⟨put .nili st.tm,st.aT,st.up,st.H⟩
def sC (f:List AV->Option AV) (put:AV->T AV->T AV) (st:St) (k:St->dQ) (vs:List AV):dQ :=
 (f vs).bind λ v=>k ⟨put v st.tm,st.aT,st.up,st.H⟩
def sY (f:List AV->AHeap->Option AV) (put:AV->T AV->T AV) (st:St) (k:St->dQ) (vs:List AV):dQ :=
 (f vs st.H).bind λ v=>k ⟨put v st.tm,st.aT,st.up,st.H⟩
def pc (f:List AV->Option (bN × (Nat->AV))) (put:AV->T AV->T AV) (st:St) (k:St->dQ) (vs:List AV):dQ :=
 (f vs).bind λ r=>k ⟨put (r.2 st.H.next) st.tm,st.aT,st.up,st.H.alloc r.1⟩
def Dh (f:List AV->AHeap->Option (AV × AHeap)) (put:AV->T AV->T AV) (st:St) (k:St->dQ) (vs:List AV):dQ :=
 (f vs st.H).bind λ r=>k ⟨put r.1 st.tm,st.aT,st.up,r.2⟩
def uG (f:Nat) (rt:RT) (put:AV->T AV->T AV) (bR:Option (List Nat)) (st:St) (k:St->dQ) (vs:List AV):dQ :=
 (bV rt.call rt.round (.func f) vs st.H).bind λ r=>dv put bR st k r
def vC (rt:RT) (put:AV->T AV->T AV) (bR:Option (List Nat)) (st:St) (k:St->dQ) (vs:List AV):dQ :=
 match vs with
 | .fn (.func f) first cap::args=>(bV rt.call rt.round (.func f) (first++(args++cap)) st.H).bind λ r=>dv put bR st k r
 | .fn (.yield l) first []::args=>(bV rt.call rt.round (.yield l) (first++args) st.H).bind λ r=>dv put bR st k r
 | _=>none
def mL (name:String) (rt:RT) (put:AV->T AV->T AV) (bR:Option (List Nat)) (st:St) (k:St->dQ) (vs:List AV):dQ :=
 match vs with
 | .iface t v::args=>(rt.AP.lI t name).bind λ f=>(bV rt.call rt.round (.func f) (v::args) st.H).bind λ r=>dv put bR st k r
 | _=>none
def Jp (rt:RT) (put:AV->T AV->T AV) (st:St) (k:St->dQ) (vs:List AV):dQ :=
 match rt.ctx.round with
 | some _=>none
 | none=>match vs with
  | []=>k (Hu put st)
  | _=>none
def oT (rt:RT) (put:AV->T AV->T AV) (st:St) (k:St->dQ) (vs:List AV):dQ :=
 match rt.ctx.round with
 | some _=>none
 | none=>match vs with
  | .fn (.func f) first cap::args=>k ⟨put .undef st.tm,.fn (.func f) (first++(args++cap))::st.aT,st.up,st.H⟩
  | _=>none
def oA (put:AV->T AV->T AV) (bR:Option (List Nat)) (st:St) (k:St->dQ) (vs:List AV):dQ :=
 match vs with
 | [.iface t v]=>dv put bR st k (.panic [(.iface t v,false)],st.H)
 | _=>none
structure OpC where
 run:RT->St->(St->dQ)->List AV->dQ
def kJ (put:AV->T AV->T AV) (bR:Option (List Nat)):dL->OpC
 | .pure f=>⟨λ _ st k vs=>sC f put st k vs⟩
 | .read f=>⟨λ _ st k vs=>sY f put st k vs⟩
 | .alloc f=>⟨λ _ st k vs=>pc f put st k vs⟩
 | .eF f=>⟨λ _ st k vs=>Dh f put st k vs⟩
 | .eM f=>⟨λ rt st k vs=>uG f rt put bR st k vs⟩
 | .eL=>⟨λ rt st k vs=>vC rt put bR st k vs⟩
 | .invoke name=>⟨λ rt st k vs=>mL name rt put bR st k vs⟩
 | .recover=>⟨λ rt st k vs=>Jp rt put st k vs⟩
 | .defer=>⟨λ rt st k vs=>oT rt put st k vs⟩
 | .panic=>⟨λ _ st k vs=>oA put bR st k vs⟩
def kS (get:T AV->Option AV) (st:St) (vs:List AV):dL->Bool
 | .read f=>match f vs st.H,get st.tm with
  | some v,some v'=>bM v v'
  | _,_=>false
 | _=>false
def aE (b:Bool):Option AV->Option Bool
 | some (.bool q)=>some (cond q b (!b))
 | some (.tuple [])=>some false
 | _=>none
structure Gw where
 run:RT->(St->dQ)->St->dQ
def dR (s:aV):Gw :=
 match s.eN with
 | false=>match s.guard with
  | none=>⟨λ rt k st=>((nO s.args).run st.tm).bind λ vs=>(kJ (gj s.dst).run s.bR s.op).run rt st k vs⟩
  | some g=>⟨λ rt k st=>(aE g.2 ((T.iW (T.path g.1)).run st.tm)).bind λ w =>
   cond w (((nO s.args).run st.tm).bind λ vs=>(kJ (gj s.dst).run s.bR s.op).run rt st k vs) (k ⟨(gj s.dst).run .undef st.tm,st.aT,st.up,st.H⟩)⟩
 | true=>match s.guard,s.dst with
  | none,some d=>⟨λ _ k st=>((nO s.args).run st.tm).bind λ vs=>cond (kS (T.iW (T.path d)).run st vs s.op) (k st) none⟩
  | some g,some d=>⟨λ _ k st=>(aE g.2 ((T.iW (T.path g.1)).run st.tm)).bind λ w =>
   cond w (((nO s.args).run st.tm).bind λ vs=>cond (kS (T.iW (T.path d)).run st vs s.op) (k st) none) (k st)⟩
  | _,none=>⟨λ _ _ _=>none⟩
structure AN where
 run:RT->St->dQ
def dU:List aV->AN
 | []=>⟨λ _ st=>some (.normal,st)⟩
 | s::rest=>⟨λ rt st=>(dR s).run rt ((dU rest).run rt) st⟩
def bU (H:AHeap) (l:Nat) (s:im) (p:Option ew):Option AHeap :=
 match H.get l with
 | some (.loop _ _ f k tm d)=>some (H.set l (.loop s p f k tm d))
 | _=>none
def uv (H:AHeap) (l:Nat):Option Nat :=
 match H.get l with
 | some (.loop _ _ _ _ _ d)=>some d
 | _=>none
def Fy (st:St) (aT:List aL) (l:Nat) (e:bz) (H:AHeap):dQ :=
 match e with
 | .panic c=>some (.panic c,{ st with aT:=aT,H:=H })
 | .ret _=>match H.get l with
  | some (.loop .busy _ _ _ _ _)=>none
  | some (.loop _ p f k tm d)=>some (kF p,{ st with aT:=aT,H:=H.set l (.loop .exhausted p f k tm d) })
  | _=>none
def fk (call:bE) (round:eW) (ctx:Ctx) (st:St) (k:Nat) (H0:AHeap) (aT:List aL) (d:Nat):AV->dQ
 | .fn (.func g) first cap =>
  (bV call round (.func g) (first++(.fn (.yield H0.next) [] []::cap)) (H0.alloc (.loop .ready none ctx.fn k st.tm d))).bind λ r =>
   Fy st aT H0.next r.1 r.2
 | _=>none
def nG (next:RT->St->dQ) (rt:RT) (r:aF × St):dQ :=
 match r.1 with
 | .normal=>next rt r.2
 | e=>some (e,r.2)
def nF (a b:RT->St->dQ) (rt:RT) (st:St) (v:AV):dQ :=
 match v with
 | .bool q=>cond q (a rt st) (b rt st)
 | _=>none
def fK (id:Nat) (r:aF × St):dQ :=
 match r.1 with
 | .exit id'=>some (cond (Nat.beq id id') .normal (.exit id'),r.2)
 | e=>some (e,r.2)
def gE (b:ah) (r:aF × St):dQ :=
 match r.1 with
 | .goto l=>cond (wD b l) none (some (.goto l,r.2))
 | e=>some (e,r.2)
def kN (rt:RT) (k:Nat) (st:St) (v:AV):dQ :=
 match rt.ctx.round with
 | none=>fk rt.call rt.round rt.ctx st k (st.H.alloc (.deferred (some []))) (.fm st.H.next::st.aT) st.H.next v
 | some l=>(uv st.H l).bind λ d=>fk rt.call rt.round rt.ctx st k st.H st.aT d v
def bl:ah->AN
 | .skip=>⟨λ _ st=>some (.normal,st)⟩
 | .label _=>⟨λ _ st=>some (.normal,st)⟩
 | .region steps=>dU steps
 | .seq a b=>⟨λ rt st=>((bl a).run rt st).bind (nG (bl b).run rt)⟩
 | .cond c a b=>⟨λ rt st=>((Fz c).run st.tm).bind (nF (bl a).run (bl b).run rt st)⟩
 | .block id b=>⟨λ rt st=>((bl b).run rt st).bind (fK id)⟩
 | .loop ae b=>⟨λ rt st=>dO ae ((bl b).run rt) rt.n st⟩
 | .exit id=>⟨λ _ st=>some (.exit id,st)⟩
 | .goto l=>⟨λ _ st=>some (.goto l,st)⟩
 | .ret=>⟨λ _ st=>some (.ret,st)⟩
 | .stuck=>⟨λ _ _=>none⟩
 | .scope b=>⟨λ rt st=>((bl b).run rt st).bind (gE b)⟩
 | .rangeFunc f k=>⟨λ rt st=>((Fz f).run st.tm).bind (kN rt k st)⟩
def exec (AP:fG) (call:bE) (round:eW) (n:Nat) (ctx:Ctx) (c:ah) (st:St):dQ:=(bl c).run ⟨AP,call,round,n,ctx⟩ st
def yG (l:Nat) (r:aF × St):Option (bz × AHeap) :=
 match r.1 with
 | .panic c=>some (.panic c,r.2.H)
 | e=>(bU r.2.H l (cond (qX e) .ready .done) (gf e)).bind λ H=>some (.ret (.bool (qX e)),H)
def beginRound (H:AHeap) (l:Nat):Option AHeap :=
 match H.get l with
 | some (.loop .ready p f k tm d)=>some (H.set l (.loop .busy p f k tm d))
 | _=>none
def roundOf (AP:fG) (ex:Ctx->ah->St->dQ) (args:List AV) (l:Nat) (H:AHeap):Option (bz × AHeap) :=
 match H.get l with
 | some (.loop _ _ f k tm _) =>
  (AP.func f).bind λ fn=>(nth fn.loops k).bind λ lp=>(C5 tm lp.params args).bind λ tm1 =>
  (ex ⟨some l,f⟩ lp.assign { tm:=tm1,aT:=[],up:=none,H:=H }).bind λ r=>match r.1 with
   | .normal=>(beginRound r.2.H l).bind λ H2=>(ex ⟨some l,f⟩ lp.body { r.2 with H:=H2 }).bind λ q=>cond (noDefs q.2.aT) (yG l q) none
   | _=>none
 | _=>none
 where noDefs:List aL->Bool
 | []=>true
 | _=>false
def Gj (H:AHeap) (tm:T AV):cU->Option AV
 | .tmp t=>tm.get t
 | .gq a=>(tm.get a).bind λ v=>match v with | .ptr b o=>H.aa b o|_=>none
 | .cC n a=>(tm.get a).bind λ v=>match v with | .ptr b o=>(H.aq b o n).bind λ l=>some (.agg l) | _=>none
def cL (H:AHeap) (tm:T AV):List cU->Option (List AV)
 | []=>some []
 | r::rs=>(Gj H tm r).bind λ v=>(cL H tm rs).bind λ vs=>some (v::vs)
def dg:List AV->AV
 | [v]=>v
 | l=>.tuple l
def iJ (m:Option aC) (up:aC):Option (Option aC) :=
 match m,up with
 | none,[]=>some none
 | some _,(_,true)::_=>some none
 | some _,(v,false)::c=>some (some ((v,false)::c))
 | _,_=>none
def bJ (call:bE) (rs:List cU) (tm:T AV):List aL->Option aC->AHeap->Option (bz × AHeap)
 | [],none,H=>(cL H tm rs).bind λ l=>some (.ret (dg l),H)
 | [],some c,H=>some (.panic c,H)
 | .fm b::ds,m,H=>match H.get b with
  | some (.deferred (some []))=>bJ call rs tm ds m (H.set b (.deferred none))
  | _=>none
 | .fn (.func f) args::ds,m,H=>(call f args (some (m.getD [])) H).bind λ r =>
  match r.1,r.2.1 with
  | .ret _,some up'=>(iJ m up').bind λ m'=>bJ call rs tm ds m' r.2.2
  | _,_=>none
 | .fn (.yield _) _::_,_,_=>none
def jZ (call:bE) (fn:aw) (r:aF × St):Option (bz × Option aC × AHeap) :=
 let fin (m:Option aC):Option (bz × Option aC × AHeap):=(bJ call fn.results r.2.tm r.2.aT m r.2.H).bind λ q=>some (q.1,r.2.up,q.2)
 match r.1 with
 | .normal=>fin none
 | .ret=>fin none
 | .panic c=>fin (some c)
 | _=>none
def rounds (AP:fG) (call:bE) (m:Nat):Nat->eW
 | 0=>λ _ _ _=>none
 | n+1=>roundOf AP (exec AP call (rounds AP call m n) m)
def yU (AP:fG) (call:bE) (n:Nat):bE:=λ f args up H =>
 (AP.func f).bind λ fn =>
  (exec AP call (rounds AP call n n) n ⟨none,f⟩ fn.body { tm:=fD 0 args .nil,aT:=[],up:=up,H:=H }).bind λ r =>
   jZ call fn r
def sf (AP:fG):Nat->bE
 | 0=>λ _ _ _ _=>none
 | n+1=>yU AP (sf AP n) n
def fL (AP:fG) (told:bE):Nat->bE
 | 0=>told
 | n+1=>λ f args up H=>match told f args up H with
  | some r=>some r
  | none=>yU AP (fL AP told n) n f args up H
end
end Go.Am
namespace Go.Am
noncomputable section
mutual
def dD:Value->Option AV
 | .bool b=>some (.bool b)
 | .int k n=>some (.int k n)
 | .string s=>some (.str s.data.toList)
 | .pointer none=>some .nilp
 | .slice none 0 0=>some .nils
 | .map none=>some .kL
 | .nilFunc=>some .nilf
 | .nilIface=>some .nili
 | .iface t v=>(dD v).bind λ x=>some (.iface t x)
 | .agg cs=>(iR cs.toList).bind λ l=>some (.agg l)
 | .tuple cs=>(iR cs.toList).bind λ l=>some (.tuple l)
 | _=>none
def iR:List Value->Option (List AV)
 | []=>some []
 | v::vs=>(dD v).bind λ x=>(iR vs).bind λ xs=>some (x::xs)
end
def mu (G:Nat):Operand->Option bD
 | .tmp t=>some (.tmp t)
 | .const v=>(dD v).bind λ x=>some (.const x)
 | .global g=>if Nat.blt g G then some (.c8 g) else none
 | .func f=>some (.func f)
def jG (G:Nat):List Operand->Option (List bD)
 | []=>some []
 | x::xs=>(mu G x).bind λ y=>(jG G xs).bind λ ys=>some (y::ys)
def zeroOf (P:Program) (t:TypeId):Option AV:=((P.info? t).bind (·.zero)).bind dD
def bO (P:Program) (t:TypeId):Option Nat:=(P.info? t).bind λ i=>some i.size
def ij (P:Program) (t:TypeId):Option Nat:=(P.info? t).bind λ i=>some i.bytes
def lE (P:Program) (t:TypeId):Option (Option Nat) :=
 match P.underlying t with
 | some (.struct _) | some (.array _ _)=>(bO P t).bind λ n=>some (some n)
 | some _=>some none
 | none=>none
def dN (P:Program):Nat->TypeId->Option bW
 | 0,_=>none
 | d+1,t=>match P.underlying t with
  | some (.int _)=>some .int
  | some .string=>some .str
  | some .bool=>some .bool
  | some (.struct fs)=>if P.stoodInHeld t then none else fieldsT (dN P d) fs.toList
  | some (.array n e)=>(bO P e).bind λ s=>(lE P e).bind λ a=>(dN P d e).bind λ q=>some (itemsT s a q n 0)
  | _=>none
 where
 fieldsT (go:TypeId->Option bW):List Field->Option bW
  | []=>some .nil
  | f::fs=>if f.name = "_" then none else (lE P f.type).bind λ a=>(go f.type).bind λ q=>(fieldsT go fs).bind λ r=>some (.part f.offset a q r)
 itemsT (s:Nat) (a:Option Nat) (q:bW):Nat->Nat->bW
  | 0,_=>.nil
  | n+1,i=>.part (i*s) a q (itemsT s a q n (i+1))
def IK (P:Program) (t:TypeId):Option bW:=dN P 20 t
def eK:Nat->List (Option Operand)->List (Option Nat)
 | _,[]=>[]
 | n,none::r=>none::eK n r
 | n,some _::r=>some n::eK (n+1) r
def iv:List (Option Operand)->List Operand
 | []=>[]
 | none::r=>iv r
 | some x::r=>x::iv r
def tI (pl:Nat->Option (Nat × Nat)):List (Nat × Operand)->Option (List (Nat × Nat))
 | []=>some []
 | (i,_)::r=>(pl i).bind λ p=>(tI pl r).bind λ l=>some (p::l)
def Ff (P:Program) (fs:Array Field) (i:Nat):Option (Nat × Nat):=(fs[i]?).bind λ f=>(bO P f.type).bind λ n=>some (f.offset,n)
def C1 (n:Nat) (i:Nat):Option (Nat × Nat):=some (i*n,n)
def LA (P:Program) (b:Builtin) (ts:Array TypeId) (args:List Operand):Option (List Operand × dL) :=
 match b with
 | .len=>match (ts[0]?).bind P.underlying with
  | some (.slice _)=>some (args,.pure Op.bB)
  | _=>none
 | .append=>match ts.toList with
  | [t,tx]=>match P.underlying t,P.underlying tx with
   | some (.slice e),some (.slice _)=>(bO P e).bind λ n=>(ij P e).bind λ z=>(zeroOf P e).bind λ zv=>if zv.cells.length=n then some (args,.eF (Op.append e n z)) else none
   | _,_=>none
  | _=>none
 | .clear=>match (ts[0]?).bind P.underlying with
  | some (.slice e)=>(zeroOf P e).bind λ z=>some (args,.eF (Op.de z.cells))
  | _=>none
 | .recover=>some (args,.recover)
 | .panic=>some (args,.panic)
 | _=>none
def D7 (_P:Program) (_fn:Func) (_args:List Operand):Option (List Operand × dL):=none
def uY (P:Program) (src dst:TypeId) (x:Operand):Option (List Operand × dL) :=
 match P.underlying src,P.underlying dst with
 | some (.int _),some (.int k)=>some ([x],.pure (Op.wrap k))
 | _,_=>none
def Aq (P:Program) (t:TypeId) (x y:Operand):Option oI :=
 match P.underlying t with
 | some .bool=>some .bool
 | some (.pointer e)=>match bO P e with
  | some (_+1)=>some .ptr
  | _=>none
 | some (.slice _)=>some .slice
 | some (.map _ _)=>some .map
 | some (.func _ _ _)=>some .func
 | some (.interface _)=>match x,y with
  | .const .nilIface,_=>some .iface
  | _,.const .nilIface=>some .iface
  | _,_=>some (.ifaces λ u=>(P.info? u).bind λ i=>if i.comparable then dN P 20 u else none)
 | some (.struct _)=>if P.eqGuardType P.depth t then none else (dN P 20 t).bind λ q=>some (.agg q)
 | some (.array _ _)=>if P.eqGuardType P.depth t then none else (dN P 20 t).bind λ q=>some (.agg q)
 | _=>none
def B9 (P:Program) (op:BinOp) (t:TypeId) (x y:Operand):Option (List Operand × dL) :=
 match P.underlying t with
 | some (.int _)=>some ([x,y],.pure (Op.bin op))
 | some .string=>some ([x,y],.pure (Op.bin op))
 | _=>match op with
  | .eql=>(Aq P t x y).bind λ k=>some ([x,y],.read (Op.eq k false))
  | .neq=>(Aq P t x y).bind λ k=>some ([x,y],.read (Op.eq k true))
  | _=>none
def tv (P:Program) (c:Call):Option (List Operand × dL) :=
 match c.callee with
 | .value (.func f)=>(P.funcs[f]?).bind λ fn =>
  match fn.body with
  | some _=>some (c.args.toList,.eM f)
  | none=>D7 P fn c.args.toList
 | .value f=>some (f::c.args.toList,.eL)
 | .invoke r m=>some (r::c.args.toList,.invoke m)
 | .builtin b=>LA P b c.argTypes c.args.toList
def IF (P:Program) (op:Go.Op):Option (List Operand × dL) :=
 match op with
 | .move x=>some ([x],.pure Op.move)
 | .assign x=>some ([x],.pure Op.move)
 | .pick c a b=>some ([c,a,b],.pure Op.pick)
 | .alloc e=>(zeroOf P e).bind λ z=>some ([],.alloc (Op.alloc e z.cells))
 | .box e x=>some ([x],.alloc (Op.box e))
 | .build t parts=>(zeroOf P t).bind λ z =>
  match P.underlying t with
  | some (.struct fs)=>if fs.all (λ f=>(bO P f.type).isSome) then (tI (Ff P fs) parts.toList).bind λ ps=>some (parts.toList.map (·.2),.pure (Op.build z.cells ps)) else none
  | some (.array _ e)=>(bO P e).bind λ n=>(tI (C1 n) parts.toList).bind λ ps=>some (parts.toList.map (·.2),.pure (Op.build z.cells ps))
  | _=>none
 | .buildSlice t len parts =>
  match P.underlying t with
  | some (.slice e)=>(bO P e).bind λ n=>(zeroOf P e).bind λ z=>(tI (C1 n) parts.toList).bind λ ps=>if z.cells.length=n/\len*n<=16777216 then some (parts.toList.map (·.2),.alloc (Op.buildSlice e len z.cells ps)) else none
  | _=>none
 | .load t a=>(lE P t).bind λ r=>match r with
  | none=>some ([a],.read Op.aa)
  | some n=>some ([a],.read (Op.aq n))
 | .store t a x=>(bO P t).bind λ n=>some ([a,x],.eF (Op.store n))
 | .nilCheck x=>some ([x],.pure Op.nilCheck)
 | .binOp op t x y _=>B9 P op t x y
 | .unOp op _ x=>some ([x],.pure (Op.un op))
 | .convert src dst x=>uY P src dst x
 | .makeFunc (.func f) a b=>some (a.toList++b.toList,.pure (Op.cB f a.size))
 | .makeSlice t l c =>
  match P.underlying t with
  | some (.slice e)=>(ij P e).bind λ b=>(zeroOf P e).bind λ z=>(bO P e).bind λ n=>if z.cells.length=n then some ([l,c],.alloc (Op.mkSlice e b z.cells)) else none
  | _=>none
 | .slice t x lo hi mx =>
  match P.underlying t with
  | some (.slice e)=>(bO P e).bind λ n=>some (x::iv [lo,hi,mx],.pure (Op.aR n (eK 0 [lo,hi,mx])))
  | _=>none
 | .fieldAddr t x i =>
  match P.underlying t with
  | some (.struct fs)=>(fs[i]?).bind λ f=>(bO P f.type).bind λ n=>if n == 0 then none else some ([x],.pure (Op.fieldAddr f.offset))
  | _=>none
 | .indexAddr t x i =>
  match P.underlying t with
  | some (.slice e)=>(bO P e).bind λ n=>some ([x,i],.pure (Op.aS n))
  | some (.array k e)=>(bO P e).bind λ n=>some ([x,i],.pure (Op.aY k n))
  | _=>none
 | .extract x i=>some ([x],.pure (Op.extract i))
 | .call c=>tv P c
 | .defer c=>match c.callee with
  | .value f=>some (f::c.args.toList,.defer)
  | _=>none
 | .panic x=>some ([x],.panic)
 | _=>none
def d9 (P:Program) (o:Oper):Option (List bD × dL) :=
 match (IF P o.op).bind λ r=>(jG P.globals.size r.1).bind λ args=>some (args,r.2) with
 | some r=>some r
 | none=>some ([],.pure Op.fail)
inductive E8 where
 | pure|read|alloc|eF
 deriving DecidableEq
def kQ:dL->E8
 | .pure _=>.pure
 | .read _=>.read
 | .alloc _=>.alloc
 | _=>.eF
def i6 (cls:Nat->E8) (dK:Nat->Nat) (n:Nat):Nat->Nat->List (Bool × Nat)->List (Bool × Nat)
 | 0,_,acc=>acc.reverse
 | fuel+1,done,acc =>
  let ready (i:Nat):Bool:=!done.testBit i && (dK i &&& done) == dK i
  let todo:=(List.range n).filter λ i=>!done.testBit i
  match todo.find? (λ i=>ready i && (cls i == .pure || cls i == .read)) with
  | some i=>i6 cls dK n fuel (done ||| 2 ^ i) ((false,i)::acc)
  | none =>
   -- the next effect: the first one (effects are in a row)
   match todo.find? (λ i=>cls i == .eF) with
   | some e =>
    if ready e then
     let again:=(acc.reverse.filter λ q=>!q.1 && cls q.2 == .read && !(dK e).testBit q.2).map λ q=>(true,q.2)
     i6 cls dK n fuel (done ||| 2 ^ e) (again.reverse++((false,e)::acc))
    else match todo.find? (λ i=>ready i && (dK e).testBit i) with
     | some i=>i6 cls dK n fuel (done ||| 2 ^ i) ((false,i)::acc)
     | none=>acc.reverse
   | none=>match todo.find? ready with
    | some i=>i6 cls dK n fuel (done ||| 2 ^ i) ((false,i)::acc)
    | none=>acc.reverse
def cD {α:Type}:List (Option α)->Option (List α)
 | []=>some []
 | x::xs=>x.bind λ a=>(cD xs).bind λ l=>some (a::l)
def guardOf (ops:Array Oper):Option (Nat × Bool)->Option (Option (Nat × Bool))
 | none=>some none
 | some g=>((ops[g.1]?).bind (·.dst)).bind λ t=>some (some (t,g.2))
def fN (ops:Array Oper) (l:List (List bD × dL)) (safe:Nat->Option (List Nat)) (q:Bool × Nat):Option aV :=
 (ops[q.2]?).bind λ o=>(l[q.2]?).bind λ a=>(guardOf ops o.guard).bind λ g =>
  some { eN:=q.1,dst:=o.dst,guard:=g,args:=a.1,op:=a.2,bR:=safe q.2 }
def jA (nt:Nat) (o:Oper):Bool :=
 match o.dst with
 | none=>true
 | some d=>Nat.blt d nt
def jK (a b:Nat):Bool:=Nat.beq (Nat.land a b) a
def bitsOf:List (Bool × Nat)->Nat->Nat
 | [],d=>d
 | (true,_)::l,d=>bitsOf l d
 | (false,i)::l,d=>bitsOf l (Nat.lor d (2 ^ i))
def iE:List (Bool × Nat)->Nat->Nat
 | (true,r)::l,d=>iE l (Nat.lor d (2 ^ r))
 | _,d=>d
def kH (c d:E8):Bool:=match c,d with
 | .pure,.pure=>true
 | .read,.read=>true
 | .alloc,.alloc=>true
 | .eF,.eF=>true
 | _,_=>false
def fp (p:Nat->Bool):Nat->Nat
 | 0=>0
 | n+1=>cond (p n) (Nat.lor (fp p n) (2 ^ n)) (fp p n)
structure hZ where
 n:Nat
 dK:Nat->Nat
 cls:Nat->E8
 qF:Nat->Nat->Bool
 self:Nat->Bool
 made:Nat
 reads:Nat
def F1 (I:hZ) (done:Nat) (post:List (Bool × Nat)):Bool × Nat->Bool
 | (false,i)=>Nat.blt i I.n && (!done.testBit i && (jK (I.dK i) done && (match I.cls i with
  | .read=>jK (Nat.land done I.made) (I.dK i)
  | .eF=>jK (Nat.land done I.made) (I.dK i) && jK (Nat.land done I.reads) (Nat.lor (I.dK i) (iE post 0))
  | _=>true)))
 | (true,r)=>kH (I.cls r) .read && (I.self r && (done.testBit r && jK (Nat.land done (fp (λ w=>!Nat.beq w r && I.qF r w) I.n)) (I.dK r)))
def Cm (I:hZ):List (Bool × Nat)->Nat->Bool
 | [],done=>jK (2 ^ I.n-1) done
 | (false,i)::post,done=>F1 I done post (false,i) && Cm I post (Nat.lor done (2 ^ i))
 | (true,r)::post,done=>F1 I done post (true,r) && Cm I post done
def mg (p:Nat->Bool):Nat->Bool
 | 0=>true
 | n+1=>p n && mg p n
def pZ (I:hZ):Bool:=mg (λ r=>mg (λ w=>Nat.beq r w || ((I.dK r).testBit w || ((I.dK w).testBit r || !I.qF r w))) I.n) I.n
def tmpsOf:List bD->List Nat
 | []=>[]
 | .tmp t::l=>t::tmpsOf l
 | _::l=>tmpsOf l
def i7 (t:Nat):List Nat->Bool
 | []=>false
 | x::l=>Nat.beq x t || i7 t l
def eX (ops:Array Oper) (l:List (List bD × dL)) (r:Nat):List Nat :=
 match ops[r]?,l[r]? with
 | some o,some a=>(match guardOf ops o.guard with|some (some g)=>[g.1] | _=>[])++tmpsOf a.1
 | _,_=>[]
def d8 (ops:Array Oper) (w:Nat):Option Nat:=(ops[w]?).bind (·.dst)
def dM (ops:Array Oper) (l:List (List bD × dL)) (r:Nat):List Nat :=
 (match d8 ops r with|some d=>[d] | none=>[])++eX ops l r
def uK (ops:Array Oper) (l:List (List bD × dL)) (r w:Nat):Bool :=
 match d8 ops w with
 | some t=>i7 t (dM ops l r)
 | none=>false
def uD (ops:Array Oper) (l:List (List bD × dL)) (r:Nat):Bool :=
 match d8 ops r with
 | some t=>!i7 t (eX ops l r)
 | none=>true
def iO (l:List (List bD × dL)) (i:Nat):E8:=kQ ((l[i]?.getD ([],.recover)).2)
def oq (c:E8):Bool:=kH c .alloc || kH c .eF
def aU (ops:Array Oper) (l:List (List bD × dL)):hZ :=
 { n:=ops.size,dK:=λ i=>(Region.before ops).getD i 0,cls:=iO l,qF:=uK ops l,self:=uD ops l,made:=fp (λ i=>oq (iO l i)) ops.size,reads:=fp (λ i=>kH (iO l i) .read) ops.size }
def np (i:Nat):List (Bool × Nat)->List (Bool × Nat)
 | []=>[]
 | (c,j)::l=>cond (!c && Nat.beq j i) [] ((c,j)::np i l)
def GZ (ops:Array Oper) (I:hZ) (plan:List (Bool × Nat)) (i:Nat):Option (List Nat) :=
 let d:=bitsOf (np i plan) 0
 cond (mg (λ j=>Nat.beq j i || (d.testBit j || (I.dK j).testBit i)) I.n) (some (ops.toList.filterMap (·.dst))) none
def ff (P:Program) (nt:Nat) (ops:Array Oper) (draw:Bool):Option ah :=
 if ops.toList.all (jA nt) then
 (cD (ops.toList.map (d9 P))).bind λ l =>
  if draw then
   let I:=aU ops l
   let plan:=i6 I.cls I.dK ops.size (2*ops.size) 0 []
   cond (Cm I plan 0 && pZ I) ((cD (plan.map (fN ops l (GZ ops I plan)))).bind λ steps=>some (.region steps)) (some .stuck)
  else (cD ((List.range ops.size).map λ i=>fN ops l (λ _=>some []) (false,i))).bind λ steps=>some (.region steps)
 else none
def bL (P:Program) (nt:Nat):Nat->Code->Option (ah × List dG)
 | _,.skip=>some (.skip,[])
 | _,.region _ ops draw=>(ff P nt ops draw).bind λ c=>some (c,[])
 | k,.seq a b=>(bL P nt k a).bind λ a=>(bL P nt (k+a.2.length) b).bind λ b=>some (.seq a.1 b.1,a.2++b.2)
 | k,.cond c a b=>(mu P.globals.size c).bind λ c=>(bL P nt k a).bind λ a=>(bL P nt (k+a.2.length) b).bind λ b=>some (.cond c a.1 b.1,a.2++b.2)
 | k,.block id b=>(bL P nt k b).bind λ b=>some (.block id b.1,b.2)
 | k,.loop b=>(bL P nt k b).bind λ b=>some (.loop none b.1,b.2)
 | k,.rangeFunc f ps a b=>(mu P.globals.size f).bind λ f=>(bL P nt (k+1) a).bind λ a=>(bL P nt (k+1+a.2.length) b).bind λ b =>
  if ps.toList.all λ p=>Nat.blt p nt then some (.rangeFunc f k,{ params:=ps.toList,assign:=a.1,body:=b.1 }::(a.2++b.2)) else none
 | _,.exit id=>some (.exit id,[])
 | k,.scope b=>(bL P nt k b).bind λ b=>some (.scope b.1,b.2)
 | _,.label l=>some (.label l,[])
 | _,.goto l=>some (.goto l,[])
 | _,.ret=>some (.ret,[])
 | _,.refuse _=>some (.stuck,[])
def kW (P:Program):List ResultVar->Option (List cU)
 | []=>some []
 | .tmp t::r=>(kW P r).bind λ l=>some (.tmp t::l)
 | .cell a t::r=>(lE P t).bind λ n=>(kW P r).bind λ l=>some ((match n with|none=>.gq a|some n=>.cC n a)::l)
def nM (P:Program) (fn:Func):Option aw :=
 fn.body.bind λ b=>(bL P fn.ntmps 0 b).bind λ c=>(kW P fn.results.toList).bind λ r=>some { results:=r,body:=c.1,loops:=c.2 }
def px (P:Program) (t:TypeId) (name:String):Option Nat :=
 (P.info? t).bind λ i=>(i.methods.find? (·.name == name)).bind λ m =>
  if !m.path.isEmpty then none else m.func.bind λ p =>
   match P.underlying t,p.2 with
   | none,_=>none
   | some (.pointer _),true=>some p.1
   | some (.pointer _),false=>none
   | some _,true=>none
   | some _,false=>some p.1
def aj (P:Program):fG:={ func:=λ f=>(P.funcs[f]?).bind (nM P),lI:=px P }
end
end Go.Am
namespace Go.Am
namespace T
variable {α:Type}
theorem go_eq (f:Nat):∀ (g i:Nat),i<=f->i<=g->path.go f i=path.go g i:=by
 induction f with
 | zero=>intro g i hf hg;obtain rfl:i=0:=by omega
         cases g<;>simp [path.go]
 | succ f ih =>
  intro g i hf hg;cases i with
  | zero=>cases g<;>simp [path.go]
  | succ n =>
   cases g with
   | zero=>omega
   | succ g =>
    simp only [path.go];have h:n / 2<=n:=Nat.div_le_self n 2;congr 1;exact ih g (n / 2) (by omega) (by omega)
theorem q2c:path 0=[]:=rfl
theorem JR (n:Nat):path (n+1)=Nat.beq (n % 2) 0::path (n / 2):=by
 show path.go (n+1) (n+1)=_;simp only [path.go];have h:n / 2<=n:=Nat.div_le_self n 2;exact congrArg (Nat.beq (n % 2) 0 :: ·) (go_eq n (n / 2) (n / 2) h (qg _))
theorem sJ:∀ (i j:Nat),path i=path j->i=j:=by
 intro i
 induction i using Nat.strongRecOn with
 | _ i ih =>
  intro j h;cases i with
  | zero=>cases j with
   | zero=>rfl
   | succ m=>rw [q2c,JR] at h;cases h
  | succ n=>cases j with
   | zero=>rw [q2c,JR] at h;cases h
   | succ m =>
    rw [JR,JR] at h;injection h with h1 h2
    have h3:=ih (n / 2) (by have:=Nat.div_le_self n 2;omega) (m / 2) h2;have h4:n % 2=m % 2:=by
     rcases Nat.mod_two_eq_zero_or_one n with a|a<;>rcases Nat.mod_two_eq_zero_or_one m with b|b<;>simp_all
    omega
theorem sV (p:List Bool):oE p (.nil:T α)=none:=by
 induction p with
 | nil=>rfl
 | cons b p ih=>cases b<;>exact ih
theorem qxg (v:Option α):∀ (p:List Bool) (t:T α),oE p (nj v p t)=v:=by
 intro p
 induction p with
 | nil=>intro t;rfl
 | cons b p ih=>intro t;cases b<;>exact ih _
theorem q1o (v:Option α):∀ (p q:List Bool) (t:T α),p ≠ q->oE q (nj v p t)=oE q t:=by
 intro p
 induction p with
 | nil =>
  intro q t h;cases q with
  | nil=>exact absurd rfl h
  | cons b q=>cases b<;>rfl
 | cons b p ih =>
  intro q t h;cases q with
  | nil=>cases b<;>rfl
  | cons c q =>
   cases b<;>cases c
   ·exact ih q _ (λ e=>h (by rw [e]))
   ·rfl
   ·rfl
   ·exact ih q _ (λ e=>h (by rw [e]))
theorem fP (t:T α) (i j:Nat) (v:Option α):(t.put i v).get j=if i=j then v else t.get j:=by
 unfold get put
 by_cases h:i=j
 ·subst h;simp [qxg]
 ·simp only [h,qo];exact q1o v _ _ t (λ e=>h (sJ i j e))
theorem aI (t:T α) (i j:Nat) (v:α):(t.set i v).get j=if i=j then some v else t.get j:=fP t i j (some v)
theorem get_nil (j:Nat):(T.nil:T α).get j=none:=sV _
theorem fE (p:List Bool) (t:T α):(iW p).run t=oE p t:=by
 induction p generalizing t with
 | nil=>rfl
 | cons b p ih=>cases b<;>exact ih _
theorem uk (v:Option α) (p:List Bool) (t:T α):(p9 p).run v t=nj v p t:=by
 induction p generalizing t with
 | nil=>rfl
 | cons b p ih =>
  cases b
  ·show T.node t.l t.val ((p9 p).run v t.r)=T.node t.l t.val (nj v p t.r);rw [ih]
  ·show T.node ((p9 p).run v t.l) t.val t.r=T.node (nj v p t.l) t.val t.r;rw [ih]
end T
section
variable {α:Type}
theorem iV (l:List α) (i:Nat):nth l i=l[i]?:=by
 induction l generalizing i with
 | nil=>rfl
 | cons x l ih=>cases i with
  | zero=>rfl
  | succ n=>exact ih n
theorem jH (a b:List α):fU a b=a++b:=by
 induction a with
 | nil=>rfl
 | cons x a ih=>exact congrArg (x :: ·) ih
theorem yS (l:List α):cz l=l.length:=by
 induction l with
 | nil=>rfl
 | cons x l ih=>exact congrArg (·+1) ih
theorem sE (n:Nat) (l:List α):aQ n l=l.drop n:=by
 induction n generalizing l with
 | zero=>rfl
 | succ n ih=>cases l with
  | nil=>exact (ih []).trans (by simp)
  | cons x l=>exact ih l
theorem tS (n:Nat) (l:List α):rQ n l=if n<=l.length then some (l.take n) else none:=by
 induction n generalizing l with
 | zero=>rfl
 | succ n ih=>cases l with
  | nil=>rfl
  | cons x l =>
   show (rQ n l).bind (λ r=>some (x::r))=_;rw [ih]
   by_cases h:n<=l.length<;>simp [h]
theorem uJ (new l:List α):pM new l=if new.length<=l.length then some (new++l.drop new.length) else none:=by
 induction new generalizing l with
 | nil=>rfl
 | cons x new ih=>cases l with
  | nil=>rfl
  | cons y l =>
   show (pM new l).bind (λ r=>some (x::r))=_;rw [ih]
   by_cases h:new.length<=l.length<;>simp [h]
theorem vW (o:Nat) (new l:List α):putAt o new l=if o+new.length<=l.length then some (l.take o++new++l.drop (o+new.length)) else none:=by
 induction o generalizing l with
 | zero=>show pM new l=_;rw [uJ];simp
 | succ o ih=>cases l with
  | nil =>
   show none=_;rw [qd (by simp only [vx];omega)]
  | cons x l =>
   show (putAt o new l).bind (λ r=>some (x::r))=_;rw [ih]
   by_cases h:o+new.length<=l.length
   ·rw [qm h,qm (by simp;omega)];simp [show o+1+new.length=(o+new.length)+1 from by omega]
   ·rw [qd h,qd (by simp;omega)];rfl
theorem oZ (l:List α) (o n:Nat):dX l o n=if n<=l.length-o then some ((l.drop o).take n) else none:=by
 unfold dX;rw [tS,sE,j8]
end
theorem yL (a b:Int):nd a b=decide (a<=b):=by
 cases a<;>cases b<;>rw [Bool.eq_iff_iff]<;>simp [nd,wh]<;>try omega
theorem J6 (a b:Int):GK a b=decide (a<b):=by
 unfold GK;rw [yL];rw [Bool.eq_iff_iff];simp
theorem Aa (a b:Int):pC a b=(a == b):=by
 rw [Bool.eq_iff_iff,A5];cases a<;>cases b<;>simp [pC]<;>omega
theorem NJ (a b:IntKind):oa a b=decide (a=b):=by cases a<;>cases b<;>rfl
theorem t8 (a b:UInt8):GM a b=(a == b):=by
 unfold GM;rw [Bool.eq_iff_iff];simp only [zr,A5];exact ⟨λ h=>UInt8.toNat_inj.1 h,λ h=>by rw [h]⟩
theorem FB (a b:List UInt8):rj a b=(a == b):=by
 induction a generalizing b with
 | nil=>cases b<;>rfl
 | cons x a ih=>cases b with
  | nil=>rfl
  | cons y b =>
   show cond (GM x y) (rj a b) false=_;rw [ih,t8];cases h:(x == y)<;>simp [h]
end Go.Am
namespace Go.Am
structure Th where
 bK:Nat->Nat
 off:Nat->Nat
 ext:Nat->Nat
def du (θ:Th):fj->Fn
 | .func f=>.func f
 | .yield l=>.yield (θ.bK l)
def sw:Nat->Option Nat
 | 0=>none
 | n+1=>some n
mutual
def aD (θ:Th):AV->Value
 | .bool b=>.bool b
 | .int k n=>.int k n
 | .str s=>.string ⟨s.toArray⟩
 | .nilp=>.pointer none
 | .ptr b o=>.pointer (some ⟨θ.bK b,θ.off b+o,none⟩)
 | .nils=>.slice none 0 0
 | .slice b o n c=>.slice (some ⟨θ.bK b,θ.off b+o,none⟩) n c
 | .gslice b i m s alt n=>.slice (some ⟨θ.bK b,θ.off b+(if (m-i) + θ.ext b=0 then alt else i*s),none⟩) n ((m-i) + θ.ext b)
 | .eslice b=>.slice (some ⟨θ.bK b,θ.off b,sw (θ.ext b)⟩) 0 0
 | .kL=>.map none
 | .map b=>.map (some (θ.bK b))
 | .fn f a b=>.func (du θ f) (bA θ a).toArray (bA θ b).toArray
 | .nilf=>.nilFunc
 | .iface t v=>.iface t (aD θ v)
 | .nili=>.nilIface
 | .agg l=>.agg (bA θ l).toArray
 | .tuple l=>.tuple (bA θ l).toArray
def bA (θ:Th):List AV->List Value
 | []=>[]
 | v::vs=>aD θ v::bA θ vs
end
theorem mV (θ:Th) (l:List AV):bA θ l=l.map (aD θ):=by
 induction l with
 | nil=>rfl
 | cons x l ih=>simp [bA,ih]
def Ag (D:Nat->Prop) (θ θ':Th):Prop:=∀ b,D b -> θ'.bK b = θ.bK b /\ θ'.off b = θ.off b /\ θ'.ext b = θ.ext b
theorem Ag.refl (D:Nat->Prop) (θ:Th):Ag D θ θ:=λ _ _=>⟨rfl,rfl,rfl⟩
theorem Ag.trans {D D':Nat->Prop} {θ θ' θ'':Th} (h:Ag D θ θ') (h':Ag D' θ' θ'') (hd:∀ b,D b->D' b):Ag D θ θ'':=λ b hb =>
 let ⟨a1,a2,a3⟩:=h b hb;let ⟨b1,b2,b3⟩:=h' b (hd b hb);⟨b1.trans a1,b2.trans a2,b3.trans a3⟩
theorem Ag.mono {D D':Nat->Prop} {θ θ':Th} (h:Ag D θ θ') (hd:∀ b,D' b->D b):Ag D' θ θ':=λ b hb=>h b (hd b hb)
def VR (D:Nat->Prop) (θ:Th) (v:AV) (c:Value):Prop:=∀ θ',Ag D θ θ'->aD θ' v=c
def bC (D:Nat->Prop) (θ:Th) (l:List AV) (cs:List Value):Prop:=∀ θ',Ag D θ θ'->bA θ' l=cs
section
variable {D D':Nat->Prop} {θ θ':Th}
theorem VR.now {v:AV} {c:Value} (h:VR D θ v c):aD θ v=c:=h θ (Ag.refl D θ)
theorem bC.now {l:List AV} {cs:List Value} (h:bC D θ l cs):bA θ l=cs:=h θ (Ag.refl D θ)
theorem VR.up {v:AV} {c:Value} (h:VR D θ v c) (ha:Ag D θ θ') (hd:∀ b,D b->D' b):VR D' θ' v c:=λ θ'' h'=>h θ'' (ha.trans h' hd)
theorem bC.up {l:List AV} {cs:List Value} (h:bC D θ l cs) (ha:Ag D θ θ') (hd:∀ b,D b->D' b):bC D' θ' l cs:=λ θ'' h'=>h θ'' (ha.trans h' hd)
theorem bC.nil:bC D θ [] []:=λ _ _=>rfl
theorem bC.cons {v:AV} {c:Value} {l:List AV} {cs:List Value} (h:VR D θ v c) (hl:bC D θ l cs):bC D θ (v::l) (c::cs) :=
 λ θ' ha=>by simp [bA,h θ' ha,hl θ' ha]
theorem bC.dn {v:AV} {l:List AV} {cs:List Value} (h:bC D θ (v::l) cs):∃ c cs',cs=c::cs'/\VR D θ v c/\bC D θ l cs':=by
 refine ⟨aD θ v,bA θ l,(by rw [<-h.now];rfl),λ θ' ha=>?_,λ θ' ha=>?_⟩
 ·have:=(h θ' ha).trans h.now.symm;simp only [bA] at this;injection this
 ·have:=(h θ' ha).trans h.now.symm;simp only [bA] at this;injection this
theorem bC.mD {cs:List Value} (h:bC D θ [] cs):cs=[]:=h.now.symm
theorem bC.length {l:List AV} {cs:List Value} (h:bC D θ l cs):cs.length=l.length:=by rw [<-h.now,mV];simp
theorem bC.app {l l':List AV} {cs cs':List Value} (h:bC D θ l cs) (h':bC D θ l' cs'):bC D θ (l++l') (cs++cs'):=by
 intro θ' ha;rw [mV,BH,<-mV,<-mV,h θ' ha,h' θ' ha]
theorem bC.kG {l:List AV} {cs:List Value} (h:bC D θ l cs) {i:Nat} {v:AV} (hv:l[i]? = some v):∃ c,cs[i]? = some c/\VR D θ v c:=by
 refine ⟨aD θ v,?_,λ θ' ha=>?_⟩
 ·rw [<-h.now,mV,xm,hv];rfl
 ·have:=(h θ' ha).trans h.now.symm;rw [mV,mV] at this;have h2:=congrArg (λ l=>l[i]?) this;simp only [xm,hv,FI,qc] at h2;exact h2
theorem bC.drop {l:List AV} {cs:List Value} (h:bC D θ l cs) (n:Nat):bC D θ (l.drop n) (cs.drop n):=by
 intro θ' ha;rw [mV,List.map_drop,<-mV,h θ' ha]
theorem bC.take {l:List AV} {cs:List Value} (h:bC D θ l cs) (n:Nat):bC D θ (l.take n) (cs.take n):=by
 intro θ' ha;rw [mV,List.map_take,<-mV,h θ' ha]
theorem bC.one {v:AV} {c:Value} (h:VR D θ v c):bC D θ [v] [c]:=.cons h .nil
theorem VR.agg {l:List AV} {cs:List Value} (h:bC D θ l cs):VR D θ (.agg l) (.agg cs.toArray):=λ θ' ha=>by simp [aD,h θ' ha]
theorem VR.tuple {l:List AV} {cs:List Value} (h:bC D θ l cs):VR D θ (.tuple l) (.tuple cs.toArray):=λ θ' ha=>by simp [aD,h θ' ha]
theorem VR.fO {l:List AV} {c:Value} (h:VR D θ (.agg l) c):∃ cs:List Value,c=.agg cs.toArray/\bC D θ l cs:=by
 refine ⟨bA θ l,h.now.symm,λ θ' ha=>?_⟩;have:=(h θ' ha).trans h.now.symm;simpa [aD] using this
theorem VR.qL {l:List AV} {c:Value} (h:VR D θ (.tuple l) c):∃ cs:List Value,c=.tuple cs.toArray/\bC D θ l cs:=by
 refine ⟨bA θ l,h.now.symm,λ θ' ha=>?_⟩;have:=(h θ' ha).trans h.now.symm;simpa [aD] using this
theorem VR.iface {t:Nat} {v:AV} {c:Value} (h:VR D θ v c):VR D θ (.iface t v) (.iface t c):=λ θ' ha=>by simp [aD,h θ' ha]
theorem VR.gO {t:Nat} {v:AV} {c:Value} (h:VR D θ (.iface t v) c):∃ c',c=.iface t c'/\VR D θ v c':=by
 refine ⟨aD θ v,h.now.symm,λ θ' ha=>?_⟩;have:=(h θ' ha).trans h.now.symm;simpa [aD] using this
theorem VR.undef:VR D θ .undef Go.undef:=λ _ _=>rfl
theorem VR.bool (b:Bool):VR D θ (.bool b) (.bool b):=λ _ _=>rfl
theorem VR.int (k:IntKind) (n:Int):VR D θ (.int k n) (.int k n):=λ _ _=>rfl
theorem VR.str (s:List UInt8):VR D θ (.str s) (.string ⟨s.toArray⟩):=λ _ _=>rfl
theorem VR.ptr {b o:Nat} (hb:D b):VR D θ (.ptr b o) (.pointer (some ⟨θ.bK b,θ.off b+o,none⟩)):=λ θ' ha=>by obtain ⟨h1,h2,_⟩:=ha b hb;simp [aD,h1,h2]
theorem VR.map {b:Nat} (hb:D b):VR D θ (.map b) (.map (some (θ.bK b))):=λ θ' ha=>by obtain ⟨h1,_,_⟩:=ha b hb;simp [aD,h1]
theorem VR.slice {b o n c:Nat} (hb:D b):VR D θ (.slice b o n c) (aD θ (.slice b o n c)):=λ θ' ha=>by obtain ⟨h1,h2,_⟩:=ha b hb;simp [aD,h1,h2]
theorem VR.gslice {b i m s alt n:Nat} (hb:D b):VR D θ (.gslice b i m s alt n) (aD θ (.gslice b i m s alt n)):=λ θ' ha=>by
 obtain ⟨h1,h2,h3⟩:=ha b hb;simp [aD,h1,h2,h3]
end
def AH (fz cfz:Nat × Nat) (off size:Nat):Prop:=cfz.1=cfz.2\/(cfz.1<cfz.2/\off+fz.1<=cfz.1/\cfz.2<=off+fz.2)\/(fz.2<fz.1/\(size<=cfz.1\/cfz.2<=off))
def Dx (fz cfz:Nat × Nat):Prop:=cfz.1=cfz.2\/(cfz.1<cfz.2/\fz.1<=cfz.1/\cfz.2<=fz.2)
def own:bN->Bool
 | .row _ _ _ o=>o
 | _=>true
def jM (D:Nat->Prop) (θ:Th) (tm:T AV) (a:Array Value):Prop:=∀ t v,tm.get t=some v -> ∃ c,a[t]? = some c/\VR D θ v c
def stR:im->LoopState
 | .ready=>.ready | .busy=>.busy | .done=>.done | .exhausted=>.exhausted
def hO:ew->Code
 | .exit id=>.exit id
 | .goto l=>.goto l
 | .ret=>.ret
def HX (D:Nat->Prop) (θ:Th) (e:AV × AV × Nat) (m:MapEntry):Prop:=VR D θ e.1 m.key/\VR D θ e.2.1 m.val/\m.born=e.2.2
def dE (D:Nat->Prop) (θ:Th):List (AV × AV × Nat)->List MapEntry->Prop
 | [],[]=>True
 | e::es,m::ms=>HX D θ e m/\dE D θ es ms
 | _,_=>False
def oP (P:Program) (f k n:Nat) (params:Array Tmp) (assign body:Code):Prop :=
 ∃ fn af lp ka kb L1 L2,P.funcs[f]? = some fn/\nM P fn=some af/\nth af.loops k=some lp/\lp.params=params.toList/\(∀ p ∈ params.toList,p<fn.ntmps)/\fn.ntmps<=n /\
  bL P fn.ntmps ka assign=some (lp.assign,L1)/\(∀ i l,nth L1 i=some l->nth af.loops (ka+i)=some l) /\
  bL P fn.ntmps kb body=some (lp.body,L2)/\(∀ i l,nth L2 i=some l->nth af.loops (kb+i)=some l)
def Kk (D:Nat->Prop) (θ:Th):aL->Deferred->Prop
 | .fm b,d=>D b/\d = { target:=.collected (θ.bK b),args:=#[] }
 | .fn f args,d=>∃ c cap:Array Value,d = { target:=.fn (du θ f) cap,args:=c }/\(∀ θ',Ag D θ θ'->du θ' f=du θ f)/\bC D θ args (c++cap).toList
def jN (P:Program) (D:Nat->Prop) (θ:Th) (b:Nat):bN->Obj->Prop
 | .row cells e fz ow,o=>∃ pre cs post cfz e',o=.cells (pre++cs++post).toArray e' cfz/\pre.length = θ.off b/\bC D θ cells cs /\
  (ow=true->e'=e/\pre=[]/\post=[]/\Dx fz cfz)
 | .grown m size cells e fz,o=>∃ pre cs post cfz,o=.cells (pre++cs++post).toArray e cfz/\pre.length = θ.off b/\bC D θ cells cs /\
  cells.length=m*size/\post.length = θ.ext b*size/\0<size/\m + θ.ext b<=maxLen/\AH fz cfz (θ.off b) (pre.length+cs.length+post.length)
 | .map es clock,o=>∃ ms:List MapEntry,o=.map ms.toArray clock/\dE D θ es ms
 | .mO s pos,o=>o=.stringIter ⟨s.toArray⟩ pos /\ θ.off b=0
 | .loop st pend f k tm d,o=>∃ r:Loop,o=.loop r/\r.state=stR st/\r.pending=pend.map hO/\r.fn=f/\jM D θ tm r.tmps/\oP P f k r.tmps.size r.params r.assign r.body /\
  D d/\r.defers = θ.bK d
 | .deferred calls,o=>∃ ds,o=.deferred ds/\(match calls,ds with
  | none,none=>True
  | some l,some l'=>l=[]/\l'=[]
  | _,_=>False)
structure HR (P:Program) (base:Nat) (D:Nat->Prop) (θ:Th) (H:AHeap) (w:World):Prop where
 obj:∀ b o,H.get b=some o->D b /\ ∃ co,w.heap[θ.bK b]? = some co/\jN P D θ b o co
 inj:∀ b b' o o',H.get b=some o->H.get b'=some o'->own o=true->b ≠ b' -> θ.bK b ≠ θ.bK b'
 gI:∀ b o,H.get b=some o->own o=true->base <= θ.bK b
 c8:∀ g,g<P.globals.size->D g /\ θ.bK g=g /\ θ.off g=0
 low:base<=w.heap.size
def Lt (n:Nat):Nat->Prop:=λ b=>b<n
end Go.Am
namespace Go.Am
theorem p6 (k o i:Nat):(⟨k,o,none⟩:Addr).add i=⟨k,o+i,none⟩:=by unfold Addr.add;split<;>simp_all
def dH (w:World) (k:Nat) (o:Obj):World:={ w with heap:=w.heap.setIfInBounds k o }
theorem JD (w:World) (k:Nat) (o:Obj):(dH w k o).heap.size=w.heap.size:=by simp [dH]
theorem Dl (w:World) (k j:Nat) (o:Obj) (h:k<w.heap.size):(dH w k o).heap[j]? = if k=j then some o else w.heap[j]?:=by
 simp only [dH,vj];split<;>simp_all
theorem xao (w:World) (k:Nat) (o o':Obj):dH (dH w k o) k o'=dH w k o':=by
 simp [dH]
theorem xan (w:World) (k:Nat) (o:Obj) (h:w.heap[k]? = some o):dH w k o=w:=by
 have:w.heap.setIfInBounds k o=w.heap:=by
  apply Array.ext_getElem?;intro j;rw [vj]
  by_cases hj:k=j
  ·subst hj;obtain ⟨hk,h2⟩:=kh.1 h;simp [hk,h2]
  ·simp [hj]
 simp only [dH,this]
theorem tu (w:World) (o:Obj) (j:Nat):(w.alloc o).heap[j]? = if j=w.heap.size then some o else w.heap[j]?:=by
 simp only [World.alloc,Array.getElem?_push]
section
variable {P:Program} {w:World} {k:Nat} {arr:Array Value} {e:TypeId} {fz:Nat × Nat}
theorem G6 (h:w.heap[k]? = some (.cells arr e fz)) (o:Nat):w.cell? ⟨k,o,none⟩=arr[o]?:=by simp [World.cell?,h]
theorem q98 (h:w.heap[k]? = some (.cells arr e fz)) {o:Nat} {v:Value} (hv:arr[o]? = some v):(load ⟨k,o,none⟩).run P w=.ok v w:=by
 rw [run_load,G6 h,hv]
theorem q2k (h:w.heap[k]? = some (.cells arr e fz)) (o n:Nat) (hn:n<=arr.size-o) :
 (loadCells ⟨k,o,none⟩ n).run P w=.ok ((arr.toList.drop o).take n).toArray w:=by
 have hl:((arr.toList.drop o).take n).length=n:=by simp;omega
 have:=run_loadCells_list (P:=P) w ⟨k,o,none⟩ ((arr.toList.drop o).take n) (λ j v hv=>by
  rw [p6,G6 h];rw [ku] at hv;split at hv
  ·simpa using hv
  ·cases hv)
 rwa [hl] at this
theorem Ke (hlo:Nat):∀ (vs:List Value) (i:Nat) (arr:Array Value) (w:World),w.heap[k]? = some (.cells arr e fz) ->
 hlo+i+vs.length<=arr.size->(∀ j,j<vs.length -> ¬ (fz.1<=hlo+i+j/\hlo+i+j<fz.2))->(∀ v ∈ vs,v.oneCell'=true) ->
 (storeCells ⟨k,hlo,none⟩ vs i).run P w=.ok () (dH w k (.cells (arr.toList.take (hlo+i)++vs++arr.toList.drop (hlo+i+vs.length)).toArray e fz))
 | [],i,arr,w,hg,_,_,_=>by
  simp only [storeCells,x9,vx,qe,yd,HO];rw [xan w k _ hg];rfl
 | v::rest,i,arr,w,hg,hl,hf,h1=>by
  have hi:hlo+i<arr.size:=by simp at hl;omega
  have hk:k<w.heap.size:=(kh.1 hg).1;have hcell:w.cell? ⟨k,hlo+i,none⟩=some arr[hlo+i]:=by rw [G6 hg];simp [hi]
  have hfro:w.frozen? ⟨k,hlo+i,none⟩=false:=by
   have:=hf 0 (by simp);simp only [World.frozen?,hg];simp at this ⊢;omega
  have hset:w.setCell ⟨k,hlo+i,none⟩ v=dH w k (.cells (arr.setIfInBounds (hlo+i) v) e fz):=by
   simp only [World.setCell,dH];congr 1;apply Array.ext_getElem?;intro j;rw [Array.getElem?_modify,vj]
   by_cases hj:k=j
   ·subst hj;have h2:=(kh.1 hg).2;simp [hk,h2]
   ·simp [hj]
  have hst:(store ((⟨k,hlo,none⟩:Addr).add i) v).run P w=.ok () (dH w k (.cells (arr.setIfInBounds (hlo+i) v) e fz)):=by
   rw [p6,run_store P w _ v _ (h1 v (by simp)),hcell];simp [hfro,hset]
  have ih:=Ke hlo rest (i+1) (arr.setIfInBounds (hlo+i) v) (dH w k (.cells (arr.setIfInBounds (hlo+i) v) e fz))
   (by rw [Dl _ _ _ _ hk];simp) (by simp at hl ⊢;omega)
   (λ j hj=>by have:=hf (j+1) (by simpa using hj);rwa [show hlo+i+(j+1)=hlo+(i+1)+j from by omega] at this)
   (λ x hx=>h1 x (by simp [hx]))
  simp only [storeCells,Sem.run_bind,hst,Result.andThen_ok,ih,xao];congr 3;have ee:=list_seg_step arr.toList (hlo+i) v rest (by simp at hl ⊢;omega)
  simpa [Array.toList_setIfInBounds,vl] using ee
end
def Up (D:Nat->Prop) (n m:Nat):Nat->Prop:=λ b=>D b\/(n<=b/\b<m)
theorem Up.of {D:Nat->Prop} {n m:Nat}:∀ b,D b->Up D n m b:=λ _ h=>.inl h
def cO (D:Nat->Prop) (n m:Nat):Prop:=∀ b,n<=b->b<m -> ¬ D b
theorem Up.up {D:Nat->Prop} {n m k:Nat} (h:n<=m) (h':m<=k):Up (Up D n m) m k=Up D n k:=by
 funext b;simp only [Up,eq_iff_iff];constructor
 ·rintro ((h1|⟨h1,h2⟩) | ⟨h1,h2⟩)
  ·exact .inl h1
  ·exact .inr ⟨h1,by omega⟩
  ·exact .inr ⟨by omega,h2⟩
 ·rintro (h1|⟨h1,h2⟩)
  ·exact .inl (.inl h1)
  ·by_cases hb:b<m
   ·exact .inl (.inr ⟨h1,hb⟩)
   ·exact .inr ⟨by omega,h2⟩
theorem Up.none {D:Nat->Prop} {n:Nat}:Up D n n=D:=by
 funext b;simp only [Up,eq_iff_iff];constructor
 ·rintro (h|⟨h1,h2⟩)
  ·exact h
  ·omega
 ·exact .inl
theorem cO.left {D:Nat->Prop} {n m k:Nat} (h:cO D n k) (hk:m<=k):cO D n m:=λ b h1 h2=>h b h1 (by omega)
theorem cO.right {D:Nat->Prop} {n m k:Nat} (h:cO D n k) (hm:n<=m):cO (Up D n m) m k:=λ b h1 h2 h3=>by
 rcases h3 with h3|⟨_,h4⟩
 ·exact h b (by omega) h2 h3
 ·omega
structure bj (D:Nat->Prop) (H:AHeap) (θ:Th) (w:World) (H':AHeap) (θ':Th) (w':World):Prop where
 next:H.next<=H'.next
 ag:Ag D θ θ'
 size:w.heap.size<=w'.heap.size
 os:w'.os=w.os
 tape:w'.tape=w.tape
 output:w'.output=w.output
 ae:∀ k,k<w.heap.size->(∀ b o,H.get b=some o->own o=true -> θ.bK b ≠ k)->w'.heap[k]? = w.heap[k]?
 news:∀ b o,H'.get b=some o->own o=true -> θ'.bK b<w.heap.size -> ∃ b' o',H.get b'=some o'/\own o'=true /\ θ.bK b' = θ'.bK b
theorem bj.refl (D:Nat->Prop) (H:AHeap) (θ:Th) (w:World):bj D H θ w H θ w :=
 ⟨qg _,Ag.refl _ _,qg _,rfl,rfl,rfl,λ _ _ _=>rfl,λ b o h ho _=>⟨b,o,h,ho,rfl⟩⟩
theorem bj.trans {D D':Nat->Prop} {H H' H'':AHeap} {θ θ' θ'':Th} {w w' w'':World} (a:bj D H θ w H' θ' w') (b:bj D' H' θ' w' H'' θ'' w'') (hd:∀ b,D b->D' b):bj D H θ w H'' θ'' w'':=by
 refine ⟨xt a.next b.next,a.ag.trans b.ag hd,xt a.size b.size,b.os.trans a.os,b.tape.trans a.tape,b.output.trans a.output,?_,?_⟩
 ·intro k hk hno;refine (b.ae k (qn hk a.size) ?_).trans (a.ae k hk hno);intro x o hx ho he;obtain ⟨b',o',h1,h2,h3⟩:=a.news x o hx ho (by omega);exact hno b' o' h1 h2 (by omega)
 ·intro x o hx ho hlt;obtain ⟨b',o',h1,h2,h3⟩:=b.news x o hx ho (qn hlt a.size);obtain ⟨b'',o'',g1,g2,g3⟩:=a.news b' o' h1 h2 (by omega);exact ⟨b'',o'',g1,g2,by omega⟩
theorem bj.draw {D:Nat->Prop} {H:AHeap} {θ:Th} {w w':World} (hh:w'.heap=w.heap) (ho:w'.os=w.os) (ht:w'.tape=w.tape) (hp:w'.output=w.output):bj D H θ w H θ w' :=
 ⟨qg _,Ag.refl _ _,by rw [hh];exact qg _,ho,ht,hp,λ _ _ _=>by rw [hh],λ b o h hw _=>⟨b,o,h,hw,rfl⟩⟩
theorem HR.draw {P:Program} {base:Nat} {D:Nat->Prop} {θ:Th} {H:AHeap} {w w':World} (h:HR P base D θ H w) (hh:w'.heap=w.heap):HR P base D θ H w' :=
 ⟨λ b o hb=>by rw [hh];exact h.obj b o hb,h.inj,h.gI,h.c8,by rw [hh];exact h.low⟩
theorem dE.up {D D':Nat->Prop} {θ θ':Th} (ha:Ag D θ θ') (hd:∀ b,D b->D' b):∀ (es:List (AV × AV × Nat)) (ms:List MapEntry),dE D θ es ms->dE D' θ' es ms
 | [],[],_=>trivial
 | e::es,m::ms,⟨⟨h1,h2,h3⟩,h⟩=>⟨⟨h1.up ha hd,h2.up ha hd,h3⟩,dE.up ha hd es ms h⟩
 | [],_::_,h=>h.elim
 | _::_,[],h=>h.elim
theorem jN.up {P:Program} {D D':Nat->Prop} {θ θ':Th} {b:Nat} {o:bN} {co:Obj} (h:jN P D θ b o co) (hb:D b) (ha:Ag D θ θ') (hd:∀ b,D b->D' b):jN P D' θ' b o co:=by
 obtain ⟨e1,e2,e3⟩:=ha b hb;cases o with
 | row cells e fz ow =>
  obtain ⟨pre,cs,post,cfz,et,h1,h2,h3,h4⟩:=h;exact ⟨pre,cs,post,cfz,et,h1,by rw [e2];exact h2,h3.up ha hd,h4⟩
 | grown m size cells e fz =>
  obtain ⟨pre,cs,post,cfz,h1,h2,h3,h4,h5,h6,h7,h8⟩:=h;exact ⟨pre,cs,post,cfz,h1,by rw [e2];exact h2,h3.up ha hd,h4,by rw [e3];exact h5,h6,by rw [e3];exact h7,by rw [e2];exact h8⟩
 | map es clock =>
  obtain ⟨ms,h1,h2⟩:=h;exact ⟨ms,h1,dE.up ha hd _ _ h2⟩
 | mO s pos=>exact ⟨h.1,e2.trans h.2⟩
 | loop st pend f k tm d =>
  obtain ⟨r,h1,h2,h3,h4,h5,h6,h7,h8⟩:=h;exact ⟨r,h1,h2,h3,h4,λ t v hv=>let ⟨c,hc,hr⟩:=h5 t v hv;⟨c,hc,hr.up ha hd⟩,h6,hd d h7,by rw [(ha d h7).1];exact h8⟩
 | deferred calls=>exact h
theorem HR.up {P:Program} {base:Nat} {D D':Nat->Prop} {θ:Th} {H:AHeap} {w:World} (h:HR P base D θ H w) (hd:∀ b,D b->D' b):HR P base D' θ H w :=
 ⟨λ b o hb=>let ⟨h1,co,h2,h3⟩:=h.obj b o hb;⟨hd b h1,co,h2,h3.up h1 (Ag.refl _ _) hd⟩,h.inj,h.gI,λ g hg=>⟨hd g (h.c8 g hg).1,(h.c8 g hg).2⟩,h.low⟩
section
variable {P:Program} {base:Nat} {D:Nat->Prop} {θ:Th} {H:AHeap} {w:World}
theorem HR.lt (h:HR P base D θ H w) {b:Nat} {o:bN} (hb:H.get b=some o):θ.bK b<w.heap.size:=by
 obtain ⟨_,co,hc,_⟩:=h.obj b o hb;exact (kh.1 hc).1
theorem AHeap.aI (H:AHeap) (b b':Nat) (o:bN):(H.set b o).get b'=if b=b' then some o else H.get b':=T.aI _ _ _ _
theorem AHeap.bo (H:AHeap) (b':Nat) (o:bN):(H.alloc o).get b'=if H.next=b' then some o else H.get b':=T.aI _ _ _ _
theorem AHeap.kO (H:AHeap) (b b':Nat):(H.kill b).get b'=if b=b' then none else H.get b':=T.fP _ _ _ _
theorem HR.set (h:HR P base D θ H w) {b:Nat} {o o':bN} {co':Obj} (hb:H.get b=some o) (ho:own o=true) (ho':own o'=true) (hr:jN P D θ b o' co') :
 HR P base D θ (H.set b o') (dH w (θ.bK b) co'):=by
 have hlt:=h.lt hb;refine ⟨λ x ox hx=>?_,λ x y ox oy hx hy hox hne=>?_,λ x ox hx hox=>?_,h.c8,by rw [JD];exact h.low⟩
 ·rw [AHeap.aI] at hx
  by_cases e:b=x
  ·subst e;simp only [qw,qc] at hx;subst hx;exact ⟨(h.obj b o hb).1,co',by rw [Dl _ _ _ _ hlt];simp,hr⟩
  ·simp only [e,qo] at hx;obtain ⟨h1,co,h2,h3⟩:=h.obj x ox hx;exact ⟨h1,co,by rw [Dl _ _ _ _ hlt,qd (h.inj b x o ox hb hx ho e)];exact h2,h3⟩
 ·rw [AHeap.aI] at hx hy
  by_cases e:b=x<;>by_cases e':b=y
  ·exact absurd (e.symm.trans e') hne
  ·subst e;simp only [e',qo] at hy;exact h.inj b y o oy hb hy ho hne
  ·subst e';simp only [e,qo] at hx;exact h.inj x b ox o hx hb hox hne
  ·simp only [e,e',qo] at hx hy;exact h.inj x y ox oy hx hy hox hne
 ·rw [AHeap.aI] at hx
  by_cases e:b=x
  ·subst e;exact h.gI b o hb ho
  ·simp only [e,qo] at hx;exact h.gI x ox hx hox
theorem bj.set {b:Nat} {o o':bN} {co':Obj} (hb:H.get b=some o) (ho:own o=true) (hlt:θ.bK b<w.heap.size) :
 bj D H θ w (H.set b o') θ (dH w (θ.bK b) co'):=by
 refine ⟨qg _,Ag.refl _ _,by rw [JD];exact qg _,rfl,rfl,rfl,λ k hk hno=>?_,λ x ox hx hox _=>?_⟩
 ·rw [Dl _ _ _ _ hlt,qd (hno b o hb ho)]
 ·rw [AHeap.aI] at hx
  by_cases e:b=x
  ·subst e;exact ⟨b,o,hb,ho,rfl⟩
  ·simp only [e,qo] at hx;exact ⟨x,ox,hx,hox,rfl⟩
def Th.add (θ:Th) (n bK off ext:Nat):Th:={ bK:=λ b=>if b=n then bK else θ.bK b,off:=λ b=>if b=n then off else θ.off b,ext:=λ b=>if b=n then ext else θ.ext b }
theorem Th.cY (θ:Th) (n bK off ext:Nat):(θ.add n bK off ext).bK n=bK/\(θ.add n bK off ext).off n=off/\(θ.add n bK off ext).ext n=ext:=by simp [Th.add]
theorem Th.dV (θ:Th) (n bK off ext:Nat) {D:Nat->Prop} (hn:¬ D n):Ag D θ (θ.add n bK off ext):=λ b hb=>by
 have:b ≠ n:=λ e=>hn (e ▸ hb);simp [Th.add,this]
end
section
variable {P:Program} {base:Nat} {D:Nat->Prop} {θ:Th} {H:AHeap} {w:World}
theorem HR.alloc (h:HR P base D θ H w) (hn:¬ D H.next) {o:bN} {co:Obj} {k off ext:Nat} {w':World} (hk:w'.heap[k]? = some co) (hkeep:∀ j,j<w.heap.size->w'.heap[j]? = w.heap[j]?) (hks:w.heap.size<=k)
 (hs:w.heap.size<=w'.heap.size) (hr:jN P (Up D H.next (H.next+1)) (θ.add H.next k off ext) H.next o co) :
 HR P base (Up D H.next (H.next+1)) (θ.add H.next k off ext) (H.alloc o) w':=by
 have hag:=Th.dV θ H.next k off ext hn
 obtain ⟨e1,e2,e3⟩:=Th.cY θ H.next k off ext
 have old:∀ x ox,H.get x=some ox->(θ.add H.next k off ext).bK x = θ.bK x:=λ x ox hx=>(hag x (h.obj x ox hx).1).1;refine ⟨λ x ox hx=>?_,λ x y ox oy hx hy hox hne=>?_,λ x ox hx hox=>?_,λ g hg=>?_,by have:=h.low;omega⟩
 ·rw [AHeap.bo] at hx
  by_cases e:H.next=x
  ·subst e;simp only [qw,qc] at hx;subst hx;exact ⟨.inr ⟨qg _,zh _⟩,co,by rw [e1];exact hk,hr⟩
  ·simp only [e,qo] at hx;obtain ⟨h1,c,h2,h3⟩:=h.obj x ox hx;refine ⟨.inl h1,c,?_,h3.up h1 hag Up.of⟩;rw [old x ox hx,hkeep _ (h.lt hx)];exact h2
 ·rw [AHeap.bo] at hx hy
  by_cases e:H.next=x<;>by_cases e':H.next=y
  ·exact absurd (e.symm.trans e') hne
  ·subst e;simp only [e',qo] at hy;rw [e1,old y oy hy];have:=h.lt hy;omega
  ·subst e';simp only [e,qo] at hx;rw [e1,old x ox hx];have:=h.lt hx;omega
  ·simp only [e,e',qo] at hx hy;rw [old x ox hx,old y oy hy];exact h.inj x y ox oy hx hy hox hne
 ·rw [AHeap.bo] at hx
  by_cases e:H.next=x
  ·subst e;rw [e1];have:=h.low;omega
  ·simp only [e,qo] at hx;rw [old x ox hx];exact h.gI x ox hx hox
 ·obtain ⟨h1,h2,h3⟩:=h.c8 g hg;obtain ⟨a1,a2,_⟩:=hag g h1;exact ⟨.inl h1,a1.trans h2,a2.trans h3⟩
theorem bj.alloc (h:HR P base D θ H w) (hn:¬ D H.next) (o:bN) (co:Obj) (off ext:Nat):bj D H θ w (H.alloc o) (θ.add H.next w.heap.size off ext) (w.alloc co):=by
 have hag:=Th.dV θ H.next w.heap.size off ext hn
 obtain ⟨e1,e2,e3⟩:=Th.cY θ H.next w.heap.size off ext
 refine ⟨ko _,hag,by simp,rfl,rfl,rfl,λ k hk _=>?_,λ x ox hx hox hlt=>?_⟩
 ·rw [tu,qd (Ef hk)]
 ·rw [AHeap.bo] at hx
  by_cases e:H.next=x
  ·subst e;rw [e1] at hlt;omega
  ·simp only [e,qo] at hx;have:=(hag x (h.obj x ox hx).1).1;exact ⟨x,ox,hx,hox,this.symm⟩
end
section
variable {P:Program} {base:Nat} {D:Nat->Prop} {θ:Th} {H:AHeap} {w:World}
theorem HR.cells (h:HR P base D θ H w) {b:Nat} {l:List AV} (hb:H.bS b=some l) :
 ∃ pre cs post e fz,w.heap[θ.bK b]? = some (.cells (pre++cs++post).toArray e fz)/\pre.length = θ.off b/\bC D θ l cs:=by
 unfold AHeap.bS at hb;cases hg:H.get b with
 | none=>rw [hg] at hb;cases hb
 | some o =>
  rw [hg] at hb;obtain ⟨_,co,hc,hr⟩:=h.obj b o hg;cases o with
  | row cells e fz ow =>
   obtain ⟨pre,cs,post,cfz,et,h1,h2,h3,_⟩:=hr;injection hb with hb;subst hb
   exact ⟨pre,cs,post,et,cfz,by rw [hc,h1],h2,h3⟩
  | grown m size cells e fz =>
   obtain ⟨pre,cs,post,cfz,h1,h2,h3,_⟩:=hr;injection hb with hb;subst hb
   exact ⟨pre,cs,post,e,cfz,by rw [hc,h1],h2,h3⟩
  | map _ _=>cases hb
  | mO _ _=>cases hb
  | loop _ _ _ _ _ _=>cases hb
  | deferred _=>cases hb
theorem Az (pre cs post:List Value) (o:Nat) {c:Value} (h:cs[o]? = some c):(pre++cs++post).toArray[pre.length+o]? = some c:=by
 have hlt:=(ql.1 h).1;simp only [List.getElem?_toArray,zi];rw [jo (by omega),show pre.length+o-pre.length=o from by omega,kq hlt];exact h
theorem q5g (pre cs post:List Value) (o n:Nat) (h:n<=cs.length-o):(((pre++cs++post).toArray.toList.drop (pre.length+o)).take n)=(cs.drop o).take n:=by
 simp only [zi];rw [we,show pre.length+o-pre.length=o from by omega,List.drop_of_length_le (l:=pre) (by omega),zt,we]
 by_cases ho:o<=cs.length
 ·rw [Gb,show n-(cs.drop o).length=0 from by simp;omega];simp
 ·have:n=0:=by omega
  subst this;simp
theorem HR.aa (h:HR P base D θ H w) {b o:Nat} {v:AV} (hl:H.aa b o=some v) :
 ∃ c,(load ⟨θ.bK b,θ.off b+o,none⟩).run P w=.ok c w/\VR D θ v c:=by
 unfold AHeap.aa at hl;cases hc:H.bS b with
 | none=>rw [hc] at hl;cases hl
 | some l =>
  rw [hc] at hl;obtain ⟨pre,cs,post,e,fz,h1,h2,h3⟩:=h.cells hc;simp only [qi,iV] at hl;obtain ⟨c,hc1,hc2⟩:=h3.kG hl;exact ⟨c,q98 h1 (by rw [<-h2];exact Az pre cs post o hc1),hc2⟩
theorem HR.aq (h:HR P base D θ H w) {b o n:Nat} {l:List AV} (hl:H.aq b o n=some l) :
 ∃ cs:List Value,(loadCells ⟨θ.bK b,θ.off b+o,none⟩ n).run P w=.ok cs.toArray w/\bC D θ l cs/\l.length=n:=by
 unfold AHeap.aq at hl;cases hc:H.bS b with
 | none=>rw [hc] at hl;cases hl
 | some l0 =>
  rw [hc] at hl;obtain ⟨pre,cs,post,e,fz,h1,h2,h3⟩:=h.cells hc;simp only [qi,oZ] at hl;split at hl
  ·rename_i hn;injection hl with hl;subst hl
   have hlen:=h3.length;refine ⟨(cs.drop o).take n,?_,(h3.drop o).take n,by simp;omega⟩;rw [<-h2,q2k h1 (pre.length+o) n (by simp;omega),q5g pre cs post o n (by omega)]
  ·cases hl
theorem q19 {v:AV} {c:Value} (h:VR D θ v c) (h1:br v=true):c.oneCell'=true:=by
 rw [<-h.now];cases v<;>simp_all [br,aD,Value.oneCell']
theorem nU (l:List AV):ba l=l.all br:=by
 induction l with
 | nil=>rfl
 | cons x l ih =>
  show cond (br x) (ba l) false=_;rw [ih];cases h:br x<;>simp [h]
theorem quf {l:List AV} {cs:List Value} (h:bC D θ l cs) (h1:ba l=true):∀ c ∈ cs,c.oneCell'=true:=by
 intro c hc;obtain ⟨i,hi⟩:=wz hc;rw [nU,Bm] at h1;have hlt:i<l.length:=by rw [<-h.length];exact (ql.1 hi).1
 obtain ⟨c',h2,h3⟩:=h.kG (qv hlt);rw [hi] at h2;injection h2 with h2;subst h2
 exact q19 h3 (h1 _ (List.getElem_mem hlt))
end
end Go.Am
namespace Go.Am
def nx (P:Program) (s:Sem Next) (w:World) (c:Value) (w':World):Prop:=s.run P w=.ok (.value c) w'\/(s.run P w=.ok .skip w'/\c=Go.undef)
def cR (P:Program) (o:Oper) (xs:List Operand) (f:List AV->Option AV):Prop :=
 ∀ (D:Nat->Prop) θ (ρ:Operand->Value) w vs v,bC D θ vs (xs.map ρ)->f vs=some v -> ∃ c,nx P (execOp ρ o) w c w/\VR D θ v c
section
variable {P:Program} {w:World}
theorem gT {t:TypeId} {d:TypeDesc} (h:P.underlying t=some d):(underlying t).run P w=.ok d w:=run_underlying h w
theorem oJ {t:TypeId} {n:Nat} (h:bO P t=some n):(sizeOf t).run P w=.ok n w:=by
 unfold bO at h;cases hi:P.info? t with
 | none=>rw [hi] at h;cases h
 | some i=>rw [hi] at h;injection h with h;subst h;simp [sizeOf,typeInfo,hi]
theorem qsq {t:TypeId} {n:Nat} (h:bO P t=some n):∃ i,P.info? t=some i/\i.size=n:=by
 unfold bO at h;cases hi:P.info? t with
 | none=>rw [hi] at h;cases h
 | some i=>rw [hi] at h;injection h with h;exact ⟨i,rfl,h⟩
theorem Jg {t:TypeId} {n:Option Nat} (h:lE P t=some n):(isAgg t).run P w=.ok n.isSome w /\ ∀ k,n=some k->(sizeOf t).run P w=.ok k w:=by
 unfold lE at h;cases hu:P.underlying t with
 | none=>rw [hu] at h;cases h
 | some d =>
  rw [hu] at h;cases d
  case struct fs =>
   simp only at h;cases hs:bO P t with
   | none=>rw [hs] at h;cases h
   | some m =>
    rw [hs] at h;injection h with h;subst h
    exact ⟨by simp [isAgg,gT hu],λ k hk=>by injection hk with hk;subst hk;exact oJ hs⟩
  case array m e =>
   simp only at h;cases hs:bO P t with
   | none=>rw [hs] at h;cases h
   | some m =>
    rw [hs] at h;injection h with h;subst h
    exact ⟨by simp [isAgg,gT hu],λ k hk=>by injection hk with hk;subst hk;exact oJ hs⟩
  all_goals
   (injection h with h;subst h
    exact ⟨by simp [isAgg,gT hu],λ k hk=>by cases hk⟩)
mutual
theorem LR (θ:Th):∀ (c:Value) (v:AV),dD c=some v->aD θ v=c
 | .bool b,v,h=>by simp [dD] at h;subst h;rfl
 | .int k n,v,h=>by simp [dD] at h;subst h;rfl
 | .string s,v,h=>by simp [dD] at h;subst h;simp [aD]
 | .pointer none,v,h=>by simp [dD] at h;subst h;rfl
 | .pointer (some a),v,h=>by simp [dD] at h
 | .slice none 0 0,v,h=>by simp [dD] at h;subst h;rfl
 | .slice none 0 (n+1),v,h=>by simp [dD] at h
 | .slice none (n+1) c,v,h=>by simp [dD] at h
 | .slice (some a) n c,v,h=>by simp [dD] at h
 | .map none,v,h=>by simp [dD] at h;subst h;rfl
 | .map (some r),v,h=>by simp [dD] at h
 | .nilFunc,v,h=>by simp [dD] at h;subst h;rfl
 | .nilIface,v,h=>by simp [dD] at h;subst h;rfl
 | .iface t x,v,h=>by
  simp only [dD] at h;cases hx:dD x with
  | none=>rw [hx] at h;cases h
  | some y=>rw [hx] at h;injection h with h;subst h;simp [aD,LR θ x y hx]
 | .agg cs,v,h=>by
  simp only [dD] at h;cases hx:iR cs.toList with
  | none=>rw [hx] at h;cases h
  | some l=>rw [hx] at h;injection h with h;subst h;simp [aD,NG θ cs.toList l hx]
 | .tuple cs,v,h=>by
  simp only [dD] at h;cases hx:iR cs.toList with
  | none=>rw [hx] at h;cases h
  | some l=>rw [hx] at h;injection h with h;subst h;simp [aD,NG θ cs.toList l hx]
 | .float _ _,v,h=>by simp [dD] at h
 | .complex _ _ _,v,h=>by simp [dD] at h
 | .chan _,v,h=>by simp [dD] at h
 | .func _ _ _,v,h=>by simp [dD] at h
theorem NG (θ:Th):∀ (cs:List Value) (l:List AV),iR cs=some l->bA θ l=cs
 | [],l,h=>by simp [iR] at h;subst h;rfl
 | c::cs,l,h=>by
  simp only [iR] at h;cases hx:dD c with
  | none=>rw [hx] at h;cases h
  | some y =>
   rw [hx] at h;simp only [qi] at h;cases hy:iR cs with
   | none=>rw [hy] at h;cases h
   | some ys=>rw [hy] at h;injection h with h;subst h;simp [bA,LR θ c y hx,NG θ cs ys hy]
end
theorem I4 {D:Nat->Prop} {θ:Th} {c:Value} {v:AV} (h:dD c=some v):VR D θ v c:=λ θ' _=>LR θ' c v h
theorem Gd {t:TypeId} {z:AV} (h:zeroOf P t=some z):∃ c,(zeroValue t).run P w=.ok c w /\ ∀ D θ,VR D θ z c:=by
 unfold zeroOf at h;cases hi:P.info? t with
 | none=>rw [hi] at h;cases h
 | some i =>
  rw [hi] at h;simp only [qi] at h;cases hz:i.zero with
  | none=>rw [hz] at h;cases h
  | some c=>rw [hz] at h;exact ⟨c,by simp [zeroValue,typeInfo,hi,hz],λ D θ=>I4 h⟩
end
section
variable {D:Nat->Prop} {θ:Th}
theorem VR.cells {v:AV} {c:Value} (h:VR D θ v c):bC D θ v.cells c.cells.toList:=by
 intro θ' ha;have h1:=h θ' ha;subst h1;cases v<;>simp [AV.cells,aD,Value.cells,bA]
end
section
variable {P:Program} {D:Nat->Prop} {θ:Th} {ρ:Operand->Value} {w:World}
theorem bC.fT {x:Operand} {vs:List AV} (h:bC D θ vs ([x].map ρ)):∃ v,vs=[v]/\VR D θ v (ρ x):=by
 cases vs with
 | nil=>have:=h.length;simp at this
 | cons v vs =>
  obtain ⟨c,cs,h1,h2,h3⟩:=h.dn;simp only [km,List.map_nil,zn] at h1;obtain ⟨rfl,rfl⟩:=h1;have:=h3.length;cases vs with
  | nil=>exact ⟨v,rfl,h2⟩
  | cons _ _=>simp at this
theorem bC.mA {x y:Operand} {vs:List AV} (h:bC D θ vs ([x,y].map ρ)):∃ a b,vs=[a,b]/\VR D θ a (ρ x)/\VR D θ b (ρ y):=by
 cases vs with
 | nil=>have:=h.length;simp at this
 | cons v vs =>
  obtain ⟨c,cs,h1,h2,h3⟩:=h.dn;simp only [km,List.map_nil,zn] at h1;obtain ⟨rfl,rfl⟩:=h1;obtain ⟨b,rfl,hb⟩:=bC.fT (ρ:=ρ) (x:=y) h3;exact ⟨v,b,rfl,h2,hb⟩
theorem bC.qJ {x y z:Operand} {vs:List AV} (h:bC D θ vs ([x,y,z].map ρ)):∃ a b c,vs=[a,b,c]/\VR D θ a (ρ x)/\VR D θ b (ρ y)/\VR D θ c (ρ z):=by
 cases vs with
 | nil=>have:=h.length;simp at this
 | cons v vs =>
  obtain ⟨c,cs,h1,h2,h3⟩:=h.dn;simp only [km,List.map_nil,zn] at h1;obtain ⟨rfl,rfl⟩:=h1;obtain ⟨a,b,rfl,ha,hb⟩:=bC.mA (ρ:=ρ) (x:=y) (y:=z) h3;exact ⟨v,a,b,rfl,h2,ha,hb⟩
theorem q2g {o:Oper} {x:Operand} (ho:o.op=.move x\/o.op=.assign x):cR P o [x] Op.move:=by
 intro D θ ρ w vs v h hf;obtain ⟨a,rfl,ha⟩:=bC.fT h;simp only [Op.move,qc] at hf;subst hf;refine ⟨ρ x,.inl ?_,ha⟩;rcases ho with ho|ho<;>simp [execOp,ho]
theorem q9x {o:Oper} {c a b:Operand} (ho:o.op=.pick c a b):cR P o [c,a,b] Op.pick:=by
 intro D θ ρ w vs v h hf;obtain ⟨q,x,y,rfl,hq,hx,hy⟩:=bC.qJ h;unfold Op.pick at hf;split at hf
 ·rename_i b' x' y' heq;injection heq with h1 h2;subst h1;injection h2 with h2 h3;subst h2;injection h3 with h3 _;subst h3
  injection hf with hf;subst hf
  have hb:ρ c=.bool b':=hq.now.symm;cases b'
  ·exact ⟨ρ b,.inl (by simp [execOp,ho,hb,asBool]),hy⟩
  ·exact ⟨ρ a,.inl (by simp [execOp,ho,hb,asBool]),hx⟩
 ·cases hf
theorem Au {o:Oper} {op:UnOp} {t:TypeId} {x:Operand} (ho:o.op=.unOp op t x):cR P o [x] (Op.un op):=by
 intro D θ ρ w vs v h hf;obtain ⟨a,rfl,ha⟩:=bC.fT h;simp only [Op.un,unV] at hf;have hr:=ha.now;split at hf
 ·rename_i k n;injection hf with hf;subst hf
  exact ⟨_,.inl (by simp [execOp,ho,<-hr,aD,Go.Op.unary,Go.Op.intArith]<;>rfl),.int _ _⟩
 ·rename_i k n;simp only [dJ] at hf;injection hf with hf;subst hf
  exact ⟨_,.inl (by simp [execOp,ho,<-hr,aD,Go.Op.unary,Go.Op.intBits]<;>rfl),.int _ _⟩
 ·injection hf with hf;subst hf
  exact ⟨_,.inl (by simp [execOp,ho,<-hr,aD,Go.Op.unary]),.bool _⟩
 ·cases hf
theorem q9y {o:Oper} {src dst:TypeId} {x:Operand} {k j:IntKind} (ho:o.op=.convert src dst x) (h1:P.underlying src=some (.int j)) (h2:P.underlying dst=some (.int k)):cR P o [x] (Op.wrap k):=by
 intro D θ ρ w vs v h hf;obtain ⟨a,rfl,ha⟩:=bC.fT h;have hr:=ha.now;unfold Op.wrap at hf;split at hf
 ·rename_i k' n heq;injection heq with heq;subst heq
  injection hf with hf;subst hf
  exact ⟨_,.inl (by simp [execOp,ho,<-hr,aD,convert,gT h1,gT h2,Conv.intToInt]<;>rfl),.int _ _⟩
 ·cases hf
theorem q31 {o:Oper} {f:FuncId} {a b:Array Operand} (ho:o.op=.makeFunc (.func f) a b):cR P o (a.toList++b.toList) (Op.cB f a.size):=by
 intro D θ ρ w vs v h hf;simp only [Op.cB,qc] at hf;subst hf;refine ⟨.func (.func f) (a.map ρ) (b.map ρ),.inl (by simp [execOp,ho,Instr.makeFunc]),λ θ' hg=>?_⟩;have h1:=(h.take a.size) θ' hg;have h2:=(h.drop a.size) θ' hg;simp only [aD,du,h1,h2];congr 1
 ·rw [BH,kc (by simp)];apply yP;simp [zw]
 ·rw [BH,kw (by simp)];apply yP;simp [List.drop_of_length_le]
theorem q2e {o:Oper} {x:Operand} {i:Nat} (ho:o.op=.extract x i):cR P o [x] (Op.extract i):=by
 intro D θ ρ w vs v h hf;obtain ⟨a,rfl,ha⟩:=bC.fT h;unfold Op.extract at hf;split at hf
 ·rename_i l heq;injection heq with heq;subst heq
  obtain ⟨cs,hc,hl⟩:=ha.qL;rw [iV] at hf;obtain ⟨c,hc1,hc2⟩:=hl.kG hf;exact ⟨c,.inl (by simp [execOp,ho,hc,Instr.extract,hc1]),hc2⟩
 ·cases hf
theorem Hs {o:Oper} {c:Call} {b:Builtin} (ho:o.op=.call c) (hc:c.callee=.builtin b) :
 ∃ consts,execOp ρ o=builtin b c.argTypes o.type consts (c.args.map ρ):=by
 refine ⟨c.args.map λ | .const _=>true|_=>false,?_⟩;simp only [execOp,ho,resolve,hc,invoke];rfl
theorem AU {c:Call} {xs:List Operand} (hx:c.args.toList=xs):c.args.map ρ = (xs.map ρ).toArray:=by
 subst hx;apply yP;simp
theorem bC.lF {xs:List Operand} {a:AV} (h:bC D θ [a] (xs.map ρ)):∃ x,xs=[x]/\VR D θ a (ρ x):=by
 have:=h.length
 match xs,this,h with
 | [x],_,h=>obtain ⟨_,heq,ha⟩:=bC.fT h;injection heq with heq _;subst heq;exact ⟨x,rfl,ha⟩
theorem bC.rb {xs:List Operand} {a b:AV} (h:bC D θ [a,b] (xs.map ρ)):∃ x y,xs=[x,y]/\VR D θ a (ρ x)/\VR D θ b (ρ y):=by
 have:=h.length
 match xs,this,h with
 | [x,y],_,h =>
  obtain ⟨_,_,heq,ha,hb⟩:=bC.mA h;injection heq with h1 h2;injection h2 with h2 _;subst h1;subst h2;exact ⟨x,y,rfl,ha,hb⟩
theorem NA (s:List UInt8):(⟨s.toArray⟩:ByteArray).size=s.length:=by simp [ByteArray.size]
theorem q63 {o:Oper} {c:Call} {xs:List Operand} {t e:TypeId} (ho:o.op=.call c) (hc:c.callee=.builtin .len) (hx:c.args.toList=xs) (ht:c.argTypes[0]? = some t)
 (hu:P.underlying t=some (.slice e)):cR P o xs Op.bB:=by
 intro D θ ρ w vs v h hf;obtain ⟨consts,he⟩:=Hs (ρ:=ρ) ho hc;unfold Op.bB at hf;split at hf
 ·obtain ⟨x,rfl,ha⟩:=h.lF;injection hf with hf;subst hf
  refine ⟨_,.inl ?_,.int _ _⟩;rw [he,AU hx];simp [builtin,Builtin.len_,gT hu,ht,<-ha.now,aD,goInt]<;>rfl
 ·obtain ⟨x,rfl,ha⟩:=h.lF;injection hf with hf;subst hf
  refine ⟨_,.inl ?_,.int _ _⟩;rw [he,AU hx];simp [builtin,Builtin.len_,gT hu,ht,<-ha.now,aD,goInt]<;>rfl
 ·obtain ⟨x,rfl,ha⟩:=h.lF;injection hf with hf;subst hf
  refine ⟨_,.inl ?_,.int _ _⟩;rw [he,AU hx];simp [builtin,Builtin.len_,gT hu,ht,<-ha.now,aD,goInt]<;>rfl
 ·obtain ⟨x,rfl,ha⟩:=h.lF;injection hf with hf;subst hf
  refine ⟨_,.inl ?_,.int _ _⟩;rw [he,AU hx];simp [builtin,Builtin.len_,gT hu,ht,<-ha.now,aD,goInt]<;>rfl
 ·cases hf
theorem q6q {op:BinOp} {k:IntKind} {a b:Int} {v:AV} (hs:cX op=false) (h:dJ op k a b=some v) (t:TypeId) :
 ∃ c,(binOp op t (.int k a) (.int k b)).run P w=.ok c w/\VR D θ v c:=by
 cases op<;>simp only [dJ,cX,qc,Aa,J6,yL,Bool.true_eq_false] at h hs
 case quo =>
  cases hb:(b == 0)<;>rw [hb] at h<;>simp at h;subst h;exact ⟨_,by simp [binOp,Go.Op.intDiv,by simpa using hb]<;>rfl,.int _ _⟩
 case rem =>
  cases hb:(b == 0)<;>rw [hb] at h<;>simp at h;subst h;exact ⟨_,by simp [binOp,Go.Op.intDiv,by simpa using hb]<;>rfl,.int _ _⟩
 all_goals
  subst h
  first|refine ⟨_,?_,VR.int _ _⟩|refine ⟨_,?_,VR.bool _⟩
  simp only [binOp,ne_eq,not_true_eq_false,qo,Go.Op.intBits,Go.Op.intArith,Go.Op.intCmp];rfl
theorem q09 (a b:List UInt8):bytesLess a b=Go.Op.bytesLess a b:=by
 induction a generalizing b with
 | nil=>cases b<;>rfl
 | cons x a ih=>cases b with
  | nil=>rfl
  | cons y b =>
   simp only [bytesLess,Go.Op.bytesLess,ih,t8];congr 1;rw [Bool.eq_iff_iff];simp [UInt8.lt_iff_toNat_lt]
theorem Li (s:List UInt8):(⟨s.toArray⟩:ByteArray).toList=s:=by rw [ByteArray.toList_eq]
theorem q7f {op:BinOp} {a b:List UInt8} {v:AV} (h:kY op a b=some v) (t:TypeId) :
 ∃ c,(binOp op t (.string ⟨a.toArray⟩) (.string ⟨b.toArray⟩)).run P w=.ok c w/\VR D θ v c:=by
 cases op<;>simp only [kY,qc,reduceCtorEq,FB,q09] at h
 case add =>
  cases hb:Nat.ble (a.length+b.length) 140737488355328<;>rw [hb] at h<;>simp at h;subst h;have hle:a.length+b.length<=140737488355328:=by simpa [wh] using hb
  refine ⟨.string (⟨a.toArray⟩++⟨b.toArray⟩),?_,λ θ' _=>?_⟩
  ·simp only [binOp,Go.Op.stringOp,NA,Sem.run_ite];rw [qd (by simp [IntKind.max,IntKind.bits,IntKind.signed];omega)];rfl
  ·show Value.string ⟨(a++b).toArray⟩=_;congr 1
 all_goals
  subst h;exact ⟨_,by simp [binOp,Go.Op.stringOp,Li]<;>rfl,.bool _⟩
theorem q5j {o:Oper} {op:BinOp} {t t':TypeId} {x y:Operand} (ho:o.op=.binOp op t x y t'):cR P o [x,y] (Op.bin op):=by
 intro D θ ρ w vs v h hf;obtain ⟨a,b,rfl,ha,hb⟩:=bC.mA h;simp only [Op.bin,jQ] at hf;have hra:=ha.now;have hrb:=hb.now;have guard:∀ (u u':Value),(∀ l,u ≠ .agg l)->u ≠ .nilIface->(eqGuard op t x y u u').run P w=.ok () w:=by
  intro u u' h1 h2;unfold eqGuard;cases u<;>cases op<;>simp_all
 split at hf
 ·rename_i k a k' b;cases hs:cX op
  ·rw [hs] at hf;simp only [zd,NJ] at hf
   by_cases hk:k=k'
   ·subst hk;simp only [decide_true,xe] at hf;obtain ⟨c,hc,hv⟩:=q6q (P:=P) (w:=w) (D:=D) (θ:=θ) hs hf t;refine ⟨c,.inl ?_,hv⟩;have hg:=guard (.int k a) (.int k b) (λ _=>by simp) (by simp);simp [execOp,ho,<-hra,<-hrb,aD,hg,hc]
   ·simp [hk] at hf
  ·rw [hs] at hf;simp only [xe,tT,J6] at hf
   by_cases hb0:b<0
   ·simp [hb0] at hf
   ·simp only [hb0,decide_false,zd] at hf;have hg:=guard (.int k a) (.int k' b) (λ _=>by simp) (by simp);cases op<;>simp only [cX,ya,Bool.true_eq_false] at hs
    all_goals
     injection hf with hf;subst hf
     exact ⟨_,.inl (by simp [execOp,ho,<-hra,<-hrb,aD,hg,binOp,Go.Op.shift,hb0]<;>rfl),.int _ _⟩
 ·rename_i a b;obtain ⟨c,hc,hv⟩:=q7f (P:=P) (w:=w) (D:=D) (θ:=θ) hf t;have hg:=guard (.string ⟨a.toArray⟩) (.string ⟨b.toArray⟩) (λ _=>by simp) (by simp);exact ⟨c,.inl (by simp [execOp,ho,<-hra,<-hrb,aD,hg,hc]),hv⟩
 ·cases hf
end
end Go.Am
namespace Go.Am
section
variable {P:Program} {D:Nat->Prop} {θ:Th} {ρ:Operand->Value} {w:World}
theorem JE {t:TypeId} {l:List AV} {cs:List Value} {off:Nat} {n:Option Nat} {v:AV} (hn:lE P t=some n) (hl:bC D θ l cs) (h:partAt l off n=some v) :
 ∃ c,(part t cs.toArray off).run P w=.ok c w/\VR D θ v c:=by
 obtain ⟨h1,h2⟩:=Jg (w:=w) hn;cases n with
 | none =>
  simp only [partAt,iV] at h;obtain ⟨c,hc,hv⟩:=hl.kG h;exact ⟨c,by simp [part,h1,hc],hv⟩
 | some k =>
  simp only [partAt,oZ] at h;split at h
  ·rename_i hk;injection h with h;subst h
   refine ⟨.agg ((cs.drop off).take k).toArray,?_,VR.agg ((hl.drop off).take k)⟩;have hlen:=hl.length;simp only [part,Sem.run_bind,h1,Result.andThen_ok,CB,qw,h2 k rfl];simp only [Sem.run_pure,Result.ok.injEq,Value.agg.injEq,lG];apply yP;simp [Array.toList_extract,List.extract,List.drop_take,ye]
  ·cases h
theorem q2v {i:Int} {n k:Nat} (h:within i n=some k):i=(k:Int)/\k<n:=by
 unfold within at h;cases i with
 | ofNat m =>
  simp only at h;cases hb:Nat.blt m n<;>rw [hb] at h
  ·cases h
  ·injection h with h;subst h;exact ⟨rfl,by simpa [nR] using hb⟩
 | negSucc m=>cases h
theorem qxu {o:Oper} {t:TypeId} {x:Operand} {i:Nat} {fs:Array Field} {f:Field} {n:Nat} (ho:o.op=.fieldAddr t x i) (ht:P.underlying t=some (.struct fs)) (hf:fs[i]? = some f) (hn:bO P f.type=some n) (hn0:n ≠ 0) :
 cR P o [x] (Op.fieldAddr f.offset):=by
 intro D θ ρ w vs v h hv;unfold Op.fieldAddr at hv;split at hv
 ·rename_i b ofs;obtain ⟨y,heq,ha⟩:=h.lF;injection heq with heq _;subst heq
  injection hv with hv;subst hv
  have hr:=ha.now;refine ⟨.pointer (some ⟨θ.bK b,θ.off b+ofs+f.offset,none⟩),.inl ?_,λ θ' hg=>?_⟩
  ·simp [execOp,ho,Instr.fieldAt,gT ht,hf,<-hr,aD,Instr.sureAddr,fieldPlace,oJ hn,hn0,p6]
  ·have:=ha θ' hg;rw [<-hr] at this;simp [aD] at this ⊢;omega
 ·cases hv
theorem qu4 {x:AV} {c:Value} {size j b o:Nat} (h:VR D θ x c) (he:elemAt size x j=some (b,o)) :
 ∃ n m,c=.slice (some ⟨θ.bK b,θ.off b+o-j*size,none⟩) n m/\j<n/\j*size<=o/\(∀ θ',Ag D θ θ' -> θ'.bK b = θ.bK b /\ θ'.off b+o = θ.off b+o):=by
 have hr:=h.now;unfold elemAt at he;split at he
 ·rename_i b' o' n' c';cases hb:Nat.blt j n'<;>rw [hb] at he
  ·cases he
  ·simp only [xe,qc,xq] at he;obtain ⟨rfl,rfl⟩:=he;refine ⟨n',c',?_,by simpa [nR] using hb,by omega,λ θ' ha=>?_⟩
   ·rw [<-hr];simp only [aD];congr 3;omega
   ·have:=h θ' ha;rw [<-hr] at this;simp only [aD,Value.slice.injEq,qc,Addr.mk.injEq] at this;omega
 ·rename_i b' i' m' s' alt' n';cases hb:(Nat.blt j n' && Nat.beq s' size && Nat.blt (i'+j) m')<;>rw [hb] at he
  ·cases he
  ·simp only [xe,qc,xq] at he;obtain ⟨rfl,rfl⟩:=he;simp only [xk,nR,zr] at hb;obtain ⟨⟨h1,rfl⟩,h3⟩:=hb;refine ⟨n',m'-i' + θ.ext b',?_,h1,by omega,λ θ' ha=>?_⟩
   ·rw [<-hr];simp only [aD];rw [qd (by omega)];congr 3;omega
   ·have:=h θ' ha;rw [<-hr] at this;simp only [aD,Value.slice.injEq,qc,Addr.mk.injEq] at this;rw [qd (by omega),qd (by omega)] at this;omega
 ·cases he
theorem q2f {o:Oper} {t e:TypeId} {x i:Operand} {size:Nat} (ho:o.op=.indexAddr t x i) (ht:P.underlying t=some (.slice e)) (hs:bO P e=some size) :
 cR P o [x,i] (Op.aS size):=by
 intro D θ ρ w vs v h hv;unfold Op.aS at hv;split at hv
 ·rename_i a k j;obtain ⟨y,z,heq,ha,hb⟩:=h.rb;injection heq with h1 h2;injection h2 with h2 _;subst h1;subst h2
  cases hl:dS a with
  | none=>rw [hl] at hv;cases hv
  | some n0 =>
   rw [hl] at hv;simp only [qi] at hv;cases hw:within j n0 with
   | none=>rw [hw] at hv;cases hv
   | some m =>
    rw [hw] at hv;simp only [qi] at hv;obtain ⟨rfl,hlt⟩:=q2v hw;cases he:elemAt size a m with
    | none=>rw [he] at hv;cases hv
    | some p =>
     obtain ⟨b,ofs⟩:=p;rw [he] at hv;injection hv with hv;subst hv
     obtain ⟨n,c,hc,hjn,hle,hst⟩:=qu4 ha he;refine ⟨.pointer (some ⟨θ.bK b,θ.off b+ofs,none⟩),.inl ?_,λ θ' hg=>?_⟩
     ·have hi:(0:Int)<=(m:Int)/\(m:Int)<(n:Int):=by omega
      have heq:θ.off b+ofs-m*size+m*size = θ.off b+ofs:=by omega
      simp [execOp,ho,Instr.indexAt,gT ht,hc,<-hb.now,aD,asIntOf,hi,oJ hs,p6,heq];intro hh;omega
     ·obtain ⟨h1,h2⟩:=hst θ' hg;simp only [aD,h1,h2]
 ·cases hv
theorem q0i {o:Oper} {t e:TypeId} {x i:Operand} {len size:Nat} (ho:o.op=.indexAddr t x i) (ht:P.underlying t=some (.array len e)) (hs:bO P e=some size) :
 cR P o [x,i] (Op.aY len size):=by
 intro D θ ρ w vs v h hv;unfold Op.aY at hv;split at hv
 ·rename_i b ofs k j;obtain ⟨y,z,heq,ha,hb⟩:=h.rb;injection heq with h1 h2;injection h2 with h2 _;subst h1;subst h2
  cases hw:within j len with
  | none=>rw [hw] at hv;cases hv
  | some m =>
   rw [hw] at hv;injection hv with hv;subst hv
   obtain ⟨rfl,hlt⟩:=q2v hw;have hi:(0:Int)<=(m:Int)/\(m:Int)<(len:Int):=by omega
   refine ⟨.pointer (some ⟨θ.bK b,θ.off b+ofs+m*size,none⟩),.inl ?_,λ θ' hg=>?_⟩
   ·simp [execOp,ho,Instr.indexAt,gT ht,<-ha.now,<-hb.now,aD,asIntOf,Instr.sureAddr,hi,oJ hs,p6];intro hh;omega
   ·have:=ha θ' hg;rw [<-ha.now] at this;simp [aD] at this ⊢;omega
 ·cases hv
theorem q0j {o:Oper} {x:Operand} (ho:o.op=.nilCheck x):cR P o [x] Op.nilCheck:=by
 intro D θ ρ w vs v h hv;obtain ⟨a,rfl,ha⟩:=bC.fT h;have hr:=ha.now;unfold Op.nilCheck at hv;split at hv
 ·cases hv
 ·cases hv
 ·cases hv
 ·rename_i f a1 b1 heq;injection heq with heq;subst heq
  injection hv with hv;subst hv
  exact ⟨ρ x,.inl (by simp [execOp,ho,<-hr,aD,du]),ha⟩
 ·cases hv
 ·rename_i a' h1 h2 h3 h4 h5 heq;injection heq with heq;subst heq
  injection hv with hv;subst hv
  refine ⟨ρ x,.inl ?_,ha⟩;have hρ:=hr.symm;clear hr ha h;cases a
  case nilp=>exact absurd rfl h1
  case nili=>exact absurd rfl h2
  case nilf=>exact absurd rfl h3
  case fn f' a' b'=>exact absurd rfl (h5 f' a' b')
  all_goals (simp only [aD] at hρ;simp [execOp,ho,hρ])
 ·cases hv
theorem q49 (off:Nat):∀ (cs:List Value) (j:Nat) (arr:List Value),off+j+cs.length<=arr.length ->
 ((cs.zipIdx j).foldl (λ acc (p:Value × Nat)=>acc.setIfInBounds (off+p.2) p.1) arr.toArray)=(arr.take (off+j)++cs++arr.drop (off+j+cs.length)).toArray
 | [],j,arr,_=>by simp
 | c::cs,j,arr,h=>by
  simp only [List.zipIdx_cons,F7,List.setIfInBounds_toArray];rw [q49 off cs (j+1) (arr.set (off+j) c) (by simp at h ⊢;omega)];congr 1;have ee:=list_seg_step arr (off+j) c cs (by simp at h ⊢;omega)
  simpa [vl] using ee
theorem q87 (off:Nat) (cs:Array Value) (arr:List Value) (h:off+cs.size<=arr.length) :
 (cs.zipIdx.foldl (λ acc (p:Value × Nat)=>acc.setIfInBounds (off+p.2) p.1) arr.toArray)=(arr.take off++cs.toList++arr.drop (off+cs.size)).toArray:=by
 have:=q49 off cs.toList 0 arr (by simpa using h);rw [<-Array.foldl_toList]
 simpa using this
theorem NQ:∀ (places:List (Nat × Nat)) (vs:List AV) (parts:List (Nat × Operand)) (pl:Nat->Option (Nat × Nat)) (out:List AV),
 tI pl parts=some places->bC D θ vs (parts.map λ p=>ρ p.2) -> ∀ (cells:List AV) (ccells:List Value),bC D θ cells ccells->fh cells places vs=some out ->
 ∃ cout:List Value,Instr.fill pl ccells.toArray (parts.map λ p=>(p.1,ρ p.2))=some cout.toArray/\bC D θ out cout:=by
 intro places vs parts
 induction parts generalizing places vs with
 | nil =>
  intro pl out hp hv cells ccells hc hf;simp only [tI,qc] at hp;subst hp;have:vs=[]:=by have:=hv.length;simp at this;exact List.eq_nil_of_length_eq_zero (by omega)
  subst this;simp only [fh,qc] at hf;subst hf;exact ⟨ccells,rfl,hc⟩
 | cons p parts ih =>
  intro pl out hp hv cells ccells hc hf;obtain ⟨i,x⟩:=p;simp only [tI] at hp;cases hpl:pl i with
  | none=>rw [hpl] at hp;cases hp
  | some q =>
   obtain ⟨off,size⟩:=q;rw [hpl] at hp;simp only [qi] at hp;cases hr:tI pl parts with
   | none=>rw [hr] at hp;cases hp
   | some l =>
    rw [hr] at hp;injection hp with hp;subst hp
    cases vs with
    | nil=>simp only [fh] at hf;cases hf
    | cons v vs =>
     obtain ⟨c,cs',h1,h2,h3⟩:=hv.dn;simp only [km,zn] at h1;obtain ⟨rfl,rfl⟩:=h1;simp only [fh,yS] at hf;cases hb:Nat.beq v.cells.length size
     ·rw [hb] at hf;cases hf
     ·rw [hb] at hf;simp only [xe,vW] at hf;have hcells:=h2.cells;have hlen:=hcells.length;have hsz:(ρ x).cells.size=size:=by rw [<-yq,hlen];simpa [zr] using hb
      split at hf
      ·rename_i hle;simp only [qi] at hf;have hcl:=hc.length;have hnew:bC D θ (cells.take off++v.cells++cells.drop (off+v.cells.length)) (ccells.take off++(ρ x).cells.toList++ccells.drop (off+v.cells.length)) :=
        ((hc.take off).app hcells).app (hc.drop _)
       obtain ⟨cout,h5,h6⟩:=ih l vs pl out hr h3 _ _ hnew hf;refine ⟨cout,?_,h6⟩;simp only [km,Instr.fill,hpl];rw [qd (by simp only [List.size_toArray];rw [hsz];rw [<-yq] at hsz;simp;omega)];rw [<-h5];congr 1;have hla:=q87 off (ρ x).cells ccells (by rw [<-yq];omega);rw [show v.cells.length=(ρ x).cells.size from by rw [<-yq];omega];exact hla
      ·cases hf
theorem q9q (parts:Array (Nat × Operand)):(parts.map λ (p:Nat × Operand)=>(p.1,ρ p.2)).toList=parts.toList.map λ p=>(p.1,ρ p.2):=by simp
theorem q0s (fs:Array Field) (hall:∀ f ∈ fs,∃ n,bO P f.type=some n) :
 ∃ pl:Array (Nat × Nat),(fs.mapM λ (f:Field)=>(do pure (f.offset,<-sizeOf f.type):Sem (Nat × Nat))).run P w=.ok pl w /\ ∀ i:Nat,pl[i]? = Ff P fs i:=by
 have key:∀ l:List Field,(∀ f ∈ l,∃ n,bO P f.type=some n) ->
  ∃ pl:List (Nat × Nat),(l.mapM λ (f:Field)=>(do pure (f.offset,<-sizeOf f.type):Sem (Nat × Nat))).run P w=.ok pl w /\ ∀ i:Nat,pl[i]? = (l[i]?).bind λ (f:Field)=>(bO P f.type).bind λ n=>some (f.offset,n):=by
  intro l
  induction l with
  | nil=>intro _;exact ⟨[],by simp,by simp⟩
  | cons f l ih =>
   intro hl;obtain ⟨n,hn⟩:=hl f (by simp);obtain ⟨pl,h1,h2⟩:=ih (λ g hg=>hl g (by simp [hg]));refine ⟨(f.offset,n)::pl,?_,λ i=>?_⟩
   ·simp only [List.mapM_cons,Sem.run_bind,oJ hn,Result.andThen_ok,Sem.run_pure,h1]
   ·cases i with
    | zero=>simp [hn]
    | succ i=>simpa using h2 i
 obtain ⟨pl,h1,h2⟩:=key fs.toList (λ f hf=>hall f (by simpa using hf));refine ⟨pl.toArray,?_,λ i=>?_⟩
 ·rw [Array.mapM_eq_mapM_toList];simp only [Sem.run_map,h1,Result.andThen_ok]
 ·simp [Ff,h2 i]
theorem qsa {o:Oper} {t:TypeId} {parts:Array (Nat × Operand)} {z:AV} {fs:Array Field} {ps:List (Nat × Nat)} (ho:o.op=.build t parts) (hz:zeroOf P t=some z)
 (ht:P.underlying t=some (.struct fs)) (hall:∀ f ∈ fs,∃ n,bO P f.type=some n) (hp:tI (Ff P fs) parts.toList=some ps):cR P o (parts.toList.map (·.2)) (Op.build z.cells ps):=by
 intro D θ ρ w vs v h hv;obtain ⟨zc,hz1,hz2⟩:=Gd (w:=w) hz;obtain ⟨pl,h1,h2⟩:=q0s (w:=w) fs hall;unfold Op.build at hv;cases hf:fh z.cells ps vs with
 | none=>rw [hf] at hv;cases hv
 | some out =>
  rw [hf] at hv;injection hv with hv;subst hv
  have h':bC D θ vs (parts.toList.map λ p=>ρ p.2):=by simpa [re,Function.comp_def] using h
  obtain ⟨cout,h3,h4⟩:=NQ (ρ:=ρ) ps vs parts.toList (Ff P fs) out hp h' z.cells zc.cells.toList (hz2 D θ).cells hf;refine ⟨.agg cout.toArray,.inl ?_,VR.agg h4⟩;have hpl:(λ i=>pl[i]?)=Ff P fs:=funext h2;simp only [execOp,ho,Instr.build,Sem.run_bind,hz1,Result.andThen_ok,gT ht,h1,hpl];have e:(parts.map λ (p:Nat × Operand)=>(p.1,ρ p.2)).toList=parts.toList.map λ p=>(p.1,ρ p.2):=by simp
  simp only [HO] at h3;simp [e,h3]
theorem qtv {o:Oper} {t e:TypeId} {parts:Array (Nat × Operand)} {z:AV} {len n:Nat} {ps:List (Nat × Nat)} (ho:o.op=.build t parts) (hz:zeroOf P t=some z)
 (ht:P.underlying t=some (.array len e)) (hn:bO P e=some n) (hp:tI (C1 n) parts.toList=some ps):cR P o (parts.toList.map (·.2)) (Op.build z.cells ps):=by
 intro D θ ρ w vs v h hv;obtain ⟨zc,hz1,hz2⟩:=Gd (w:=w) hz;unfold Op.build at hv;cases hf:fh z.cells ps vs with
 | none=>rw [hf] at hv;cases hv
 | some out =>
  rw [hf] at hv;injection hv with hv;subst hv
  have h':bC D θ vs (parts.toList.map λ p=>ρ p.2):=by simpa [re,Function.comp_def] using h
  obtain ⟨cout,h3,h4⟩:=NQ (ρ:=ρ) ps vs parts.toList (C1 n) out hp h' z.cells zc.cells.toList (hz2 D θ).cells hf;refine ⟨.agg cout.toArray,.inl ?_,VR.agg h4⟩;simp only [execOp,ho,Instr.build,Sem.run_bind,hz1,Result.andThen_ok,gT ht,oJ hn];have e:(parts.map λ (p:Nat × Operand)=>(p.1,ρ p.2)).toList=parts.toList.map λ p=>(p.1,ρ p.2):=by simp
  simp only [HO] at h3;have hpl:(λ i=>some (i*n,n))=C1 n:=rfl;simp [e,hpl,h3]
end
end Go.Am
namespace Go.Am
section
variable {P:Program} {D:Nat->Prop} {θ:Th} {ρ:Operand->Value} {w:World}
def iy (D:Nat->Prop) (θ:Th) (ρ:Operand->Value):Option Operand->Option AV->Prop
 | none,a=>a=none
 | some x,a=>∃ v,a=some v/\VR D θ v (ρ x)
theorem K4:∀ (opts:List (Option Operand)) (pre rest:List AV),bC D θ rest ((iv opts).map ρ) -> ∀ (j:Nat) (o:Option Operand) (idx:Option Nat),opts[j]? = some o->(eK pre.length opts)[j]? = some idx ->
 ∀ a,arg (pre++rest) idx=some a->iy D θ ρ o a
 | [],pre,rest,h,j,o,idx,ho,hi,a,ha=>by simp at ho
 | none::opts,pre,rest,h,j,o,idx,ho,hi,a,ha=>by
  cases j with
  | zero =>
   simp only [eK,ji,qc] at ho hi;subst ho;subst hi;simp only [arg,qc] at ha;exact ha.symm
  | succ j=>exact K4 opts pre rest h j o idx (by simpa using ho) (by simpa [eK] using hi) a ha
 | some x::opts,pre,rest,h,j,o,idx,ho,hi,a,ha=>by
  cases rest with
  | nil=>have:=h.length;simp [iv] at this
  | cons v rest =>
   obtain ⟨c,cs,h1,h2,h3⟩:=h.dn;simp only [iv,km,zn] at h1;obtain ⟨rfl,rfl⟩:=h1;cases j with
   | zero =>
    simp only [eK,ji,qc] at ho hi;subst ho;subst hi;simp only [arg,iV] at ha;rw [jo (qg _)] at ha;simp at ha;exact ⟨v,ha.symm,h2⟩
   | succ j =>
    refine K4 opts (pre ++ [v]) rest h3 j o idx (by simpa using ho) (by simpa [eK] using hi) a ?_
    simpa using ha
theorem NM {o:Option Operand} {a:Option AV} {d mx r:Nat} (h:iy D θ ρ o a) (hb:bound a d mx=some r) :
 (match o with
  | none=>r=d
  | some x=>(∀ code y,mx<=y->(Instr.sliceBound (ρ x) y code).run P w=.ok r w)/\r<=mx):=by
 cases o with
 | none =>
  simp only [iy] at h;subst h;simp only [bound,qc] at hb;exact hb.symm
 | some x =>
  obtain ⟨v,rfl,hv⟩:=h;unfold bound at hb;split at hb
  ·rename_i heq;cases heq
  ·rename_i k i heq;injection heq with heq;subst heq
   cases hle:Nat.ble i mx<;>rw [hle] at hb
   ·cases hb
   ·injection hb with hb;subst hb
    have hle':i<=mx:=by simpa [wh] using hle
    refine ⟨λ code y hy=>?_,hle'⟩;have hi:(0:Int)<=(i:Int)/\(i:Int)<=(y:Int):=by omega
    have hiy:i<=y:=by omega
    simp [Instr.sliceBound,<-hv.now,aD,asIntOf,hi,hiy]
  ·cases hb
theorem Hm {lo hi mx:Option Operand} {a b m:Option AV} {isS:Bool} {len cap low M Y h l:Nat} (ha:iy D θ ρ lo a) (hb:iy D θ ρ hi b) (hm:iy D θ ρ mx m)
 (hM:(mx=none/\M=cap) \/ ∃ d,bound m d low=some M/\low<=cap/\mx.isSome=true) (hY:Y<=M) (hh:bound b len Y=some h) (hl:bound a 0 h=some l) (hno:mx.isSome=true->hi.isSome=true) :
 (Instr.sliceBounds isS len cap (lo.map ρ) (hi.map ρ) (mx.map ρ)).run P w=.ok (l,h,M) w:=by
 have e2:=NM (P:=P) (w:=w) hb hh;have e3:=NM (P:=P) (w:=w) ha hl;cases mx with
 | none =>
  obtain ⟨_,rfl⟩|⟨_,_,_,h9⟩:=hM
  ·cases hi with
   | none =>
    simp only at e2;subst e2;cases lo with
    | none=>simp only at e3;subst e3;simp [Instr.sliceBounds]
    | some x=>simp [Instr.sliceBounds,e3.1 _ _ (qg _)]
   | some y =>
    cases lo with
    | none=>simp only at e3;subst e3;simp [Instr.sliceBounds,e2.1 _ _ hY]
    | some x=>simp [Instr.sliceBounds,e2.1 _ _ hY,e3.1 _ _ (qg _)]
  ·cases h9
 | some z =>
  obtain ⟨h9,_⟩|⟨d,h9,hlow,_⟩:=hM
  ·cases h9
  ·have e1:=NM (P:=P) (w:=w) hm h9;cases hi with
   | none=>simp at hno
   | some y =>
    cases lo with
    | none=>simp only at e3;subst e3;simp [Instr.sliceBounds,e1.1 _ _ hlow,e2.1 _ _ hY]
    | some x=>simp [Instr.sliceBounds,e1.1 _ _ hlow,e2.1 _ _ hY,e3.1 _ _ (qg _)]
theorem q6b (v:AV) (d d':Nat) {mx:Nat}:bound (some v) d mx=bound (some v) d' mx:=by
 cases v<;>try rfl
 rename_i k n;cases n<;>rfl
theorem Br {o:Option Operand} {a:Option AV} {d mx r:Nat} (h:iy D θ ρ o a) (hb:bound a d mx=some r) (hd:d<=mx):r<=mx:=by
 cases o with
 | none=>simp only [iy] at h;subst h;simp only [bound,qc] at hb;omega
 | some x =>
  obtain ⟨v,rfl,hv⟩:=h;unfold bound at hb;split at hb
  ·rename_i heq;cases heq
  ·rename_i k i heq;cases hle:Nat.ble i mx<;>rw [hle] at hb
   ·cases hb
   ·injection hb with hb;subst hb;simpa [wh] using hle
  ·cases hb
theorem xaf (lo hi mx:Option Operand):∃ i j k,eK 0 [lo,hi,mx]=[i,j,k]:=by cases lo<;>cases hi<;>cases mx<;>simp [eK]
theorem q7b {size:Nat} {x:AV} {c:Value} {lo hi mx:Option Operand} {a b m:Option AV} {v:AV} (hx:VR D θ x c) (ha:iy D θ ρ lo a) (hb:iy D θ ρ hi b) (hm:iy D θ ρ mx m) (hv:dh size x a b m=some v) :
 ∃ ad len cap l h M,c=.slice ad len cap/\(∀ isS,(Instr.sliceBounds isS len cap (lo.map ρ) (hi.map ρ) (mx.map ρ)).run P w=.ok (l,h,M) w) /\
  VR D θ v (.slice (if M=l then ad else ad.map (·.add (l*size))) (h-l) (M-l)):=by
 have hr:=hx.now;unfold dh at hv;split at hv
 ·-- nil
  split at hv
  ·rename_i mx';cases hh:bound b 0 0 with
   | none=>rw [hh] at hv;cases hv
   | some h =>
    rw [hh] at hv;simp only [qi] at hv;cases hl:bound a 0 h with
    | none=>rw [hl] at hv;cases hv
    | some l =>
     rw [hl] at hv;injection hv with hv;subst hv
     have hmx:mx=none:=by
      cases mx with
      | none=>rfl
      | some z=>obtain ⟨_,h9,_⟩:=hm;cases h9
     subst hmx;have h0:h=0/\l=0:=by
      have q2:=Br hb hh (qg _);have q3:=Br ha hl (zl _);omega
     obtain ⟨rfl,rfl⟩:=h0;refine ⟨none,0,0,0,0,0,hr.symm,λ isS=>Hm (low:=0) ha hb hm (.inl ⟨rfl,rfl⟩) (qg _) hh hl (by simp),λ θ' _=>by simp [aD]⟩
  ·cases hv
 ·-- a slice of a known capacity
  rename_i bb oo n cc;split at hv
  ·cases hv
  ·rename_i hnn;cases hM:bound m cc cc with
   | none=>rw [hM] at hv;cases hv
   | some M =>
    rw [hM] at hv;simp only [qi] at hv;cases hh:bound b n M with
    | none=>rw [hh] at hv;cases hv
    | some h =>
     rw [hh] at hv;simp only [qi] at hv;cases hl:bound a 0 h with
     | none=>rw [hl] at hv;cases hv
     | some l =>
      rw [hl] at hv;injection hv with hv;subst hv
      have hno:mx.isSome=true->hi.isSome=true:=by
       intro h9;cases mx with
       | none=>cases h9
       | some z =>
        obtain ⟨_,hz,_⟩:=hm;cases hi with
        | some _=>rfl
        | none=>simp only [iy] at hb;subst hb;exact absurd (hnn _ hz) (by simp)
      have hMM:(mx=none/\M=cc) \/ ∃ d,bound m d cc=some M/\cc<=cc/\mx.isSome=true:=by
       cases mx with
       | none=>simp only [iy] at hm;subst hm;simp only [bound,qc] at hM;exact .inl ⟨rfl,hM.symm⟩
       | some z=>exact .inr ⟨cc,hM,qg _,rfl⟩
      refine ⟨_,n,cc,l,h,M,hr.symm,λ isS=>Hm ha hb hm hMM (qg _) hh hl hno,λ θ' hg=>?_⟩;have hst:=hx θ' hg;rw [<-hr] at hst;simp only [aD,Value.slice.injEq,qc,Addr.mk.injEq] at hst ⊢
      by_cases e:M=l
      ·subst e;simp [Nat.beq_refl]<;>omega
      ·have e':Nat.beq M l=false:=by rw [Bool.eq_false_iff];simpa [zr] using e
       rw [e'];simp [e,p6]<;>omega
 ·-- a grown row's slice
  rename_i bb i m' s alt n;cases hc:(Nat.beq s size && Nat.ble i m')<;>rw [hc] at hv
  ·cases hv
  ·simp only [xk,zr,wh] at hc;obtain ⟨rfl,him⟩:=hc;simp only [xe] at hv;split at hv
   ·-- no third bound
    rename_i hi';have hmx:mx=none:=by
     cases mx with
     | none=>rfl
     | some z=>obtain ⟨_,h9,_⟩:=hm;cases h9
    subst hmx;cases hh:bound b n (m'-i) with
    | none=>rw [hh] at hv;cases hv
    | some h =>
     rw [hh] at hv;simp only [qi] at hv;cases hl:bound a 0 h with
     | none=>rw [hl] at hv;cases hv
     | some l =>
      rw [hl] at hv;simp only [qi] at hv;cases hb2:Nat.ble h (m'-i)<;>rw [hb2] at hv
      ·cases hv
      ·injection hv with hv;subst hv
       have hhm:h<=m'-i:=by simpa [wh] using hb2
       have hlh:=Br ha hl (zl _);refine ⟨_,n,_,l,h,_,hr.symm,λ isS=>Hm (low:=0) ha hb hm (.inl ⟨rfl,rfl⟩) (yZ _ _) hh hl (by simp),λ θ' hg=>?_⟩;have hst:=hx θ' hg;rw [<-hr] at hst;simp only [aD,Value.slice.injEq,qc,Addr.mk.injEq,lG,pe] at hst;obtain ⟨⟨q1,q2⟩,q3⟩:=hst;have hext:θ'.ext bb = θ.ext bb:=by omega
       have hmul:(i+l)*s=i*s+l*s:=kn i l s;simp only [aD,Value.slice.injEq,pe,hext,hmul];refine ⟨?_,by omega⟩
       by_cases e:m'-i + θ.ext bb=l
       ·rw [qm e,qm (by omega)];simp only [qc,Addr.mk.injEq,lG];refine ⟨q1,?_⟩;rw [hext] at q2
        by_cases l0:l=0
        ·subst l0;rw [qm e] at q2 ⊢;exact q2
        ·have:Nat.beq l 0=false:=by rw [Bool.eq_false_iff];simpa [zr] using l0
         rw [this];rw [qd (by omega)] at q2 ⊢;exact q2
       ·rw [qd e,qd (by omega)];simp only [FI,p6,qc,Addr.mk.injEq,lG];refine ⟨q1,?_⟩;rw [hext] at q2;rw [qd (by omega)] at q2 ⊢;omega
   ·cases hv
   ·-- a third bound
    rename_i hno1 hno2;cases hM:bound m 0 (m'-i) with
    | none=>rw [hM] at hv;cases hv
    | some M =>
     rw [hM] at hv;simp only [qi] at hv;cases hh:bound b 0 M with
     | none=>rw [hh] at hv;cases hv
     | some h =>
      rw [hh] at hv;simp only [qi] at hv;cases hl:bound a 0 h with
      | none=>rw [hl] at hv;cases hv
      | some l =>
       rw [hl] at hv;simp only [qi] at hv;cases hb2:Nat.beq M l<;>rw [hb2] at hv
       ·injection hv with hv;subst hv
        have hne:M ≠ l:=by intro e;subst e;simp at hb2
        obtain ⟨z,hz,hz2⟩:∃ z,mx=some z /\ ∃ v,m=some v:=by
         cases mx with
         | none=>simp only [iy] at hm;exact absurd hm hno1
         | some z=>obtain ⟨v,h9,_⟩:=hm;exact ⟨z,rfl,v,h9⟩
        obtain ⟨mv,hmv⟩:=hz2;have hhi:hi.isSome=true:=by
         cases hi with
         | some _=>rfl
         | none=>simp only [iy] at hb;exact absurd hb (hno2 _ hmv)
        have hMle:=Br hm hM (zl _);have hhM:=Br hb hh (zl _);have hlh:=Br ha hl (zl _);have hh':bound b n M=some h:=by
         obtain ⟨y,hy⟩:=Option.isSome_iff_exists.1 hhi;subst hy;obtain ⟨bv,h9,_⟩:=hb;subst h9;rw [q6b bv n 0];exact hh
        refine ⟨_,n,_,l,h,M,hr.symm,λ isS=>Hm ha hb hm (.inr ⟨0,hM,yZ _ _,by rw [hz];rfl⟩) (qg _) hh' hl (λ _=>hhi),λ θ' hg=>?_⟩;have hst:=hx θ' hg;rw [<-hr] at hst;simp only [aD,Value.slice.injEq,qc,Addr.mk.injEq,lG,pe] at hst;obtain ⟨⟨q1,q2⟩,q3⟩:=hst;have hext:θ'.ext bb = θ.ext bb:=by omega
        have hmul:(i+l)*s=i*s+l*s:=kn i l s;simp only [aD,Value.slice.injEq,lG,hmul,qd hne,FI,p6,qc,Addr.mk.injEq];refine ⟨q1,?_⟩;rw [hext,qd (by omega)] at q2;rw [qd (by omega)];omega
       ·cases hv
 ·-- a slice without room
  rename_i bb;split at hv
  ·rename_i mx';cases hh:bound b 0 0 with
   | none=>rw [hh] at hv;cases hv
   | some h =>
    rw [hh] at hv;simp only [qi] at hv;cases hl:bound a 0 h with
    | none=>rw [hl] at hv;cases hv
    | some l =>
     rw [hl] at hv;injection hv with hv;subst hv
     have hmx:mx=none:=by
      cases mx with
      | none=>rfl
      | some z=>obtain ⟨_,h9,_⟩:=hm;cases h9
     subst hmx;have h0:h=0/\l=0:=by
      have q2:=Br hb hh (qg _);have q3:=Br ha hl (zl _);omega
     obtain ⟨rfl,rfl⟩:=h0;refine ⟨_,0,0,0,0,0,hr.symm,λ isS=>Hm (low:=0) ha hb hm (.inl ⟨rfl,rfl⟩) (qg _) hh hl (by simp),λ θ' hg=>?_⟩;rw [hx θ' hg,<-hr];rfl
  ·cases hv
 ·cases hv
theorem q2h {o:Oper} {t e:TypeId} {x:Operand} {lo hi mx:Option Operand} {size:Nat} (ho:o.op=.slice t x lo hi mx) (ht:P.underlying t=some (.slice e)) (hs:bO P e=some size) :
 cR P o (x::iv [lo,hi,mx]) (Op.aR size (eK 0 [lo,hi,mx])):=by
 intro D θ ρ w vs v h hv;obtain ⟨i,j,k,hij⟩:=xaf lo hi mx;rw [hij] at hv;unfold Op.aR at hv;split at hv
 ·rename_i lo' hi' mx' y vs' heq;injection heq with e1 e2;injection e2 with e2 e3;injection e3 with e3 _;subst e1;subst e2;subst e3
  obtain ⟨c,cs,h1,h2,h3⟩:=h.dn;simp only [km,zn] at h1;obtain ⟨rfl,rfl⟩:=h1;have hargs:=λ (q:Nat) (oo:Option Operand) (idx:Option Nat) (h1:[lo,hi,mx][q]? = some oo) (h2:[i,j,k][q]? = some idx)=>K4 [lo,hi,mx] [] vs' h3 q oo idx h1 (by simpa [hij] using h2);cases ha:arg vs' i with
  | none=>rw [ha] at hv;cases hv
  | some a =>
   rw [ha] at hv;simp only [qi] at hv;cases hb:arg vs' j with
   | none=>rw [hb] at hv;cases hv
   | some b =>
    rw [hb] at hv;simp only [qi] at hv;cases hm:arg vs' k with
    | none=>rw [hm] at hv;cases hv
    | some m =>
     rw [hm] at hv;simp only [qi] at hv;obtain ⟨ad,len,cap,l,hh,M,hc,hrun,hvr⟩:=q7b (P:=P) (w:=w) h2 (hargs 0 lo i rfl rfl a ha) (hargs 1 hi j rfl rfl b hb) (hargs 2 mx k rfl rfl m hm) hv;refine ⟨_,.inl ?_,hvr⟩;simp [execOp,ho,Instr.sliceAt,gT ht,Instr.slice,hc,hrun,oJ hs]
 ·cases hv
theorem q9w {o:Oper} (xs:List Operand):cR P o xs Op.fail:=by
 intro D θ ρ w vs v _ hv;cases hv
end
end Go.Am
namespace Go.Am
def mG (P:Program) (o:Oper) (xs:List Operand) (f:List AV->AHeap->Option AV):Prop :=
 ∀ (base:Nat) (D:Nat->Prop) θ H (ρ:Operand->Value) w vs v,HR P base D θ H w->bC D θ vs (xs.map ρ)->f vs H=some v -> ∃ c,nx P (execOp ρ o) w c w/\VR D θ v c
section
variable {P:Program}
theorem q64 {o:Oper} {t:TypeId} {x:Operand} (ho:o.op=.load t x) (ht:lE P t=some none):mG P o [x] Op.aa:=by
 intro base D θ H ρ w vs v hh h hv;unfold Op.aa at hv;split at hv
 ·rename_i b off;obtain ⟨x',he,ha⟩:=h.lF;simp only [zn,lG] at he;subst he;obtain ⟨c,h1,h2⟩:=hh.aa hv;refine ⟨c,.inl ?_,h2⟩;obtain ⟨g1,_⟩:=Jg (w:=w) ht;simp only [execOp,ho,<-ha.now,aD,Instr.loadAt,Instr.sureAddr,loadVar,Sem.run_bind,Sem.run_pure,Result.andThen_ok,g1,GH,ya,qo,h1]
 ·cases hv
theorem q65 {o:Oper} {t:TypeId} {x:Operand} {n:Nat} (ho:o.op=.load t x) (ht:lE P t=some (some n)):mG P o [x] (Op.aq n):=by
 intro base D θ H ρ w vs v hh h hv;unfold Op.aq at hv;split at hv
 ·rename_i b off;obtain ⟨x',he,ha⟩:=h.lF;simp only [zn,lG] at he;subst he;cases hl:H.aq b off n with
  | none=>rw [hl] at hv;cases hv
  | some l =>
   rw [hl] at hv;injection hv with hv;subst hv
   obtain ⟨cs,h1,h2,_⟩:=hh.aq hl;refine ⟨.agg cs.toArray,.inl ?_,.agg h2⟩;obtain ⟨g1,g2⟩:=Jg (w:=w) ht;simp only [execOp,ho,<-ha.now,aD,Instr.loadAt,Instr.sureAddr,loadVar,Sem.run_bind,Sem.run_pure,Result.andThen_ok,g1,g2 n rfl,CB,qw,h1]
 ·cases hv
theorem HR.tB {base:Nat} {D:Nat->Prop} {θ:Th} {H:AHeap} {w:World} (h:HR P base D θ H w) {b:Nat} {m:List (AV × AV × Nat) × Nat} (hb:H.tB b=some m) :
 H.get b=some (.map m.1 m.2)/\D b /\ ∃ ms:List MapEntry,w.heap[θ.bK b]? = some (.map ms.toArray m.2)/\dE D θ m.1 ms:=by
 unfold AHeap.tB at hb;cases hg:H.get b with
 | none=>rw [hg] at hb;cases hb
 | some o =>
  rw [hg] at hb;obtain ⟨hd,co,hc,hr⟩:=h.obj b o hg;cases o<;>simp only [reduceCtorEq,qc] at hb;subst hb;obtain ⟨ms,h1,h2⟩:=hr;exact ⟨rfl,hd,ms,by rw [hc,h1],h2⟩
theorem dE.length {D:Nat->Prop} {θ:Th}:∀ (es:List (AV × AV × Nat)) (ms:List MapEntry),dE D θ es ms->es.length=ms.length
 | [],[],_=>rfl
 | _::es,_::ms,⟨_,h⟩=>by simp [dE.length es ms h]
 | [],_::_,h=>h.elim
 | _::_,[],h=>h.elim
theorem VR.isAgg {D:Nat->Prop} {θ:Th} {l:List AV} {c:Value} (h:VR D θ (.agg l) c):∃ cs:List Value,c=.agg cs.toArray/\bC D θ l cs:=h.fO
theorem q3k {t:TypeId} {fs:Array Field} (h:P.underlying t=some (.struct fs)):P.fieldsOf t=fs:=by
 simp [Program.fieldsOf,h]
theorem q6l {x y:AV} {r:Bool} (h:bm .int x y=some r):∃ k a b,x=.int k a/\y=.int k b/\r=(a == b):=by
 cases x<;>cases y<;>simp only [bm,reduceCtorEq] at h;rename_i k a k' b;cases hk:oa k k' with
 | false=>rw [hk] at h;cases h
 | true =>
  rw [hk] at h;simp only [xe,qc] at h;have:k=k':=by simpa [NJ] using hk
  subst this;exact ⟨k,a,b,rfl,rfl,by rw [<-h,Aa]⟩
theorem q6m {x y:AV} {r:Bool} (h:bm .str x y=some r):∃ a b,x=.str a/\y=.str b/\r=(a == b):=by
 cases x<;>cases y<;>simp only [bm,reduceCtorEq,qc] at h;exact ⟨_,_,rfl,rfl,by rw [<-h,FB]⟩
theorem q3j {x y:AV} {r:Bool} (h:bm .bool x y=some r):∃ a b,x=.bool a/\y=.bool b/\r=(a == b):=by
 cases x<;>cases y<;>simp only [bm,reduceCtorEq,qc] at h;exact ⟨_,_,rfl,rfl,h.symm⟩
theorem Jt {off:Nat} {n:Option Nat} {t rest:bW} {x y:AV} {r:Bool} (h:bm (.part off n t rest) x y=some r) :
 ∃ l l' a b q,x=.agg l/\y=.agg l'/\partAt l off n=some a/\partAt l' off n=some b/\bm t a b=some q/\(q=true->bm rest (.agg l) (.agg l')=some r)/\(q=false->r=false):=by
 cases x<;>cases y<;>simp only [bm,reduceCtorEq] at h;rename_i l l';simp only [qb] at h;obtain ⟨a,ha,b,hb,q,hq,h⟩:=h;refine ⟨l,l',a,b,q,rfl,rfl,ha,hb,hq,λ e=>?_,λ e=>?_⟩
 ·subst e;exact h
 ·subst e;simpa using h.symm
theorem JK {x y:AV} {r:Bool} (h:bm .nil x y=some r):r=true/\(∃ l,x=.agg l)/\(∃ l,y=.agg l):=by
 cases x<;>cases y<;>simp only [bm,reduceCtorEq,qc] at h;exact ⟨h.symm,⟨_,rfl⟩,⟨_,rfl⟩⟩
theorem qyc (s:Nat) (a:Option Nat) (q:bW) (n i:Nat) {x y:AV} {r:Bool} (h:bm (dN.itemsT s a q n i) x y=some r):(∃ l,x=.agg l)/\(∃ l,y=.agg l):=by
 cases n with
 | zero=>exact (JK h).2
 | succ n=>obtain ⟨l,l',_,_,_,h1,h2,_⟩:=Jt h;exact ⟨⟨l,h1⟩,⟨l',h2⟩⟩
theorem qu6 {go:TypeId->Option bW} {fs:List Field} {q:bW} (hq:dN.fieldsT P go fs=some q) {x y:AV} {r:Bool} (h:bm q x y=some r):(∃ l,x=.agg l)/\(∃ l,y=.agg l):=by
 cases fs with
 | nil=>injection hq with hq;subst hq;exact (JK h).2
 | cons f fs =>
  simp only [dN.fieldsT] at hq;split at hq
  ·cases hq
  ·simp only [qb] at hq;obtain ⟨a,_,q1,_,r1,_,hq⟩:=hq;injection hq with hq;subst hq
   obtain ⟨l,l',_,_,_,h1,h2,_⟩:=Jt h;exact ⟨⟨l,h1⟩,⟨l',h2⟩⟩
def tZ (P:Program) (w:World) (D:Nat->Prop) (θ:Th) (m:Nat) (t:TypeId) (q:bW):Prop :=
 ∀ (x y:AV) (cx cy:Value) (r:Bool),VR D θ x cx->VR D θ y cy->bm q x y=some r->(Op.equalIn m t cx cy).run P w=.ok r w
theorem qsk {w:World} {D:Nat->Prop} {θ:Th} {m:Nat} {go:TypeId->Option bW} (ih:∀ t q,go t=some q->tZ P w D θ m t q) {l l':List AV} {cs cs':List Value} (hl:bC D θ l cs) (hl':bC D θ l' cs') :
 ∀ (fs:List Field) (q:bW) (r:Bool),dN.fieldsT P go fs=some q->bm q (.agg l) (.agg l')=some r->(Op.eqFields m cs.toArray cs'.toArray fs).run P w=.ok r w
 | [],q,r,hq,h=>by
  injection hq with hq;subst hq
  rw [(JK h).1];simp [Op.eqFields]
 | f::fs,q,r,hq,h=>by
  simp only [dN.fieldsT] at hq;split at hq
  ·cases hq
  ·rename_i hn;simp only [qb] at hq;obtain ⟨a,ha,q1,hq1,r1,hr1,hq⟩:=hq;injection hq with hq;subst hq
   obtain ⟨l1,l2,x,y,e,h1,h2,h3,h4,h5,h6,h7⟩:=Jt h;injection h1 with h1;injection h2 with h2;subst h1;subst h2
   obtain ⟨c,p1,v1⟩:=JE (w:=w) ha hl h3;obtain ⟨c',p2,v2⟩:=JE (w:=w) ha hl' h4;have p3:=ih f.type q1 hq1 x y c c' e v1 v2 h5;simp only [Op.eqFields,hn,ne_eq,not_false_eq_true,qw,Sem.run_bind,p1,p2,p3,Result.andThen_ok];cases e
   ·simp [h7 rfl]
   ·simpa using qsk ih hl hl' fs r1 r hr1 (h6 rfl)
theorem qu5 {w:World} {D:Nat->Prop} {θ:Th} {m:Nat} {e:TypeId} {s:Nat} {a:Option Nat} {q:bW} (ha:lE P e=some a) (ih:tZ P w D θ m e q) {l l':List AV} {cs cs':List Value} (hl:bC D θ l cs) (hl':bC D θ l' cs') :
 ∀ (n i:Nat) (r:Bool),bm (dN.itemsT s a q n i) (.agg l) (.agg l')=some r->(Op.eqItems m e s cs.toArray cs'.toArray (List.range' i n)).run P w=.ok r w
 | 0,i,r,h=>by rw [(JK h).1];simp [Op.eqItems]
 | n+1,i,r,h=>by
  obtain ⟨l1,l2,x,y,b,h1,h2,h3,h4,h5,h6,h7⟩:=Jt h;injection h1 with h1;injection h2 with h2;subst h1;subst h2
  obtain ⟨c,p1,v1⟩:=JE (w:=w) ha hl h3;obtain ⟨c',p2,v2⟩:=JE (w:=w) ha hl' h4;have p3:=ih x y c c' b v1 v2 h5;simp only [List.range'_succ,Op.eqItems,Sem.run_bind,p1,p2,p3,Result.andThen_ok];cases b
  ·simp [h7 rfl]
  ·simpa using qu5 ha ih hl hl' n (i+1) r (h6 rfl)
theorem IW (m:Nat) {D:Nat->Prop} {θ:Th} (w:World):∀ (d:Nat) (t:TypeId) (q:bW),dN P d t=some q->tZ P w D θ (d+m) t q
 | 0,_,_,h=>by cases h
 | d+1,t,q,h=>by
  intro x y cx cy r hx hy hr;unfold dN at h;have ed:d+1+m=(d+m)+1:=by omega
  rw [ed];cases hu:P.underlying t with
  | none=>rw [hu] at h;cases h
  | some kd =>
   rw [hu] at h;cases kd
   case int k0 =>
    injection h with h;subst h
    obtain ⟨k,a,b,rfl,rfl,rfl⟩:=q6l hr;rw [<-hx.now,<-hy.now,aD,aD,run_equalIn_int w _ t k k0 a b hu]
   case string =>
    injection h with h;subst h
    obtain ⟨a,b,rfl,rfl,rfl⟩:=q6m hr;rw [<-hx.now,<-hy.now,aD,aD,run_equalIn_string w _ t _ _ hu,Li,Li]
   case bool =>
    injection h with h;subst h
    obtain ⟨a,b,rfl,rfl,rfl⟩:=q3j hr;rw [<-hx.now,<-hy.now,aD,aD,run_equalIn_bool' w _ t _ _ hu]
   case struct fs =>
    simp only at h;split at h
    ·cases h
    ·rename_i hst;have hst':P.stoodInHeld t=false:=by simpa using hst
     obtain ⟨⟨l,rfl⟩,⟨l',rfl⟩⟩:=qu6 h hr;obtain ⟨cs,rfl,hl⟩:=hx.fO;obtain ⟨cs',rfl,hl'⟩:=hy.fO;have hf:=q3k hu;rw [run_equalIn_struct w _ t _ _ (by rw [hf];exact hu) hst',hf];exact qsk (λ t q hq=>IW m w d t q hq) hl hl' _ _ _ h hr
   case array n e =>
    simp only [qb] at h;obtain ⟨s,hs,a,ha,q1,hq1,h⟩:=h;injection h with h;subst h
    obtain ⟨⟨l,rfl⟩,⟨l',rfl⟩⟩:=qyc _ _ _ _ _ hr;obtain ⟨cs,rfl,hl⟩:=hx.fO;obtain ⟨cs',rfl,hl'⟩:=hy.fO;obtain ⟨i,hi,his⟩:=qsq hs;rw [run_equalIn_array _ _ _ _ hu hi,List.range_eq_range'];have hc:P.cellsOf e=s:=by simp [Program.cellsOf,hi,his]
    rw [hc];exact qu5 ha (IW m w d e q1 hq1) hl hl' n 0 r hr
   all_goals (cases h)
theorem Cx {D:Nat->Prop} {θ:Th} {w:World} {t:TypeId} {q:bW} (h:IK P t=some q) {x y:AV} {cx cy:Value} {r:Bool} (hx:VR D θ x cx) (hy:VR D θ y cy) (hr:bm q x y=some r) :
 (Op.equal t cx cy).run P w=.ok r w:=IW 9980 w 20 t q h x y cx cy r hx hy hr
end
end Go.Am
namespace Go.Am
section
variable {P:Program} {base:Nat} {D:Nat->Prop} {θ:Th} {H:AHeap} {w:World}
def isStr:AV->Bool
 | .str _=>true
 | _=>false
theorem MX (hh:HR P base D θ H w) {x:AV} {c:Value} {size n k:Nat} {l:List AV} (hx:VR D θ x c) (hk:dS x=some k) (hn:n<=k) (hs:isStr x=false)
 (h:firstCells H size n x=some l):∃ a len cap,c=.slice a len cap/\len=k/\((a=none/\l=[]/\n=0/\k=0) \/
  ∃ ad cs,a=some ad/\(loadCells ad (n*size)).run P w=.ok cs.toArray w/\bC D θ l cs/\l.length=n*size):=by
 have hz:∀ a,(loadCells a 0).run P w=.ok ([]:List Value).toArray w:=λ a=>rfl;cases x<;>simp only [dS,reduceCtorEq,qc] at hk
 case str s=>cases hs
 case nils =>
  subst hk;simp only [firstCells,qc] at h;subst h;exact ⟨none,0,0,hx.now.symm,rfl,.inl ⟨rfl,rfl,by omega,rfl⟩⟩
 case slice b o n' cp =>
  subst hk;simp only [firstCells] at h;refine ⟨_,_,_,hx.now.symm,rfl,.inr ?_⟩;cases hb:Nat.beq n 0 with
  | true =>
   have:n=0:=by simpa using hb
   subst this;rw [hb] at h;injection h with h;subst h
   exact ⟨_,[],rfl,by simpa using hz _,.nil,by simp⟩
  | false =>
   rw [hb] at h;obtain ⟨cs,h1,h2,h3⟩:=hh.aq h;exact ⟨_,cs,rfl,h1,h2,h3⟩
 case eslice b =>
  subst hk;have:n=0:=by omega
  subst this;simp only [firstCells,Nat.beq,xe,qc] at h;subst h;exact ⟨_,_,_,hx.now.symm,rfl,.inr ⟨_,[],rfl,by simpa using hz _,.nil,by simp⟩⟩
 case gslice b i m s alt n' =>
  subst hk;simp only [firstCells] at h;refine ⟨_,_,_,hx.now.symm,rfl,.inr ?_⟩;cases hb:Nat.beq n 0 with
  | true =>
   have:n=0:=by simpa using hb
   subst this;rw [hb] at h;injection h with h;subst h
   exact ⟨_,[],rfl,by simpa using hz _,.nil,by simp⟩
  | false =>
   rw [hb] at h;simp only [zd] at h;cases hc:(Nat.beq s size && Nat.blt i m) with
   | false=>rw [hc] at h;cases h
   | true =>
    rw [hc] at h;simp only [xk,zr,nR] at hc;obtain ⟨rfl,hi⟩:=hc;obtain ⟨cs,h1,h2,h3⟩:=hh.aq h;refine ⟨_,cs,rfl,?_,h2,h3⟩;rw [qd (by omega)];exact h1
end
end Go.Am
namespace Go.Am
section
variable {P:Program} {base:Nat} {D:Nat->Prop} {θ:Th} {H:AHeap} {w:World}
theorem Mf {w:World} {r:Nat} {c:Array Value} {e:TypeId} {fz:Nat × Nat} (h:w.heap[r]? = some (.cells c e fz)):w.shape? r=some (e,c.size):=by
 simp [World.shape?,h]
theorem qtw {w:World} {r:Nat} {c:Array Value} {e:TypeId} {fz:Nat × Nat} (h:w.heap[r]? = some (.cells c e fz)):(viewAt r).run P w=.ok none w:=by
 simp [viewAt,Mf h]
theorem qmc {w:World} {a:Addr} {c:Array Value} {e:TypeId} {fz:Nat × Nat} (h:w.heap[a.block]? = some (.cells c e fz)):(noView a).run P w=.ok () w:=by
 simp [noView,qtw h]
theorem I8 {isN isS:AV->Bool} {x y:AV} {q:Bool} (h:mj isN isS x y=some q) :
 (isN x=true/\isN y=true/\q=true)\/(isN x=true/\isS y=true/\q=false)\/(isS x=true/\isN y=true/\q=false):=by
 unfold mj at h;cases h1:isN x<;>cases h2:isN y<;>cases h3:isS x<;>cases h4:isS y<;>simp_all
theorem Dx.not {cfz:Nat × Nat} (h:Dx (0,0) cfz) (i:Nat):¬ (cfz.1<=i/\i<cfz.2):=by
 rcases h with h|⟨_,h⟩<;>simp at *<;>omega
theorem q9v (hh:HR P base D θ H w) {b b' o o':Nat} (hne:b ≠ b') (h:pU H b b'=true) :
 (sameAddr ⟨θ.bK b,θ.off b+o,none⟩ ⟨θ.bK b',θ.off b'+o',none⟩).run P w=.ok false w:=by
 have key:∀ (k1 k2 o1 o2:Nat) (c1 c2:Array Value) (e1 e2:TypeId) (f1 f2:Nat × Nat),k1 ≠ k2->w.heap[k1]? = some (.cells c1 e1 f1)->w.heap[k2]? = some (.cells c2 e2 f2) ->
  ((∀ i,¬ (f1.1<=i/\i<f1.2))/\c2.size ≠ 0\/(∀ i,¬ (f2.1<=i/\i<f2.2))/\c1.size ≠ 0)->(sameAddr ⟨k1,o1,none⟩ ⟨k2,o2,none⟩).run P w=.ok false w:=by
  intro k1 k2 o1 o2 c1 c2 e1 e2 f1 f2 hk h1 h2 hc;have s1:=Mf h1;have s2:=Mf h2;have n1:(noView ⟨k1,o1,none⟩).run P w=_:=qmc h1;have n2:(noView ⟨k2,o2,none⟩).run P w=_:=qmc h2;have fr1:∀ i,w.frozen? ⟨k1,i,none⟩=(decide (f1.1<=i) && decide (i<f1.2)):=λ i=>by simp [World.frozen?,h1]
  have fr2:∀ i,w.frozen? ⟨k2,i,none⟩=(decide (f2.1<=i) && decide (i<f2.2)):=λ i=>by simp [World.frozen?,h2]
  have hkb:(k1 == k2)=false:=by simpa using hk
  rcases hc with ⟨hf,hz⟩|⟨hf,hz⟩
  ·have fz1:∀ i,w.frozen? ⟨k1,i,none⟩=false:=λ i=>by rw [fr1];have:=hf i;simp at this ⊢;omega
   simp only [sameAddr,Sem.run_bind,run_frozen,fz1,n1,n2,hkb,mayBeOne,stringish,run_shape,s1,s2,Sem.run_ite,Bool.false_and,ya,qo,Sem.run_pure,Result.andThen_ok];cases w.frozen? ⟨k2,o2,none⟩<;>simp [hz,s2]
  ·have fz2:∀ i,w.frozen? ⟨k2,i,none⟩=false:=λ i=>by rw [fr2];have:=hf i;simp at this ⊢;omega
   simp only [sameAddr,Sem.run_bind,run_frozen,fz2,n1,n2,hkb,mayBeOne,stringish,run_shape,s1,s2,Sem.run_ite,Bool.and_false,ya,qo,Sem.run_pure,Result.andThen_ok];cases w.frozen? ⟨k1,o1,none⟩<;>simp [hz,s1,s2,fz2]
 unfold pU at h;split at h
 ·rename_i c e x c' e' fz' ow' hb hb';obtain ⟨_,co,hc,pre,cs,post,cfz,et,rfl,h2,h3,h4⟩:=hh.obj b _ hb;obtain ⟨_,co',hc',pre',cs',post',cfz',et',rfl,h2',h3',h4'⟩:=hh.obj b' _ hb';refine key _ _ _ _ _ _ _ _ _ _ (hh.inj b b' _ _ hb hb' rfl hne) hc hc' (.inl ⟨(h4 rfl).2.2.2.not,?_⟩);have:=h3'.length;simp only [List.size_toArray,qu,jx] at this ⊢;omega
 ·rename_i c e fz ow c' e' hb hb';obtain ⟨_,co,hc,pre,cs,post,cfz,et,rfl,h2,h3,h4⟩:=hh.obj b _ hb;obtain ⟨_,co',hc',pre',cs',post',cfz',et',rfl,h2',h3',h4'⟩:=hh.obj b' _ hb';refine key _ _ _ _ _ _ _ _ _ _ (λ e=>hh.inj b' b _ _ hb' hb rfl (λ e=>hne e.symm) e.symm) hc hc' (.inr ⟨(h4' rfl).2.2.2.not,?_⟩);have:=h3.length;simp only [List.size_toArray,qu,jx] at this ⊢;omega
 ·cases h
def oQ (P:Program) (t:TypeId) (x y:Operand):oI->Prop
 | .bool=>P.underlying t=some .bool
 | .ptr=>∃ e n,P.underlying t=some (.pointer e)/\bO P e=some (n+1)
 | .slice=>∃ e,P.underlying t=some (.slice e)
 | .map=>∃ k e,P.underlying t=some (.map k e)
 | .func=>∃ a b c,P.underlying t=some (.func a b c)
 | .iface=>∃ ms,P.underlying t=some (.interface ms)/\((∃ v,x=.const v) \/ ∃ v,y=.const v)
 | .ifaces f=>(∃ ms,P.underlying t=some (.interface ms)) /\ ∀ u q,f u=some q->dN P 20 u=some q /\ ∃ i,P.info? u=some i/\i.comparable=true
 | .agg q=>P.eqGuardType P.depth t=false/\IK P t=some q/\((∃ fs,P.underlying t=some (.struct fs)) \/ ∃ n e,P.underlying t=some (.array n e))
set_option maxHeartbeats 2000000 in
theorem Cl (hh:HR P base D θ H w) {t:TypeId} {x y:Operand} {ρ:Operand->Value} {k:oI} (hk:oQ P t x y k) {a b:AV} (ha:VR D θ a (ρ x)) (hb:VR D θ b (ρ y)) {q:Bool}
 (h:Cr H k a b=some q) (op:BinOp) (hop:op=.eql\/op=.neq) :
 ((do eqGuard op t x y (ρ x) (ρ y);binOp op t (ρ x) (ρ y)):Sem Value).run P w=.ok (.bool (if op=.neq then !q else q)) w:=by
 have fin:(eqGuard op t x y (ρ x) (ρ y)).run P w=.ok () w->(Op.equal t (ρ x) (ρ y)).run P w=.ok q w->(binOp .eql t (ρ x) (ρ y)).run P w=((do pure (.bool (<-Op.equal t (ρ x) (ρ y)))):Sem Value).run P w ->
  (binOp .neq t (ρ x) (ρ y)).run P w=((do pure (.bool (!(<-Op.equal t (ρ x) (ρ y))))):Sem Value).run P w ->
  ((do eqGuard op t x y (ρ x) (ρ y);binOp op t (ρ x) (ρ y)):Sem Value).run P w=.ok (.bool (if op=.neq then !q else q)) w:=by
  intro h1 h2 h3 h4;rw [Sem.run_bind,h1,Result.andThen_ok];rcases hop with rfl|rfl
  ·rw [h3];simp [h2]
  ·rw [h4];simp [h2]
 obtain ⟨dd,e1,e0⟩:∃ d,(∀ p q,Op.equal t p q=Op.equalIn (d+1) t p q) /\ ∃ m,d=20+m:=⟨9999,λ _ _=>rfl,9979,rfl⟩
 cases k
 case bool =>
  cases a<;>cases b<;>simp only [Cr,reduceCtorEq,qc] at h;subst h;have hu:P.underlying t=some .bool:=hk;rw [<-ha.now,<-hb.now];rw [<-ha.now,<-hb.now] at fin;refine fin ?_ (run_equalIn_bool' w _ t _ _ hu) (by simp only [aD,binOp]) (by simp only [aD,binOp]);rcases hop with rfl|rfl<;>simp [eqGuard,aD]
 case ptr =>
  obtain ⟨e,n,hu,hs⟩:=hk;have hs':=oJ (w:=w) hs;have hq:(Op.equal t (ρ x) (ρ y)).run P w=.ok q w:=by
   cases a<;>cases b<;>simp only [Cr,reduceCtorEq,qc] at h
   ·subst h;rw [<-ha.now,<-hb.now,e1];simp [aD,Op.equalIn,gT hu]
   ·subst h;rw [<-ha.now,<-hb.now,e1];simp [aD,Op.equalIn,gT hu]
   ·subst h;rw [<-ha.now,<-hb.now,e1];simp [aD,Op.equalIn,gT hu]
   ·rename_i b1 o1 b2 o2;rw [<-ha.now,<-hb.now,e1];simp only [aD,Op.equalIn,Sem.run_bind,gT hu,Result.andThen_ok,hs',ne_eq,Nat.add_eq_zero_iff,Nat.succ_ne_zero,and_false,not_false_eq_true,qw];cases hbb:Nat.beq b1 b2 with
    | true =>
     rw [hbb] at h;have:b1=b2:=by simpa using hbb
     subst this;simp only [xe,qc] at h;subst h;simp only [sameAddr,beq_self_eq_true,qw,Sem.run_pure];congr 1
     by_cases ho:o1=o2
     ·subst ho;simp
     ·have:Nat.beq o1 o2=false:=by simpa [<-Bool.not_eq_true,zr] using ho
      rw [this];simp [ho]
    | false =>
     rw [hbb] at h;simp only [zd] at h;cases hp:pU H b1 b2 with
     | false=>rw [hp] at h;cases h
     | true =>
      rw [hp] at h;simp only [xe,qc] at h;subst h;have hne:b1 ≠ b2:=λ e=>by subst e;simp at hbb
      exact q9v hh hne hp
  cases a<;>cases b<;>simp only [Cr,reduceCtorEq,qc] at h <;>
   (rw [<-ha.now,<-hb.now] at hq ⊢;rw [<-ha.now,<-hb.now] at fin
    exact fin (by rcases hop with rfl|rfl<;>simp [eqGuard,aD]) hq (by simp only [aD,binOp]) (by simp only [aD,binOp]))
 case slice =>
  obtain ⟨e,hu⟩:=hk;have hc:=I8 h;cases a<;>cases b<;>simp [uV,isSlice] at hc <;>
   (subst hc;rw [<-ha.now,<-hb.now];rw [<-ha.now,<-hb.now] at fin
    exact fin (by rcases hop with rfl|rfl<;>simp [eqGuard,aD]) (by rw [e1];simp [aD,Op.equalIn,gT hu]) (by simp only [aD,binOp]) (by simp only [aD,binOp]))
 case map =>
  obtain ⟨k,e,hu⟩:=hk;have hc:=I8 h;cases a<;>cases b<;>simp [ud,isMap] at hc <;>
   (subst hc;rw [<-ha.now,<-hb.now];rw [<-ha.now,<-hb.now] at fin
    exact fin (by rcases hop with rfl|rfl<;>simp [eqGuard,aD]) (by rw [e1];simp [aD,Op.equalIn,gT hu]) (by simp only [aD,binOp]) (by simp only [aD,binOp]))
 case func =>
  obtain ⟨p1,p2,p3,hu⟩:=hk;have hc:=I8 h;cases a<;>cases b<;>simp [tP,Gq] at hc <;>
   (subst hc;rw [<-ha.now,<-hb.now];rw [<-ha.now,<-hb.now] at fin
    exact fin (by rcases hop with rfl|rfl<;>simp [eqGuard,aD]) (by rw [e1];simp [aD,Op.equalIn,gT hu]) (by simp only [aD,binOp]) (by simp only [aD,binOp]))
 case iface =>
  obtain ⟨ms,hu,hxy⟩:=hk;have hc:=I8 h;cases a<;>cases b<;>simp [ux,isIface] at hc <;>
   (subst hc;rw [<-ha.now,<-hb.now];rw [<-ha.now,<-hb.now] at fin
    exact fin (by rcases hop with rfl|rfl<;>rcases hxy with ⟨v,rfl⟩|⟨v,rfl⟩<;>simp [eqGuard,aD]) (by rw [e1];simp [aD,Op.equalIn,gT hu]) (by simp only [aD,binOp]) (by simp only [aD,binOp]))
 case ifaces f =>
  obtain ⟨⟨ms,hu⟩,hf⟩:=hk;cases a<;>cases b<;>simp only [Cr,reduceCtorEq,qc] at h
  ·rename_i t1 v1 t2 v2;obtain ⟨c1,hc1,hv1⟩:=ha.gO;obtain ⟨c2,hc2,hv2⟩:=hb.gO;rw [hc1,hc2] at fin ⊢;refine fin (by rcases hop with rfl|rfl<;>simp [eqGuard]) ?_ (by simp only [binOp]) (by simp only [binOp]);rw [e1];cases hbq:Nat.beq t1 t2 with
   | true =>
    rw [hbq] at h;simp only [zr] at hbq;subst hbq;simp only [xe,qb] at h;obtain ⟨tr,htr,h⟩:=h;obtain ⟨g1,i,g2,g3⟩:=hf _ _ htr;obtain ⟨m,rfl⟩:=e0;have hrun:=IW m (D:=D) (θ:=θ) w 20 t1 tr g1 v1 v2 c1 c2 q hv1 hv2 h;simp [Op.equalIn,gT hu,typeInfo,g2,g3,hrun]
   | false =>
    rw [hbq] at h;have hne:t1 ≠ t2:=λ e=>by subst e;simp at hbq
    simp only [zd,qc] at h;subst h;simp [Op.equalIn,gT hu,hne]
  ·subst h;rw [<-ha.now,<-hb.now];rw [<-ha.now,<-hb.now] at fin;exact fin (by rcases hop with rfl|rfl<;>simp [eqGuard,aD]) (by rw [e1];simp [aD,Op.equalIn,gT hu]) (by simp only [aD,binOp]) (by simp only [aD,binOp])
  ·subst h;rw [<-ha.now,<-hb.now];rw [<-ha.now,<-hb.now] at fin;exact fin (by rcases hop with rfl|rfl<;>simp [eqGuard,aD]) (by rw [e1];simp [aD,Op.equalIn,gT hu]) (by simp only [aD,binOp]) (by simp only [aD,binOp])
 case agg tr =>
  obtain ⟨hg,hkt,hu⟩:=hk;have hq:=Cx (w:=w) hkt ha hb h;have hagg:(∃ l,a=.agg l) /\ ∃ l,b=.agg l:=by
   have hkt:dN P (19+1) t=some tr:=hkt;rw [dN] at hkt;rcases hu with ⟨fs,hu⟩|⟨n,e,hu⟩
   ·rw [hu] at hkt;simp only at hkt;split at hkt
    ·cases hkt
    ·exact qu6 hkt h
   ·rw [hu] at hkt;simp only [qb] at hkt;obtain ⟨s,hs,a',ha',q1,hq1,hkt⟩:=hkt;injection hkt with hkt;subst hkt
    exact qyc _ _ _ _ _ h
  obtain ⟨⟨l,rfl⟩,⟨l',rfl⟩⟩:=hagg;obtain ⟨cs,h1,_⟩:=ha.fO;obtain ⟨cs',h2,_⟩:=hb.fO;rw [h1,h2] at hq fin ⊢;exact fin (run_eqGuard_agg w _ t x y _ _ hg) hq (by simp only [binOp]) (by simp only [binOp])
theorem q91 {o:Oper} {t t':TypeId} {x y:Operand} {k:oI} {neg:Bool} (ho:o.op=.binOp (if neg then .neq else .eql) t x y t') (hk:oQ P t x y k):mG P o [x,y] (Op.eq k neg):=by
 intro base D θ H ρ w vs v hh h hv;unfold Op.eq at hv;split at hv
 ·rename_i a b;obtain ⟨x',y',he,ha,hb⟩:=h.rb;simp only [zn,lG] at he;obtain ⟨rfl,rfl⟩:=he;simp only [qb] at hv;obtain ⟨q,hq,hv⟩:=hv;injection hv with hv;subst hv
  have:=Cl hh hk ha hb hq (if neg then .neq else .eql) (by cases neg<;>simp);refine ⟨_,.inl ?_,.bool _⟩;simp only [execOp,ho];rw [Sem.run_bind,this];cases neg<;>simp
 ·cases hv
end
end Go.Am
namespace Go.Am
structure ic (w w0:World):Prop where
 heap:w0.heap=w.heap
 os:w0.os=w.os
 tape:w0.tape=w.tape
 output:w0.output=w.output
theorem ic.refl (w:World):ic w w:=⟨rfl,rfl,rfl,rfl⟩
theorem ic.drew (w:World):ic w w.drew:=⟨rfl,rfl,rfl,rfl⟩
theorem ic.trans {a b c:World} (h:ic a b) (h':ic b c):ic a c:=⟨h'.heap.trans h.heap,h'.os.trans h.os,h'.tape.trans h.tape,h'.output.trans h.output⟩
def gP (P:Program) (o:Oper) (xs:List Operand) (f:List AV->Option (bN × (Nat->AV))):Prop :=
 ∀ (D:Nat->Prop) θ (ρ:Operand->Value) w vs ob mk,bC D θ vs (xs.map ρ)->f vs=some (ob,mk) ->
  own ob=true /\ ∃ w0 co ext c,(execOp ρ o).run P w=.ok (.value c) (w0.alloc co)/\ic w w0 /\
   ∀ (D':Nat->Prop) θ' id,Ag D θ θ'->(∀ b,D b->D' b)->D' id -> θ'.bK id=w.heap.size -> θ'.off id=0 -> θ'.ext id=ext->jN P D' θ' id ob co/\VR D' θ' (mk id) c
section
variable {P:Program}
theorem Kd {D':Nat->Prop} {θ':Th} {id:Nat} {cells:List AV} {cs:List Value} {e:TypeId} (h:bC D' θ' cells cs) (ho:θ'.off id=0) :
 jN P D' θ' id (.row cells e (0,0) true) (.cells cs.toArray e (0,0)) :=
 ⟨[],cs,[],(0,0),_,by simp,by simp [ho],h,λ _=>⟨rfl,rfl,rfl,.inl rfl⟩⟩
theorem q5h {D':Nat->Prop} {θ':Th} {id k:Nat} (hd:D' id) (hb:θ'.bK id=k) (ho:θ'.off id=0):VR D' θ' (Op.ptrTo id) (.pointer (some ⟨k,0,none⟩)):=by
 have:=VR.ptr (θ:=θ') (o:=0) hd;rw [hb,ho] at this;exact this
theorem qyg {D':Nat->Prop} {θ':Th} {id k n m:Nat} (hd:D' id) (hb:θ'.bK id=k) (ho:θ'.off id=0):VR D' θ' (Op.sliceTo n m id) (.slice (some ⟨k,0,none⟩) n m):=by
 have:=VR.slice (θ:=θ') (o:=0) (n:=n) (c:=m) hd;simp only [aD,hb,ho] at this;exact this
theorem q24 {o:Oper} {e:TypeId} {z:AV} (ho:o.op=.alloc e) (hz:zeroOf P e=some z):gP P o [] (Op.alloc e z.cells):=by
 intro D θ ρ w vs ob mk h hv;unfold Op.alloc at hv;split at hv
 ·injection hv with hv;injection hv with h1 h2;subst h1;subst h2
  obtain ⟨zc,hz1,hz2⟩:=Gd (w:=w) hz;refine ⟨rfl,w,.cells zc.cells e (0,0),0,.pointer (some ⟨w.heap.size,0,none⟩),?_,.refl w,λ D' θ' id ha hd hid hb hoff _=>⟨?_,q5h hid hb hoff⟩⟩
  ·simp [execOp,ho,Instr.alloc,hz1,newVar,newRow]
  ·have:=Kd (P:=P) (e:=e) (hz2 D' θ').cells hoff
   simpa using this
 ·cases hv
theorem q7w {o:Oper} {e:TypeId} {x:Operand} (ho:o.op=.box e x):gP P o [x] (Op.box e):=by
 intro D θ ρ w vs ob mk h hv;unfold Op.box at hv;split at hv
 ·rename_i v;obtain ⟨x',he,ha⟩:=h.lF;simp only [zn,lG] at he;subst he;injection hv with hv;injection hv with h1 h2;subst h1;subst h2
  refine ⟨rfl,w,.cells (ρ x).cells e (0,0),0,.pointer (some ⟨w.heap.size,0,none⟩),?_,.refl w,λ D' θ' id hg hd hid hb hoff _=>⟨?_,q5h hid hb hoff⟩⟩
  ·simp [execOp,ho,Instr.box,newVar,newRow]
  ·have:=Kd (P:=P) (e:=e) (ha.up hg hd).cells hoff
   simpa using this
 ·cases hv
theorem M7 {D:Nat->Prop} {θ:Th} {z:List AV} {zc:List Value} (h:bC D θ z zc) (n:Nat):bC D θ (dq n z) (List.replicate n zc).flatten:=by
 induction n with
 | zero=>exact .nil
 | succ n ih =>
  simp only [dq,jH,Ix,G2];exact h.app ih
theorem NT (zc:List Value) (n:Nat):((Array.range (n*zc.length)).map (λ i=>zc.toArray[i % zc.toArray.size]!))=(List.replicate n zc).flatten.toArray:=by
 apply yP;simp only [Array.toList_map,Array.toList_range,List.size_toArray]
 induction n with
 | zero=>simp
 | succ n ih =>
  rw [show (n+1)*zc.length=zc.length+n*zc.length from by rw [kn];omega,List.range_add,BH,re,Ix,G2];congr 1
  ·apply List.ext_getElem
   ·simp
   ·intro i h1 h2;simp at h1;simp [Nat.mod_eq_of_lt h1,h1]
  ·rw [<-ih];apply List.map_congr_left;intro i hi;simp
theorem qsx {o:Oper} {t e:TypeId} {len n:Nat} {parts:Array (Nat × Operand)} {z:AV} {ps:List (Nat × Nat)} (ho:o.op=.buildSlice t len parts) (hu:P.underlying t=some (.slice e))
 (hs:bO P e=some n) (hz:zeroOf P e=some z) (hp:tI (C1 n) parts.toList=some ps) (hzn:z.cells.length=n) (hbig:len*n<=16777216) :
 gP P o (parts.toList.map (·.2)) (Op.buildSlice e len z.cells ps):=by
 intro D θ ρ w vs ob mk h hv;simp only [Op.buildSlice,qb] at hv;obtain ⟨c,hc,hv⟩:=hv;injection hv with hv;injection hv with h1 h2;subst h1;subst h2
 obtain ⟨zc,hz1,hz2⟩:=Gd (w:=w) hz;have hzl:=(hz2 D θ).cells.length;have hnew:bC D θ (dq len z.cells) (List.replicate len zc.cells.toList).flatten:=M7 (hz2 D θ).cells len;have hv':bC D θ vs (parts.toList.map λ p=>ρ p.2):=by simpa [re,Function.comp_def] using h
 obtain ⟨cout,g1,g2⟩:=NQ ps vs parts.toList (C1 n) c hp hv' _ _ hnew hc;have hsize:zc.cells.size=n:=by rw [<-yq];omega
 refine ⟨rfl,w,.cells cout.toArray e (0,0),0,.slice (some ⟨w.heap.size,0,none⟩) len len,?_,.refl w,λ D' θ' id hg hd hid hb hoff _=>⟨Kd (g2.up hg hd) hoff,qyg hid hb hoff⟩⟩;have hzeros:=NT zc.cells.toList len;rw [show zc.cells.toList.length=n from by omega] at hzeros;simp only [HO] at hzeros;have hfill:Instr.fill (λ i=>some (i*n,n)) (((Array.range (len*n)).map (λ i=>zc.cells[i % zc.cells.size]!))) ((parts.map λ (p:Nat × Operand)=>(p.1,ρ p.2)).toList)=some cout.toArray:=by
  rw [hzeros,q9q];exact g1
 by_cases h0:len*n=0
 ·have hfill':Instr.fill (λ i=>some (i*n,n)) #[] ((parts.map λ (p:Nat × Operand)=>(p.1,ρ p.2)).toList)=some cout.toArray:=by
   rw [h0,show Array.range 0 = #[] from rfl] at hfill;simpa only [Array.map_empty] using hfill
  simp only [execOp,ho,Instr.buildSlice,Sem.run_bind,gT hu,Result.andThen_ok,oJ hs,h0,show Array.range 0 = #[] from rfl,Array.map_empty,qw,Sem.run_pure,hfill'];simp [newRow]
 ·have hb:¬ (len*n > 2 ^ 24):=by omega
  simp only [execOp,ho,Instr.buildSlice,Sem.run_bind,gT hu,Result.andThen_ok,oJ hs,h0,hb,qo,hz1,Sem.run_pure];simp only [hfill];simp [newRow]
theorem qyz {o:Oper} {t e:TypeId} {l c:Operand} {b n:Nat} {z:AV} (ho:o.op=.makeSlice t l c) (hu:P.underlying t=some (.slice e)) (hb:ij P e=some b)
 (hs:bO P e=some n) (hz:zeroOf P e=some z) (hzn:z.cells.length=n):gP P o [l,c] (Op.mkSlice e b z.cells):=by
 intro D θ ρ w vs ob mk h hv;unfold Op.mkSlice at hv;split at hv
 ·rename_i k1 i1 k2 i2;obtain ⟨x,y,he,ha,hb'⟩:=h.rb;simp only [zn,lG] at he;obtain ⟨rfl,rfl⟩:=he;cases hcond:(nd 0 i1 && nd i1 i2 && nd (i2*b) 140737488355328 && nd i2 140737488355328) with
  | false=>rw [hcond] at hv;cases hv
  | true =>
   rw [hcond] at hv;simp only [xe,qc,xq] at hv;obtain ⟨rfl,rfl⟩:=hv;simp only [xk,yL,CZ] at hcond;obtain ⟨⟨⟨c1,c2⟩,c3⟩,c4⟩:=hcond;obtain ⟨zc,hz1,hz2⟩:=Gd (w:=w) hz;have hzl:=(hz2 D θ).cells.length;have hsize:zc.cells.size=n:=by rw [<-yq];omega
   refine ⟨rfl,w,.cells (List.replicate i2.toNat zc.cells.toList).flatten.toArray e (0,0),0,.slice (some ⟨w.heap.size,0,none⟩) i1.toNat i2.toNat,?_,.refl w,
    λ D' θ' id hg hd hid hb hoff _=>⟨Kd (M7 ((hz2 D' θ').cells) _) hoff,qyg hid hb hoff⟩⟩
   have w1:IntKind.i64.wrap i1=i1:=by simp [IntKind.wrap,IntKind.signed,IntKind.bits];omega
   have w2:IntKind.i64.wrap i2=i2:=by simp [IntKind.wrap,IntKind.signed,IntKind.bits];omega
   have hbt:∃ i,P.info? e=some i/\i.bytes=b:=by
    unfold ij at hb;cases hi:P.info? e with
    | none=>rw [hi] at hb;cases hb
    | some i=>rw [hi] at hb;injection hb with hb;exact ⟨i,rfl,hb⟩
   obtain ⟨inf,hi,rfl⟩:=hbt;have hzeros:=NT zc.cells.toList i2.toNat;rw [show zc.cells.toList.length=n from by omega] at hzeros;simp only [HO] at hzeros;have t2:¬ (i2<0):=by omega
   have t3:¬ ((inf.bytes:Int)*i2 > 2 ^ 48):=by rw [Int.mul_comm];omega
   have t4:¬ (i1<0):=by omega
   have t5:¬ (i1 > i2):=by omega
   have t6:¬ (i2.toNat*inf.bytes > roomBytes):=by
    have:((i2.toNat*inf.bytes:Nat):Int)=i2*inf.bytes:=by rw [Int.natCast_mul];congr 1;omega
    unfold roomBytes;omega
   have t7:(2:Int) ^ 48=281474976710656:=by decide
   simp only [execOp,ho,<-ha.now,<-hb'.now,aD,Instr.makeSlice,Sem.run_bind,gT hu,Result.andThen_ok,asInt,asIntOf,Sem.run_pure,typeInfo,run_program,hi,w1,w2,oJ hs]
   by_cases h0:i2.toNat*n=0
   ·have hzeros':(List.replicate i2.toNat zc.cells.toList).flatten.toArray = #[]:=by rw [<-hzeros,h0,show Array.range 0 = #[] from rfl,Array.map_empty]
    simp only [t2,t3,t4,t5,t6,h0,askRoom,hzeros',decide_false,decide_true,Bool.or_self,ya,qo,qw,Sem.run_bind,Sem.run_pure,Result.andThen_ok,oJ hs,show Array.range 0 = #[] from rfl,Array.map_empty];simp [newRow]
   ·simp only [t2,t3,t4,t5,t6,h0,askRoom,decide_false,decide_true,Bool.or_self,ya,qo,qw,Sem.run_bind,Sem.run_pure,Result.andThen_ok,oJ hs,hz1,hzeros];simp [newRow]
 ·cases hv
end
end Go.Am
