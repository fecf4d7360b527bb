/- B1: Defs Exec Comp Lists Rel Heap Pure Pure2 Pure3 Reads Reads2 Reads3 Allocs. -/
import GoSem.Step
import Derived.CallsIn
import Derived.WalkKit
import Derived.WalkLawsBesides
import Derived.Lib.Strings
import Derived.Lib.Bytealg
import Derived.DeepKeys3
import Derived.Laws.Cover3
import Derived.Laws.Pointers
import Derived.Room.MakeNoZero
import Derived.Laws.IdiomStrings
set_option linter.unusedVariables false
set_option linter.unusedSimpArgs false
namespace Go.Am
theorem qb:type_of% @Option.bind_eq_some_iff:=@Option.bind_eq_some_iff
theorem qc:type_of% @Option.some.injEq:=@Option.some.injEq
theorem qe:type_of% @List.getElem?_eq_some_iff:=@List.getElem?_eq_some_iff
theorem qf:type_of% @Nat.le_refl:=@Nat.le_refl
theorem qg:type_of% @if_neg:=@if_neg
theorem qh:type_of% @Nat.add_zero:=@Nat.add_zero
theorem qj:type_of% @Option.bind_some:=@Option.bind_some
theorem qk:type_of% @Nat.lt_of_lt_of_le:=@Nat.lt_of_lt_of_le
theorem ql:type_of% @if_pos:=@if_pos
theorem qm:type_of% @List.getElem?_set_ne:=@List.getElem?_set_ne
theorem qo:type_of% @if_false:=@if_false
theorem qu:type_of% @List.getElem?_set_self:=@List.getElem?_set_self
theorem qv:type_of% @List.length_set:=@List.length_set
theorem qx:type_of% @List.length_append:=@List.length_append
theorem qy:type_of% @List.getElem?_eq_getElem:=@List.getElem?_eq_getElem
theorem xa:type_of% @if_true:=@if_true
theorem xc:type_of% @eq_true:=@eq_true
theorem xe:type_of% @Option.map_eq_some_iff:=@Option.map_eq_some_iff
theorem xf:type_of% @cond_true:=@cond_true
theorem xg:type_of% @List.getElem?_map:=@List.getElem?_map
theorem xh:type_of% @Bool.and_eq_true:=@Bool.and_eq_true
theorem xj:type_of% @Nat.le_trans:=@Nat.le_trans
theorem xl:type_of% @List.mem_singleton:=@List.mem_singleton
theorem xn:type_of% @Prod.mk.injEq:=@Prod.mk.injEq
theorem xt:type_of% @List.append_nil:=@List.append_nil
theorem xu:type_of% @List.length_map:=@List.length_map
theorem xw:type_of% @List.mem_append:=@List.mem_append
theorem xx:type_of% @Nat.zero_le:=@Nat.zero_le
theorem xz:type_of% @List.getElem?_eq_none:=@List.getElem?_eq_none
theorem x9:type_of% @Int.toNat_natCast:=@Int.toNat_natCast
theorem za:type_of% @cond_false:=@cond_false
theorem zb:type_of% @List.length_replicate:=@List.length_replicate
theorem ze:type_of% @Nat.lt_succ_self:=@Nat.lt_succ_self
theorem zf:type_of% @List.append_assoc:=@List.append_assoc
theorem zg:type_of% @List.mem_of_getElem?:=@List.mem_of_getElem?
theorem zi:type_of% @List.cons.injEq:=@List.cons.injEq
theorem zj:type_of% @List.take_of_length_le:=@List.take_of_length_le
theorem zk:type_of% @List.getElem?_cons_succ:=@List.getElem?_cons_succ
theorem zl:type_of% @Classical.byContradiction:=@Classical.byContradiction
theorem zn:type_of% @List.nil_append:=@List.nil_append
theorem zp:type_of% @Nat.beq_eq:=@Nat.beq_eq
theorem zr:type_of% @List.mem_cons:=@List.mem_cons
theorem zt:type_of% @Nat.lt_or_ge:=@Nat.lt_or_ge
theorem zu:type_of% @Bool.and_self:=@Bool.and_self
theorem zx:type_of% @List.flatMap_cons:=@List.flatMap_cons
theorem ja:type_of% @List.length_take:=@List.length_take
theorem jb:type_of% @Int.eq_ofNat_of_zero_le:=@Int.eq_ofNat_of_zero_le
theorem jd:type_of% @List.flatMap_append:=@List.flatMap_append
theorem je:type_of% @List.getElem?_cons_zero:=@List.getElem?_cons_zero
theorem jg:type_of% @List.getElem?_append_right:=@List.getElem?_append_right
theorem jh:type_of% @List.drop_eq_nil_of_le:=@List.drop_eq_nil_of_le
theorem ji:type_of% @Iff.rfl:=@Iff.rfl
theorem jj:type_of% @Option.bind_assoc:=@Option.bind_assoc
theorem jl:type_of% @Nat.mul_le_mul_right:=@Nat.mul_le_mul_right
theorem jm:type_of% @List.length_eq_zero_iff:=@List.length_eq_zero_iff
theorem jo:type_of% @Array.getD_eq_getD_getElem?:=@Array.getD_eq_getD_getElem?
theorem jp:type_of% @List.ext_getElem?:=@List.ext_getElem?
theorem jq:type_of% @List.length_range:=@List.length_range
theorem ju:type_of% @List.length_drop:=@List.length_drop
theorem jv:type_of% @List.take_append_of_le_length:=@List.take_append_of_le_length
theorem jw:type_of% @Array.getElem?_eq_some_iff:=@Array.getElem?_eq_some_iff
theorem jy:type_of% @Nat.zero_add:=@Nat.zero_add
theorem j4:type_of% @Nat.add_mul:=@Nat.add_mul
theorem j5:type_of% @Nat.le_succ:=@Nat.le_succ
theorem j6:type_of% @Array.getElem?_toList:=@Array.getElem?_toList
theorem j7:type_of% @List.getElem?_append_left:=@List.getElem?_append_left
theorem kc:type_of% @List.getElem?_take:=@List.getElem?_take
theorem kh:type_of% @List.map_cons:=@List.map_cons
theorem ki:type_of% @List.getElem?_of_mem:=@List.getElem?_of_mem
theorem kn:type_of% @List.drop_append_of_le_length:=@List.drop_append_of_le_length
theorem ko:type_of% @Bool.false_eq_true:=@Bool.false_eq_true
theorem kq:type_of% @List.getElem?_drop:=@List.getElem?_drop
theorem kr:type_of% @List.take_append_drop:=@List.take_append_drop
theorem kt:type_of% @Nat.add_sub_cancel_left:=@Nat.add_sub_cancel_left
theorem ku:type_of% @List.getElem?_range:=@List.getElem?_range
theorem kx:type_of% @Nat.add_assoc:=@Nat.add_assoc
theorem ky:type_of% @List.length_cons:=@List.length_cons
theorem yc:type_of% @Array.length_toList:=@Array.length_toList
theorem yg:type_of% @Array.getElem?_setIfInBounds:=@Array.getElem?_setIfInBounds
theorem yj:type_of% @Bool.or_eq_true:=@Bool.or_eq_true
theorem yk:type_of% @Nat.eq_of_beq_eq_true:=@Nat.eq_of_beq_eq_true
theorem yl:type_of% @Nat.zero_mul:=@Nat.zero_mul
theorem yp:type_of% @List.drop_append:=@List.drop_append
theorem yq:type_of% @List.take_add_one:=@List.take_add_one
theorem yr:type_of% @Nat.ble_eq:=@Nat.ble_eq
theorem yt:type_of% @Ne.symm:=@Ne.symm
theorem yx:type_of% @List.mem_cons_of_mem:=@List.mem_cons_of_mem
theorem yz:type_of% @Nat.succ_mul:=@Nat.succ_mul
theorem y9:type_of% @Decidable.byContradiction:=@Decidable.byContradiction
theorem va:type_of% @List.mem_filter:=@List.mem_filter
theorem vg:type_of% @Classical.not_not:=@Classical.not_not
theorem vh:type_of% @List.length_filter_le:=@List.length_filter_le
theorem vq:type_of% @List.length_nil:=@List.length_nil
theorem vv:type_of% @List.mem_cons_self:=@List.mem_cons_self
theorem vx:type_of% @List.set_eq_take_append_cons_drop:=@List.set_eq_take_append_cons_drop
theorem we:type_of% @Nat.blt_eq:=@Nat.blt_eq
theorem wg:type_of% @List.all_eq_true:=@List.all_eq_true
theorem wh:type_of% @Nat.le_add_right:=@Nat.le_add_right
theorem wq:type_of% @Option.getD_some:=@Option.getD_some
theorem wx:type_of% @Int.tdiv_eq_ediv_of_nonneg:=@Int.tdiv_eq_ediv_of_nonneg
theorem Af:type_of% @decide_eq_true:=@decide_eq_true
theorem td:type_of% @List.map_map:=@List.map_map
theorem AO:type_of% @decide_eq_false:=@decide_eq_false
theorem DX:type_of% @Option.isSome_some:=@Option.isSome_some
theorem Jx:type_of% @List.getElem?_replicate:=@List.getElem?_replicate
theorem Ai:type_of% @Nat.lt_irrefl:=@Nat.lt_irrefl
theorem BW:type_of% @List.take_zero:=@List.take_zero
theorem Jv:type_of% @Nat.ne_of_beq_eq_false:=@Nat.ne_of_beq_eq_false
theorem od:type_of% @and_true:=@and_true
theorem Ep:type_of% @List.cons_append:=@List.cons_append
theorem CZ:type_of% @List.drop_drop:=@List.drop_drop
theorem HF:type_of% @Array.toArray_toList:=@Array.toArray_toList
theorem Gr:type_of% @Bool.not_eq_true':=@Bool.not_eq_true'
theorem Fj:type_of% @List.foldl_cons:=@List.foldl_cons
theorem Ef:type_of% @List.map_append:=@List.map_append
theorem FI:type_of% @Nat.le_succ_of_le:=@Nat.le_succ_of_le
theorem F9:type_of% @Nat.lt_succ_of_lt:=@Nat.lt_succ_of_lt
theorem GS:type_of% @decide_eq_true_eq:=@decide_eq_true_eq
theorem Ht:type_of% @Int.toNat_of_nonneg:=@Int.toNat_of_nonneg
theorem JV:type_of% @List.drop_succ_cons:=@List.drop_succ_cons
theorem IK:type_of% @List.replicate_succ:=@List.replicate_succ
theorem Gk:type_of% @List.take_append:=@List.take_append
theorem Gw:type_of% @List.take_length:=@List.take_length
theorem JR:type_of% @List.filter_append:=@List.filter_append
theorem JU:type_of% @Option.isSome_none:=@Option.isSome_none
theorem A9:type_of% @Nat.mul_one:=@Nat.mul_one
theorem GR:type_of% @Option.map_some:=@Option.map_some
theorem Jo:type_of% @List.flatten_cons:=@List.flatten_cons
theorem GP:type_of% @List.drop_zero:=@List.drop_zero
theorem FC:type_of% @List.mem_range:=@List.mem_range
theorem IU:type_of% @List.flatMap_nil:=@List.flatMap_nil
theorem sr:type_of% @or_false:=@or_false
theorem sy:type_of% @true_and:=@true_and
theorem B6:type_of% @Array.ext':=@Array.ext'
theorem DD:type_of% @List.mem_map:=@List.mem_map
theorem D5:type_of% @Nat.ne_of_lt:=@Nat.ne_of_lt
theorem E5:type_of% @Nat.sub_zero:=@Nat.sub_zero
theorem AN:type_of% @beq_iff_eq:=@beq_iff_eq
inductive T (α:Type) where
 | nil
 | node (l:T α) (v:Option α) (r:T α)
noncomputable section
namespace T
variable {α:Type}
def l:T α->T α
 | .nil=>.nil
 | .node a _ _=>a
def r:T α->T α
 | .nil=>.nil
 | .node _ _ b=>b
def val:T α->Option α
 | .nil=>none
 | .node _ v _=>v
def path (i:Nat):List Bool:=go i i
 where go:Nat->Nat->List Bool
 | 0,_=>[]
 | f+1,i=>match i with
  | 0=>[]
  | n+1=>Nat.beq (Nat.mod n 2) 0::go f (Nat.div n 2)
def rb:List Bool->T α->Option α
 | [],t=>t.val
 | b::p,t=>rb p (cond b t.l t.r)
def pq (v:Option α):List Bool->T α->T α
 | [],t=>.node t.l v t.r
 | b::p,t=>cond b (.node (pq v p t.l) t.val t.r) (.node t.l t.val (pq v p t.r))
def get (t:T α) (i:Nat):Option α:=rb (path i) t
def put (t:T α) (i:Nat) (v:Option α):T α:=pq v (path i) t
def set (t:T α) (i:Nat) (v:α):T α:=t.put i (some v)
structure Get (α:Type) where
 run:T α->Option α
structure Put (α:Type) where
 run:Option α->T α->T α
def kN:List Bool->Get α
 | []=>⟨val⟩
 | true::p=>⟨λ t=>(kN p).run t.l⟩
 | false::p=>⟨λ t=>(kN p).run t.r⟩
def sN:List Bool->Put α
 | []=>⟨λ v t=>.node t.l v t.r⟩
 | true::p=>⟨λ v t=>.node ((sN p).run v t.l) t.val t.r⟩
 | false::p=>⟨λ v t=>.node t.l t.val ((sN p).run v t.r)⟩
end T
def nth {α:Type} (l:List α):Nat->Option α :=
 List.rec (motive:=λ _=>Nat->Option α) (λ _=>none) (λ x _ ih i=>Nat.rec (motive:=λ _=>Option α) (some x) (λ n _=>ih n) i) l
def gK {α:Type} (a b:List α):List α:=List.rec (motive:=λ _=>List α) b (λ x _ ih=>x::ih) a
def bL {α:Type} (l:List α):Nat:=List.rec (motive:=λ _=>Nat) 0 (λ _ _ ih=>ih+1) l
def Im {α:Type}:List α->List α
 | []=>[]
 | _::l=>l
def aH {α:Type} (n:Nat):List α->List α:=Nat.rec (motive:=λ _=>List α->List α) (λ l=>l) (λ _ ih l=>ih (Im l)) n
def uy {α:Type} (n:Nat):List α->Option (List α) :=
 Nat.rec (motive:=λ _=>List α->Option (List α)) (λ _=>some [])
  (λ _ ih l=>List.rec (motive:=λ _=>Option (List α)) none (λ x t _=>(ih t).bind λ r=>some (x::r)) l) n
def ri {α:Type} (new:List α):List α->Option (List α) :=
 List.rec (motive:=λ _=>List α->Option (List α)) (λ l=>some l)
  (λ x _ ih l=>List.rec (motive:=λ _=>Option (List α)) none (λ _ t _=>(ih t).bind λ r=>some (x::r)) l) new
def putAt {α:Type} (o:Nat) (new:List α):List α->Option (List α) :=
 Nat.rec (motive:=λ _=>List α->Option (List α)) (λ l=>ri new l)
  (λ _ ih l=>List.rec (motive:=λ _=>Option (List α)) none (λ x t _=>(ih t).bind λ r=>some (x::r)) l) o
def dK {α:Type} (l:List α) (o n:Nat):Option (List α):=uy n (aH o l)
inductive eR where
 | func (f:Nat)
 | yield (l:Nat)
inductive AV where
 | bool (b:Bool)
 | int (k:IntKind) (n:Int)
 | str (s:List UInt8)
 | nilp
 | ptr (b o:Nat)
 | nils
 | slice (b o n c:Nat)
 | gslice (b i m size alt n:Nat)
 | eslice (b:Nat)
 | jI
 | map (b:Nat)
 | fn (f:eR) (first captured:List AV)
 | nilf
 | iface (t:Nat) (v:AV)
 | nili
 | agg (l:List AV)
 | tuple (l:List AV)
instance:Inhabited AV:=⟨.nili⟩
def AV.undef:AV:=.tuple []
def AV.cells:AV->List AV
 | .agg l=>l
 | v=>[v]
inductive ba where
 | tmp (t:Nat)
 | const (v:AV)
 | cU (g:Nat)
 | func (f:Nat)
inductive cu where
 | tmp (t:Nat)
 | gf (a:Nat)
 | dB (n:Nat) (a:Nat)
inductive eI where
 | exit (id:Nat) | goto (l:Nat) | ret
inductive i7 where
 | ready|busy|done|exhausted
inductive aD where
 | fT (b:Nat)
 | fn (f:eR) (args:List AV)
inductive bm where
 | row (cells:List AV) (elem:Nat) (fz:Nat × Nat) (own:Bool)
 | grown (m size:Nat) (cells:List AV) (elem:Nat) (fz:Nat × Nat)
 | map (es:List (AV × AV × Nat)) (clock:Nat)
 | iE (s:List UInt8) (pos:Nat)
 | loop (st:i7) (pend:Option eI) (fn k:Nat) (tm:T AV) (defers:Nat)
 | deferred (calls:Option (List aD))
structure AHeap where
 t:T bm
 next:Nat
namespace AHeap
def get (H:AHeap) (b:Nat):Option bm:=H.t.get b
def set (H:AHeap) (b:Nat) (o:bm):AHeap:={ H with t:=H.t.set b o }
def alloc (H:AHeap) (o:bm):AHeap:={ t:=H.t.set H.next o,next:=H.next+1 }
def kill (H:AHeap) (b:Nat):AHeap:={ H with t:=H.t.put b none }
def bK (H:AHeap) (b:Nat):Option (List AV) :=
 match H.get b with
 | some (.row c _ _ _)=>some c
 | some (.grown _ _ c _ _)=>some c
 | _=>none
end AHeap
def AHeap.ae (H:AHeap) (b o:Nat):Option AV:=(H.bK b).bind λ l=>nth l o
def AHeap.lA (H:AHeap) (b:Nat):Option (List (AV × AV × Nat) × Nat) :=
 match H.get b with
 | some (.map es c)=>some (es,c)
 | _=>none
def AHeap.aG (H:AHeap) (b o n:Nat):Option (List AV):=(H.bK b).bind λ l=>dK l o n
def cN (fz:Nat × Nat) (o n:Nat):Bool:=Nat.ble (o+n) fz.1 || Nat.ble fz.2 o
def aT:AV->Bool
 | .agg _ | .tuple _=>false
 | _=>true
def aO (l:List AV):Bool:=List.rec (motive:=λ _=>Bool) true (λ x _ ih=>cond (aT x) ih false) l
def AHeap.store (H:AHeap) (b o:Nat) (new:List AV):Option AHeap :=
 cond (aO new) (match H.get b with
  | some (.row c e fz true)=>cond (cN fz o (bL new)) ((putAt o new c).bind λ c'=>some (H.set b (.row c' e fz true))) none
  | some (.grown m s c e fz)=>cond (cN fz o (bL new)) ((putAt o new c).bind λ c'=>some (H.set b (.grown m s c' e fz))) none
  | _=>none) none
def mY (tm:T AV):ba->Option AV
 | .tmp t=>tm.get t
 | .const v=>some v
 | .cU g=>some (.ptr g 0)
 | .func f=>some (.fn (.func f) [] [])
def iI (tm:T AV):List ba->Option (List AV)
 | []=>some []
 | x::xs=>(mY tm x).bind λ v=>(iI tm xs).bind λ vs=>some (v::vs)
structure Ev where
 run:T AV->Option AV
structure Evs where
 run:T AV->Option (List AV)
def Gz:ba->Ev
 | .tmp t=>⟨(T.kN (T.path t)).run⟩
 | .const v=>⟨λ _=>some v⟩
 | .cU g=>⟨λ _=>some (.ptr g 0)⟩
 | .func f=>⟨λ _=>some (.fn (.func f) [] [])⟩
def oX:List ba->Evs
 | []=>⟨λ _=>some []⟩
 | [x]=>⟨λ tm=>((Gz x).run tm).bind λ v=>some [v]⟩
 | x::xs=>⟨λ tm=>((Gz x).run tm).bind λ v=>((oX xs).run tm).bind λ vs=>some (v::vs)⟩
def nH (a b:Int):Bool:=match a,b with
 | .ofNat m,.ofNat n=>Nat.ble m n
 | .ofNat _,.negSucc _=>false
 | .negSucc _,.ofNat _=>true
 | .negSucc m,.negSucc n=>Nat.ble n m
def tw (a b:Int):Bool:=!nH b a
def pR (a b:Int):Bool:=match a,b with
 | .ofNat m,.ofNat n=>Nat.beq m n
 | .negSucc m,.negSucc n=>Nat.beq m n
 | _,_=>false
def iS:IntKind->Nat
 | .i8=>0 | .i16=>1 | .i32=>2 | .i64=>3 | .u8=>4 | .u16=>5 | .u32=>6 | .u64=>7
def pV (a b:IntKind):Bool:=Nat.beq (iS a) (iS b)
def Et (a b:UInt8):Bool:=Nat.beq a.toNat b.toNat
def sT:List UInt8->List UInt8->Bool
 | [],[]=>true
 | a::x,b::y=>cond (Et a b) (sT x y) false
 | _,_=>false
inductive bl where
 | int|str|bool
 | nil
 | part (off:Nat) (n:Option Nat) (t rest:bl)
def partAt (l:List AV) (off:Nat):Option Nat->Option AV
 | none=>nth l off
 | some k=>(dK l off k).bind λ c=>some (.agg c)
def aW:bl->AV->AV->Option Bool
 | .int,.int k a,.int k' b=>cond (pV k k') (some (pR a b)) none
 | .str,.str a,.str b=>some (sT a b)
 | .bool,.bool a,.bool b=>some (a == b)
 | .nil,.agg _,.agg _=>some true
 | .part off n t rest,.agg x,.agg y=>(partAt x off n).bind λ a=>(partAt y off n).bind λ b=>(aW t a b).bind λ q =>
  cond q (aW rest (.agg x) (.agg y)) (some false)
 | _,_,_=>none
def i5:bl->AV->Bool
 | .int,.int _ _=>true
 | .str,.str _=>true
 | .bool,.bool _=>true
 | .nil,.agg _=>true
 | .part off n t rest,.agg x=>match partAt x off n with
  | some a=>cond (i5 t a) (i5 rest (.agg x)) false
  | none=>false
 | _,_=>false
def bytesLess:List UInt8->List UInt8->Bool
 | _,[]=>false
 | [],_::_=>true
 | a::x,b::y=>Nat.blt a.toNat b.toNat || (Et a b && bytesLess x y)
def mI (op:BinOp) (a b:List UInt8):Option AV :=
 match op with
 | .add=>cond (Nat.ble (a.length+b.length) 140737488355328) (some (.str (a++b))) none
 | .eql=>some (.bool (sT a b))
 | .neq=>some (.bool (!(sT a b)))
 | .lss=>some (.bool (bytesLess a b))
 | .leq=>some (.bool (bytesLess a b || sT a b))
 | .gtr=>some (.bool (!(bytesLess a b || sT a b)))
 | .geq=>some (.bool (!bytesLess a b))
 | _=>none
def ak (k:IntKind) (n:Int):Int:=k.wrap n
def dV (op:BinOp) (k:IntKind) (a b:Int):Option AV :=
 match op with
 | .add=>some (.int k (ak k (a+b)))
 | .sub=>some (.int k (ak k (a-b)))
 | .mul=>some (.int k (ak k (a*b)))
 | .quo=>cond (pR b 0) none (some (.int k (ak k (a.tdiv b))))
 | .rem=>cond (pR b 0) none (some (.int k (a.tmod b)))
 | .and=>some (.int k (ak k ((BitVec.ofInt k.bits a &&& BitVec.ofInt k.bits b).toNat)))
 | .or=>some (.int k (ak k ((BitVec.ofInt k.bits a ||| BitVec.ofInt k.bits b).toNat)))
 | .xor=>some (.int k (ak k ((BitVec.ofInt k.bits a ^^^ BitVec.ofInt k.bits b).toNat)))
 | .andNot=>some (.int k (ak k ((BitVec.ofInt k.bits a &&& ~~~(BitVec.ofInt k.bits b)).toNat)))
 | .eql=>some (.bool (pR a b))
 | .neq=>some (.bool (!pR a b))
 | .lss=>some (.bool (tw a b))
 | .leq=>some (.bool (nH a b))
 | .gtr=>some (.bool (tw b a))
 | .geq=>some (.bool (nH b a))
 | _=>none
inductive qJ where
 | bool|ptr|slice|map|func|iface
 | ifaces (f:Nat->Option bl)
 | agg (t:bl)
def nF (isNil isSome:AV->Bool) (x y:AV):Option Bool :=
 cond (isNil x) (cond (isNil y) (some true) (cond (isSome y) (some false) none)) (cond (isSome x && isNil y) (some false) none)
def yF:AV->Bool
 | .nils=>true
 | _=>false
def isSlice:AV->Bool
 | .slice ..=>true
 | .gslice ..=>true
 | .eslice _=>true
 | _=>false
def wZ:AV->Bool
 | .jI=>true
 | _=>false
def isMap:AV->Bool
 | .map _=>true
 | _=>false
def vK:AV->Bool
 | .nilf=>true
 | _=>false
def GX:AV->Bool
 | .fn ..=>true
 | _=>false
def yI:AV->Bool
 | .nili=>true
 | _=>false
def isIface:AV->Bool
 | .iface ..=>true
 | _=>false
def rE (H:AHeap) (b b':Nat):Bool :=
 match H.get b,H.get b' with
 | some (.row _ _ (0,0) true),some (.row (_::_) _ _ _)=>true
 | some (.row (_::_) _ _ _),some (.row _ _ (0,0) true)=>true
 | _,_=>false
def oI (op:BinOp) (k:IntKind) (a b:Int):Option AV :=
 cond (tw b 0) none (match op with
  | .shl=>some (.int k (ak k (a*2 ^ (min b.toNat k.bits))))
  | _=>some (.int k (a.fdiv (2 ^ (min b.toNat k.bits)))))
def cI:BinOp->Bool
 | .shl | .shr=>true
 | _=>false
def DH (H:AHeap):qJ->AV->AV->Option Bool
 | .bool,.bool a,.bool b=>some (a == b)
 | .ptr,.nilp,.nilp=>some true
 | .ptr,.nilp,.ptr _ _=>some false
 | .ptr,.ptr _ _,.nilp=>some false
 | .ptr,.ptr b o,.ptr b' o'=>cond (Nat.beq b b') (some (Nat.beq o o')) (cond (rE H b b') (some false) none)
 | .slice,x,y=>nF yF isSlice x y
 | .map,x,y=>nF wZ isMap x y
 | .func,x,y=>nF vK GX x y
 | .iface,x,y=>nF yI isIface x y
 | .ifaces f,.iface t a,.iface u b=>cond (Nat.beq t u) ((f t).bind λ q=>aW q a b) (some false)
 | .ifaces _,.nili,.iface _ _=>some false
 | .ifaces _,.iface _ _,.nili=>some false
 | .agg t,x,y=>aW t x y
 | _,_,_=>none
def jX (op:BinOp) (x y:AV):Option AV :=
 match x,y with
 | .int k a,.int k' b=>cond (cI op) (oI op k a b) (cond (pV k k') (dV op k a b) none)
 | .str a,.str b=>mI op a b
 | _,_=>none
def unV (op:UnOp) (x:AV):Option AV :=
 match op,x with
 | .neg,.int k n=>some (.int k (ak k (0-n)))
 | .xor,.int k n=>dV .xor k (if k.signed then -1 else k.max) n
 | .not,.bool b=>some (.bool (!b))
 | _,_=>none
def fL (cells:List AV):List (Nat × Nat)->List AV->Option (List AV)
 | [],[]=>some cells
 | (off,size)::ps,v::vs=>cond (Nat.beq (bL v.cells) size) ((putAt off v.cells cells).bind λ c=>fL c ps vs) none
 | _,_=>none
def dG (n:Nat) (z:List AV):List AV :=
 match n with
 | 0=>[]
 | n+1=>gK z (dG n z)
def within (i:Int) (n:Nat):Option Nat:=match i with
 | .ofNat k=>cond (Nat.blt k n) (some k) none
 | .negSucc _=>none
def arg (vs:List AV):Option Nat->Option (Option AV)
 | none=>some none
 | some i=>(nth vs i).bind λ v=>some (some v)
def bound (v:Option AV) (d mx:Nat):Option Nat :=
 match v with
 | none=>some d
 | some (.int _ (.ofNat i))=>cond (Nat.ble i mx) (some i) none
 | _=>none
def df (size:Nat) (x:AV) (lo hi mx:Option AV):Option AV :=
 match x with
 | .nils=>match mx with
  | none=>(bound hi 0 0).bind λ h=>(bound lo 0 h).bind λ _=>some .nils
  | some _=>none
 | .slice b o n c=>match mx,hi with
  | some _,none=>none
  | mx,hi=>(bound mx c c).bind λ m=>(bound hi n m).bind λ h=>(bound lo 0 h).bind λ l =>
   some (.slice b (cond (Nat.beq m l) o (o+l*size)) (h-l) (m-l))
 | .gslice b i m s alt n =>
  cond (Nat.beq s size && Nat.ble i m) (match mx,hi with
   | none,hi=>(bound hi n (m-i)).bind λ h=>(bound lo 0 h).bind λ l =>
    cond (Nat.ble h (m-i)) (some (.gslice b (i+l) m s (cond (Nat.beq l 0) alt (i*s)) (h-l))) none
   | some _,none=>none
   | mx,hi=>(bound mx 0 (m-i)).bind λ x=>(bound hi 0 x).bind λ h=>(bound lo 0 h).bind λ l =>
    cond (Nat.beq x l) none (some (.slice b ((i+l)*s) (h-l) (x-l)))) none
 | .eslice b=>match mx with
  | none=>(bound hi 0 0).bind λ h=>(bound lo 0 h).bind λ _=>some (.eslice b)
  | some _=>none
 | _=>none
def dD:AV->Option Nat
 | .str s=>some (bL s)
 | .nils=>some 0
 | .slice _ _ n _=>some n
 | .gslice _ _ _ _ _ n=>some n
 | .eslice _=>some 0
 | _=>none
def elemAt (size:Nat) (x:AV) (j:Nat):Option (Nat × Nat) :=
 match x with
 | .slice b o n _=>cond (Nat.blt j n) (some (b,o+j*size)) none
 | .gslice b i m s _ n=>cond (Nat.blt j n && Nat.beq s size && Nat.blt (i+j) m) (some (b,i*s+j*s)) none
 | _=>none
def firstCells (H:AHeap) (size n:Nat) (x:AV):Option (List AV) :=
 match x with
 | .nils=>some []
 | .str s=>cond (Nat.beq size 1) (some ((s.take n).map λ b=>.int .u8 b.toNat)) none
 | .slice b o _ _=>cond (Nat.beq n 0) (some []) (H.aG b o (n*size))
 | .gslice b i m s _ _=>cond (Nat.beq n 0) (some []) (cond (Nat.beq s size && Nat.blt i m) (H.aG b (i*s) (n*size)) none)
 | .eslice _=>cond (Nat.beq n 0) (some []) none
 | _=>none
def de (n:Int):AV:=.int .i64 n
def findKey (t:bl) (k:AV):List (AV × AV × Nat)->Nat->Option (Option (Nat × AV))
 | [],_=>some none
 | (k',v,_)::es,i=>(aW t k k').bind λ q=>cond q (some (some (i,v))) (findKey t k es (i+1))
def q1t (c:UInt8):List UInt8->Nat->Option Nat
 | [],_=>none
 | x::l,i=>cond (Et x c) (some i) (q1t c l (i+1))
def pZ (c:UInt8):List UInt8->Nat
 | []=>0
 | x::l=>cond (Et x c) (pZ c l+1) (pZ c l)
def byteOf:AV->Option UInt8
 | .int .u8 n=>some (UInt8.ofNat n.toNat)
 | _=>none
def bytesOf:List AV->Option (List UInt8)
 | []=>some []
 | x::l=>(byteOf x).bind λ b=>(bytesOf l).bind λ r=>some (b::r)
def fits (n bytes:Nat):Bool:=Nat.ble (n*bytes) 140737488355328 && Nat.ble n 140737488355328
def cj (H:AHeap) (e size n:Nat) (cells:List AV) (fz:Nat × Nat):AV × AHeap :=
 (.gslice H.next 0 n size 0 n,H.alloc (.grown n size cells e fz))
def bQ (H:AHeap) (e size bytes:Nat) (s:AV) (n:Nat) (new:List AV):Option (AV × AHeap) :=
 match s with
 | .nils=>cond (Nat.beq n 0) (some (.nils,H)) (cond (fits n bytes && Nat.blt 0 size) (some (cj H e size n new (0,0))) none)
 | .slice b o len c =>
  cond (Nat.ble (len+n) c)
   (cond (Nat.beq n 0) (some (.slice b o (len+n) c,H)) ((H.store b (o+len*size) new).bind λ H'=>some (.slice b o (len+n) c,H')))
   (cond (fits (len+n) bytes && Nat.ble c (len+n) && Nat.blt 0 size)
    ((firstCells H size len (.slice b o len c)).bind λ old=>some (cj H e size (len+n) (gK old new) (0,0))) none)
 | .gslice b i m sz alt len =>
  cond (Nat.beq n 0) (cond (Nat.ble (i+len) m) (some (.gslice b i m sz alt len,H)) none) (cond (Nat.beq sz size && Nat.ble (i+len) m && Nat.blt 0 size)
   (cond (Nat.ble (i+len+n) m)
    ((H.store b ((i+len)*size) new).bind λ H'=>some (.gslice b i m sz alt (len+n),H'))
    (cond (fits (len+n) bytes) (match H.get b with
     | some (.grown m' sz' c e' fz) =>
      cond (Nat.beq m m' && Nat.beq sz sz' && Nat.beq e' e)
       (cond (Nat.beq i 0 && Nat.beq len m && Nat.ble fz.2 (m*size)) (some (cj (H.kill b) e size (len+n) (gK c new) fz)) (cond (Nat.ble fz.2 (i*size))
        ((dK c (i*size) (len*size)).bind λ old=>some (cj (H.kill b) e size (len+n) (gK old new) (cond (Nat.beq fz.1 fz.2) (0,0) (1,0))))
        (cond (Nat.beq i 0 && Nat.ble fz.2 (len*size))
         ((dK c 0 (len*size)).bind λ old=>some (cj (H.kill b) e size (len+n) (gK old new) fz)) none))) none
     | _=>none) none)) none)
 | _=>none
namespace Op
def fail:List AV->Option AV:=λ _=>none
def move:List AV->Option AV
 | [v]=>some v
 | _=>none
def pick:List AV->Option AV
 | [.bool q,a,b]=>some (cond q a b)
 | _=>none
def build (zero:List AV) (places:List (Nat × Nat)) (vs:List AV):Option AV :=
 (fL zero places vs).bind λ c=>some (.agg c)
def nilCheck:List AV->Option AV
 | [.nilp] | [.nili] | [.nilf]=>none
 | [.fn (.func f) a b]=>some (.fn (.func f) a b)
 | [.fn _ _ _]=>none
 | [v]=>some v
 | _=>none
def bin (op:BinOp):List AV->Option AV
 | [x,y]=>jX op x y
 | _=>none
def eq (t:qJ) (neg:Bool):List AV->AHeap->Option AV
 | [x,y],H=>(DH H t x y).bind λ q=>some (.bool (cond neg (!q) q))
 | _,_=>none
def un (op:UnOp):List AV->Option AV
 | [x]=>unV op x
 | _=>none
def wrap (k:IntKind):List AV->Option AV
 | [.int _ n]=>some (.int k (ak k n))
 | _=>none
def fg:List AV->Option AV
 | [.int _ n]=>cond (nH 0 n && tw n 128) (some (.str [UInt8.ofNat n.toNat])) none
 | _=>none
def gA:List AV->Option AV
 | [.str s]=>some (.str s)
 | _=>none
def eN (t:Nat):List AV->Option AV
 | [v]=>some (.iface t v)
 | _=>none
def cA (f nf:Nat) (l:List AV):Option AV:=some (.fn (.func f) (l.take nf) (l.drop nf))
def fh:List (Option Nat)->List AV->Option AV
 | [lo,hi],.str s::vs =>
  (arg vs hi).bind λ b=>(arg vs lo).bind λ a=>(bound b s.length s.length).bind λ h=>(bound a 0 h).bind λ l=>some (.str ((s.take h).drop l))
 | _,_=>none
def aJ (size:Nat):List (Option Nat)->List AV->Option AV
 | [lo,hi,mx],x::vs=>(arg vs lo).bind λ a=>(arg vs hi).bind λ b=>(arg vs mx).bind λ m=>df size x a b m
 | _,_=>none
def fj (n size:Nat):List (Option Nat)->List AV->Option AV
 | [lo,hi,mx],.ptr p o::vs=>(arg vs lo).bind λ a=>(arg vs hi).bind λ b=>(arg vs mx).bind λ m=>df size (.slice p o n n) a b m
 | _,_=>none
def fieldAddr (off:Nat):List AV->Option AV
 | [.ptr b o]=>some (.ptr b (o+off))
 | _=>none
def field (off:Nat) (n:Option Nat):List AV->Option AV
 | [.agg l]=>partAt l off n
 | _=>none
def aQ (size:Nat):List AV->Option AV
 | [x,.int _ j]=>(dD x).bind λ n=>(within j n).bind λ k=>(elemAt size x k).bind λ p=>some (.ptr p.1 p.2)
 | _=>none
def bE (len size:Nat):List AV->Option AV
 | [.ptr b o,.int _ j]=>(within j len).bind λ k=>some (.ptr b (o+k*size))
 | _=>none
def eT (len size:Nat) (n:Option Nat):List AV->Option AV
 | [.agg l,.int _ j]=>(within j len).bind λ k=>partAt l (k*size) n
 | _=>none
def cr:List AV->Option AV
 | [.str s,.int _ j]=>(within j s.length).bind λ k=>(nth s k).bind λ b=>some (.int .u8 b.toNat)
 | _=>none
def typeAssert (t:Nat) (ok:Bool) (zero:AV):List AV->Option AV
 | [.nili]=>cond ok (some (.tuple [zero,.bool false])) none
 | [.iface u v]=>cond (Nat.beq u t) (some (cond ok (.tuple [v,.bool true]) v)) (cond ok (some (.tuple [zero,.bool false])) none)
 | _=>none
def extract (i:Nat):List AV->Option AV
 | [.tuple l]=>nth l i
 | _=>none
def fP:List AV->Option AV
 | [.str s]=>some (de (bL s))
 | _=>none
def dC:List AV->Option AV
 | [.nils]=>some (de 0)
 | [.slice _ _ n _]=>some (de n)
 | [.gslice _ _ _ _ _ n]=>some (de n)
 | [.eslice _]=>some (de 0)
 | _=>none
def qN (n:Nat):List AV->Option AV
 | [_]=>some (de n)
 | _=>none
def cap:List AV->Option AV
 | [.nils]=>some (de 0)
 | [.slice _ _ _ c]=>some (de c)
 | _=>none
def q2a (mx:Bool):Int->List AV->Option Int
 | a,[]=>some a
 | a,.int _ b::l=>q2a mx (cond mx (cond (tw a b) b a) (cond (tw b a) b a)) l
 | _,_=>none
def jG (mx:Bool):List AV->Option AV
 | .int k a::l=>(q2a mx a l).bind λ r=>some (.int k r)
 | _=>none
def dY:List AV->Option AV
 | [.nils]=>some .nilp
 | [.slice b o _ c]=>cond (Nat.beq c 0) none (some (.ptr b o))
 | [.gslice b i m s _ _]=>cond (Nat.blt i m) (some (.ptr b (i*s))) none
 | _=>none
def eV:List AV->Option AV
 | [x]=>some x
 | _=>none
def bM:List AV->Option AV
 | [.str s,.int .u8 c]=>some (de (match q1t (UInt8.ofNat c.toNat) s 0 with|some i=>i|none=>-1))
 | _=>none
def cX:List AV->Option AV
 | [.str s,.int .u8 c]=>some (de (Int.ofNat (pZ (UInt8.ofNat c.toNat) s)))
 | _=>none
def ae:List AV->AHeap->Option AV
 | [.ptr b o],H=>H.ae b o
 | _,_=>none
def aG (n:Nat):List AV->AHeap->Option AV
 | [.ptr b o],H=>(H.aG b o n).bind λ l=>some (.agg l)
 | _,_=>none
def dk:List AV->AHeap->Option AV
 | [.str _],_=>none
 | [v],H=>(dD v).bind λ n=>(firstCells H 1 n v).bind λ l=>(bytesOf l).bind λ s=>some (.str s)
 | _,_=>none
def lookup (key:bl) (zero:AV) (ok:Bool):List AV->AHeap->Option AV
 | [.jI,k],_=>cond (i5 key k) (some (cond ok (.tuple [zero,.bool false]) zero)) none
 | [.map b,k],H=>cond (i5 key k) ((H.lA b).bind λ m=>(findKey key k m.1 0).bind λ r=>match r with
  | some p=>some (cond ok (.tuple [p.2,.bool true]) p.2)
  | none=>some (cond ok (.tuple [zero,.bool false]) zero)) none
 | _,_=>none
def jK:List AV->AHeap->Option AV
 | [.jI],_=>some (de 0)
 | [.map b],H=>(H.lA b).bind λ m=>some (de m.1.length)
 | _,_=>none
def gB (lies:Nat->Nat->Nat->Bool):List AV->AHeap->Option AV
 | [.nilp],_=>some .nilp
 | [.ptr b o],H=>match H.get b with
  | some (.row c e _ true)=>cond (lies e c.length o) (some (.ptr b o)) none
  | _=>none
 | _,_=>none
def ptrTo (b:Nat):AV:=.ptr b 0
def alloc (e:Nat) (zero:List AV):List AV->Option (bm × (Nat->AV))
 | []=>some (.row zero e (0,0) true,ptrTo)
 | _=>none
def box (e:Nat):List AV->Option (bm × (Nat->AV))
 | [v]=>some (.row v.cells e (0,0) true,ptrTo)
 | _=>none
def sliceTo (n m:Nat) (b:Nat):AV:=.slice b 0 n m
def buildSlice (e n:Nat) (zero:List AV) (places:List (Nat × Nat)) (vs:List AV):Option (bm × (Nat->AV)) :=
 (fL (dG n zero) places vs).bind λ c=>some (.row c e (0,0) true,sliceTo n n)
def mkMap:List AV->Option (bm × (Nat->AV))
 | []=>some (.map [] 0,.map)
 | _=>none
def mkSlice (e bytes:Nat) (zero:List AV):List AV->Option (bm × (Nat->AV))
 | [.int _ n,.int _ m]=>cond (nH 0 n && nH n m && nH (m*bytes) 140737488355328 && nH m 140737488355328)
  (some (.row (dG m.toNat zero) e (0,0) true,sliceTo n.toNat m.toNat)) none
 | _=>none
def q11 (m n:Nat) (b:Nat):AV:=.gslice b 0 m 1 0 n
def di (e:Nat):List AV->Option (bm × (Nat->AV))
 | [.str s]=>cond (Nat.ble s.length 140737488355328) (some (.grown s.length 1 (s.map λ b=>.int .u8 b.toNat) e (1,0),q11 s.length s.length)) none
 | _=>none
def eW:List AV->Option (bm × (Nat->AV))
 | [.str s]=>some (.iE s 0,ptrTo)
 | _=>none
def makeNoZero (e:Nat):List AV->Option (bm × (Nat->AV))
 | [.int .i64 n]=>cond (nH 0 n && nH n 140737488355328) (some (.grown 0 1 [] e (0,0),q11 0 n.toNat)) none
 | _=>none
def store (n:Nat):List AV->AHeap->Option (AV × AHeap)
 | [.ptr b o,v],H=>cond (Nat.beq (bL v.cells) n) ((H.store b o v.cells).bind λ H'=>some (.undef,H')) none
 | _,_=>none
def CX:AV->AV->Bool
 | .int k a,.int k' b=>pV k k' && pR a b
 | .str a,.str b=>sT a b
 | .bool a,.bool b=>a == b
 | _,_=>false
def dh:List AV->List AV->Bool
 | [],[]=>true
 | a::x,b::y=>cond (CX a b) (dh x y) false
 | _,_=>false
def stays:AV->AV->Bool
 | .agg a,.agg b=>dh a b
 | a,b=>CX a b
def mapUpdate (key:bl):List AV->AHeap->Option (AV × AHeap)
 | [.map b,k,v],H=>cond (i5 key k) ((H.lA b).bind λ m=>(findKey key k m.1 0).bind λ r=>match r with
  | some p=>(nth m.1 p.1).bind λ e=>cond (stays e.1 k) (some (.undef,H.set b (.map (m.1.modify p.1 λ e=>(k,v,e.2.2)) m.2))) none
  | none=>some (.undef,H.set b (.map (m.1 ++ [(k,v,m.2)]) (m.2+1)))) none
 | _,_=>none
def dX (key:bl):List AV->AHeap->Option (AV × AHeap)
 | [.jI,k],H=>cond (i5 key k) (some (.tuple [],H)) none
 | [.map b,k],H=>cond (i5 key k) ((H.lA b).bind λ m=>(findKey key k m.1 0).bind λ r=>match r with
  | some p=>some (.tuple [],H.set b (.map (m.1.eraseIdx p.1) m.2))
  | none=>some (.tuple [],H.set b (.map m.1 m.2))) none
 | _,_=>none
def gO:List AV->AHeap->Option (AV × AHeap)
 | [.ptr b 0],H=>match H.get b with
  | some (.iE s p)=>match nth s p with
   | some c=>cond (Nat.blt c.toNat 128) (some (.tuple [.bool true,de p,.int .i32 c.toNat],H.set b (.iE s (p+1)))) none
   | none=>some (.tuple [.bool false],H)
  | _=>none
 | _,_=>none
def append (e size bytes:Nat):List AV->AHeap->Option (AV × AHeap)
 | [a,b],H=>(dD b).bind λ n=>(firstCells H size n b).bind λ new=>cond (aO new) (bQ H e size bytes a n new) none
 | _,_=>none
def copy (size:Nat):List AV->AHeap->Option (AV × AHeap)
 | [.str _,_],_=>none
 | [d,r],H=>(dD d).bind λ dn=>(dD r).bind λ rn=>(firstCells H size (min rn dn) r).bind λ l =>
  cond (Nat.beq (min rn dn) 0) (some (de 0,H)) ((elemAt size d 0).bind λ p=>(H.store p.1 p.2 l).bind λ H'=>some (de (min rn dn),H'))
 | _,_=>none
def ct (zero:List AV):List AV->AHeap->Option (AV × AHeap)
 | [.str _],_=>none
 | [x],H=>(dD x).bind λ n=>cond (Nat.beq n 0) (some (.tuple [],H))
  ((elemAt zero.length x 0).bind λ p=>(H.store p.1 p.2 (dG n zero)).bind λ H'=>some (.tuple [],H'))
 | _,_=>none
def ff:List AV->AHeap->Option (AV × AHeap)
 | [.jI],H=>some (.tuple [],H)
 | [.map b],H=>(H.lA b).bind λ m=>some (.tuple [],H.set b (.map [] m.2))
 | _,_=>none
def iY (fz:Nat × Nat) (o n:Nat):Nat × Nat:=cond (Nat.beq fz.1 fz.2) (o,o+n) (min fz.1 o,max fz.2 (o+n))
def gv:List AV->AHeap->Option (AV × AHeap)
 | [.slice b o n c],H=>match H.get b with
  | some (.row cs e fz true)=>some (.slice b o n c,H.set b (.row cs e (iY fz (bL cs) 1) true))
  | _=>none
 | _,_=>none
def fk (u:Nat):List AV->AHeap->Option (AV × AHeap)
 | [.nilp,.int _ k],H=>cond (pR k 0) (some (.str [],H)) none
 | [.ptr b o,.int _ k],H=>cond (pR k 0) (some (.str [],H)) (cond (tw k 0 || tw 140737488355328 k) none (match H.get b with
  | some (.row c e fz true)=>cond (Nat.beq e u) ((dK c o k.toNat).bind λ l=>(bytesOf l).bind λ s=>some (.str s,H.set b (.row c e (iY fz o k.toNat) true))) none
  | some (.grown m z c e fz)=>cond (Nat.beq e u && Nat.ble fz.1 fz.2) ((dK c o k.toNat).bind λ l=>(bytesOf l).bind λ s=>some (.str s,H.set b (.grown m z c e (iY fz o k.toNat)))) none
  | _=>none))
 | _,_=>none
end Op
inductive dN where
 | pure (f:List AV->Option AV)
 | read (f:List AV->AHeap->Option AV)
 | alloc (f:List AV->Option (bm × (Nat->AV)))
 | eQ (f:List AV->AHeap->Option (AV × AHeap))
 | eH (f:Nat)
 | eK
 | invoke (name:String)
 | recover
 | defer
 | panic
structure aL where
 eO:Bool
 dst:Option Nat
 guard:Option (Nat × Bool)
 args:List ba
 op:dN
 bG:Option (List Nat)
inductive aj where
 | skip
 | region (steps:List aL)
 | seq (a b:aj)
 | cond (c:ba) (thn els:aj)
 | block (id:Nat) (body:aj)
 | loop (ah:Option (List Nat)) (body:aj)
 | rangeFunc (f:ba) (k:Nat)
 | exit (id:Nat)
 | scope (body:aj)
 | label (l:Nat)
 | goto (l:Nat)
 | ret
 | stuck
instance:Inhabited aj:=⟨.skip⟩
structure db where
 params:List Nat
 assign:aj
 body:aj
structure cm where
 results:List cu
 body:aj
 loops:List db
structure gj where
 func:Nat->Option cm
 nA:Nat->String->Option Nat
abbrev aw:=List (AV × Bool)
structure St where
 tm:T AV
 aM:List aD
 up:Option aw
 H:AHeap
inductive aC where
 | normal
 | exit (id:Nat)
 | goto (l:Nat)
 | ret
 | panic (chain:aw)
inductive bg where
 | ret (v:AV)
 | panic (chain:aw)
abbrev bu:=Nat->List AV->Option aw->AHeap->Option (bg × Option aw × AHeap)
structure Ctx where
 round:Option Nat
 fn:Nat
end
end Go.Am
namespace Go.Am
noncomputable section
def Dy:T AV->List Nat->List AV->Option (T AV)
 | tm,[],[]=>some tm
 | tm,p::ps,v::vs=>Dy (tm.set p v) ps vs
 | _,_,_=>none
def gg:Nat->List AV->T AV->T AV
 | _,[],t=>t
 | i,v::vs,t=>gg (i+1) vs (t.set i v)
def gV:aC->Option eI
 | .exit id=>some (.exit id)
 | .goto l=>some (.goto l)
 | .ret=>some .ret
 | _=>none
def mn:Option eI->aC
 | none=>.normal
 | some (.exit id)=>.exit id
 | some (.goto l)=>.goto l
 | some .ret=>.ret
def so:aC->Bool
 | .normal=>true
 | _=>false
def Pj (tm:T AV):List Nat->T AV->T AV
 | [],acc=>acc
 | k::ks,acc=>Pj tm ks (acc.put k (tm.get k))
def forget:List Nat->T AV->T AV
 | [],t=>t
 | d::ds,t=>forget ds (t.put d none)
def c5 (dst:Option Nat) (v:AV) (tm:T AV):T AV :=
 match dst with
 | some d=>tm.set d v
 | none=>tm
structure MX where
 run:AV->T AV->T AV
def iA:Option Nat->MX
 | some d=>⟨λ v tm=>(T.sN (T.path d)).run (some v) tm⟩
 | none=>⟨λ _ tm=>tm⟩
abbrev ew:=Option (aC × St)
def eB (ah:Option (List Nat)) (body:St->ew):Nat->St->ew
 | 0,_=>none
 | n+1,st =>
  (body (match ah with|none=>st|some ks=>{ st with tm:=Pj st.tm ks .nil })).bind λ r=>match r.1 with
   | .normal=>eB ah body n r.2
   | e=>some (e,r.2)
def Al:aj->Nat->Bool
 | .seq a b,l=>Al a l || Al b l
 | .label l',l=>Nat.beq l' l
 | _,_=>false
mutual
def bB:AV->AV->Bool
 | .bool a,.bool b=>a == b
 | .int k a,.int k' b=>pV k k' && pR a b
 | .str a,.str b=>sT a b
 | .nilp,.nilp=>true
 | .ptr a b,.ptr c d=>Nat.beq a c && Nat.beq b d
 | .nils,.nils=>true
 | .slice a b c d,.slice a' b' c' d'=>Nat.beq a a' && Nat.beq b b' && Nat.beq c c' && Nat.beq d d'
 | .gslice a b c d e f,.gslice a' b' c' d' e' f'=>Nat.beq a a' && Nat.beq b b' && Nat.beq c c' && Nat.beq d d' && Nat.beq e e' && Nat.beq f f'
 | .eslice a,.eslice b=>Nat.beq a b
 | .jI,.jI=>true
 | .map a,.map b=>Nat.beq a b
 | .nilf,.nilf=>true
 | .nili,.nili=>true
 | .fn (.func f) x a,.fn (.func g) y b=>Nat.beq f g && dh x y && dh a b
 | .fn (.yield f) x a,.fn (.yield g) y b=>Nat.beq f g && dh x y && dh a b
 | .iface t a,.iface u b=>Nat.beq t u && bB a b
 | .agg a,.agg b=>dh a b
 | .tuple a,.tuple b=>dh a b
 | _,_=>false
def dh:List AV->List AV->Bool
 | [],[]=>true
 | x::xs,y::ys=>bB x y && dh xs ys
 | _,_=>false
end
abbrev fH:=List AV->Nat->AHeap->Option (bg × AHeap)
structure RT where
 AP:gj
 call:bu
 round:fH
 n:Nat
 ctx:Ctx
def bN (call:bu) (round:fH) (f:eR) (args:List AV) (H:AHeap):Option (bg × AHeap) :=
 match f with
 | .func g=>(call g args none H).bind λ r=>some (r.1,r.2.2)
 | .yield l=>round args l H
def dE (put:AV->T AV->T AV) (bG:Option (List Nat)) (st:St) (k:St->ew) (r:bg × AHeap):ew :=
 match r.1 with
 | .ret v=>k ⟨put v st.tm,st.aM,st.up,r.2⟩
 | .panic c=>bG.bind λ ds=>some (.panic c,⟨forget ds st.tm,st.aM,st.up,r.2⟩)
def Jm (put:AV->T AV->T AV) (st:St):St :=
 match st.up with
 | some ((v,false)::older)=>⟨put v st.tm,st.aM,some ((v,true)::older),st.H⟩
 | _=>⟨put .nili st.tm,st.aM,st.up,st.H⟩
def yV (f:List AV->Option AV) (put:AV->T AV->T AV) (st:St) (k:St->ew) (vs:List AV):ew :=
 (f vs).bind λ v=>k ⟨put v st.tm,st.aM,st.up,st.H⟩
def wN (f:List AV->AHeap->Option AV) (put:AV->T AV->T AV) (st:St) (k:St->ew) (vs:List AV):ew :=
 (f vs st.H).bind λ v=>k ⟨put v st.tm,st.aM,st.up,st.H⟩
def qW (f:List AV->Option (bm × (Nat->AV))) (put:AV->T AV->T AV) (st:St) (k:St->ew) (vs:List AV):ew :=
 (f vs).bind λ r=>k ⟨put (r.2 st.H.next) st.tm,st.aM,st.up,st.H.alloc r.1⟩
def Ey (f:List AV->AHeap->Option (AV × AHeap)) (put:AV->T AV->T AV) (st:St) (k:St->ew) (vs:List AV):ew :=
 (f vs st.H).bind λ r=>k ⟨put r.1 st.tm,st.aM,st.up,r.2⟩
def yQ (f:Nat) (rt:RT) (put:AV->T AV->T AV) (bG:Option (List Nat)) (st:St) (k:St->ew) (vs:List AV):ew :=
 (bN rt.call rt.round (.func f) vs st.H).bind λ r=>dE put bG st k r
def tI (rt:RT) (put:AV->T AV->T AV) (bG:Option (List Nat)) (st:St) (k:St->ew) (vs:List AV):ew :=
 match vs with
 | .fn (.func f) first cap::args=>(bN rt.call rt.round (.func f) (first++(args++cap)) st.H).bind λ r=>dE put bG st k r
 | .fn (.yield l) first []::args=>(bN rt.call rt.round (.yield l) (first++args) st.H).bind λ r=>dE put bG st k r
 | _=>none
def nY (name:String) (rt:RT) (put:AV->T AV->T AV) (bG:Option (List Nat)) (st:St) (k:St->ew) (vs:List AV):ew :=
 match vs with
 | .iface t v::args=>(rt.AP.nA t name).bind λ f=>(bN rt.call rt.round (.func f) (v::args) st.H).bind λ r=>dE put bG st k r
 | _=>none
def Li (rt:RT) (put:AV->T AV->T AV) (st:St) (k:St->ew) (vs:List AV):ew :=
 match rt.ctx.round with
 | some _=>none
 | none=>match vs with
  | []=>k (Jm put st)
  | _=>none
def p6 (rt:RT) (put:AV->T AV->T AV) (st:St) (k:St->ew) (vs:List AV):ew :=
 match rt.ctx.round with
 | some _=>none
 | none=>match vs with
  | .fn (.func f) first cap::args=>k ⟨put .undef st.tm,.fn (.func f) (first++(args++cap))::st.aM,st.up,st.H⟩
  | _=>none
def p8 (put:AV->T AV->T AV) (bG:Option (List Nat)) (st:St) (k:St->ew) (vs:List AV):ew :=
 match vs with
 | [.iface t v]=>dE put bG st k (.panic [(.iface t v,false)],st.H)
 | _=>none
structure OpC where
 run:RT->St->(St->ew)->List AV->ew
def mN (put:AV->T AV->T AV) (bG:Option (List Nat)):dN->OpC
 | .pure f=>⟨λ _ st k vs=>yV f put st k vs⟩
 | .read f=>⟨λ _ st k vs=>wN f put st k vs⟩
 | .alloc f=>⟨λ _ st k vs=>qW f put st k vs⟩
 | .eQ f=>⟨λ _ st k vs=>Ey f put st k vs⟩
 | .eH f=>⟨λ rt st k vs=>yQ f rt put bG st k vs⟩
 | .eK=>⟨λ rt st k vs=>tI rt put bG st k vs⟩
 | .invoke name=>⟨λ rt st k vs=>nY name rt put bG st k vs⟩
 | .recover=>⟨λ rt st k vs=>Li rt put st k vs⟩
 | .defer=>⟨λ rt st k vs=>p6 rt put st k vs⟩
 | .panic=>⟨λ _ st k vs=>p8 put bG st k vs⟩
def mE (get:T AV->Option AV) (st:St) (vs:List AV):dN->Bool
 | .read f=>match f vs st.H,get st.tm with
  | some v,some v'=>bB v v'
  | _,_=>false
 | _=>false
def cB (b:Bool):Option AV->Option Bool
 | some (.bool q)=>some (cond q b (!b))
 | some (.tuple [])=>some false
 | _=>none
structure Jc where
 run:RT->(St->ew)->St->ew
def ep (s:aL):Jc :=
 match s.eO with
 | false=>match s.guard with
  | none=>⟨λ rt k st=>((oX s.args).run st.tm).bind λ vs=>(mN (iA s.dst).run s.bG s.op).run rt st k vs⟩
  | some g=>⟨λ rt k st=>(cB g.2 ((T.kN (T.path g.1)).run st.tm)).bind λ w =>
   cond w (((oX s.args).run st.tm).bind λ vs=>(mN (iA s.dst).run s.bG s.op).run rt st k vs) (k ⟨(iA s.dst).run .undef st.tm,st.aM,st.up,st.H⟩)⟩
 | true=>match s.guard,s.dst with
  | none,some d=>⟨λ _ k st=>((oX s.args).run st.tm).bind λ vs=>cond (mE (T.kN (T.path d)).run st vs s.op) (k st) none⟩
  | some g,some d=>⟨λ _ k st=>(cB g.2 ((T.kN (T.path g.1)).run st.tm)).bind λ w =>
   cond w (((oX s.args).run st.tm).bind λ vs=>cond (mE (T.kN (T.path d)).run st vs s.op) (k st) none) (k st)⟩
  | _,none=>⟨λ _ _ _=>none⟩
structure CN where
 run:RT->St->ew
def eG:List aL->CN
 | []=>⟨λ _ st=>some (.normal,st)⟩
 | s::rest=>⟨λ rt st=>(ep s).run rt ((eG rest).run rt) st⟩
def bJ (H:AHeap) (l:Nat) (s:i7) (p:Option eI):Option AHeap :=
 match H.get l with
 | some (.loop _ _ f k tm d)=>some (H.set l (.loop s p f k tm d))
 | _=>none
def tX (H:AHeap) (l:Nat):Option Nat :=
 match H.get l with
 | some (.loop _ _ _ _ _ d)=>some d
 | _=>none
def GQ (st:St) (aM:List aD) (l:Nat) (e:bg) (H:AHeap):ew :=
 match e with
 | .panic c=>some (.panic c,{ st with aM:=aM,H:=H })
 | .ret _=>match H.get l with
  | some (.loop .busy _ _ _ _ _)=>none
  | some (.loop _ p f k tm d)=>some (mn p,{ st with aM:=aM,H:=H.set l (.loop .exhausted p f k tm d) })
  | _=>none
def fN (call:bu) (round:fH) (ctx:Ctx) (st:St) (k:Nat) (H0:AHeap) (aM:List aD) (d:Nat):AV->ew
 | .fn (.func g) first cap =>
  (bN call round (.func g) (first++(.fn (.yield H0.next) [] []::cap)) (H0.alloc (.loop .ready none ctx.fn k st.tm d))).bind λ r =>
   GQ st aM H0.next r.1 r.2
 | _=>none
def o9 (next:RT->St->ew) (rt:RT) (r:aC × St):ew :=
 match r.1 with
 | .normal=>next rt r.2
 | e=>some (e,r.2)
def pz (a b:RT->St->ew) (rt:RT) (st:St) (v:AV):ew :=
 match v with
 | .bool q=>cond q (a rt st) (b rt st)
 | _=>none
def gH (id:Nat) (r:aC × St):ew :=
 match r.1 with
 | .exit id'=>some (cond (Nat.beq id id') .normal (.exit id'),r.2)
 | e=>some (e,r.2)
def ik (b:aj) (r:aC × St):ew :=
 match r.1 with
 | .goto l=>cond (Al b l) none (some (.goto l,r.2))
 | e=>some (e,r.2)
def mA (rt:RT) (k:Nat) (st:St) (v:AV):ew :=
 match rt.ctx.round with
 | none=>fN rt.call rt.round rt.ctx st k (st.H.alloc (.deferred (some []))) (.fT st.H.next::st.aM) st.H.next v
 | some l=>(tX st.H l).bind λ d=>fN rt.call rt.round rt.ctx st k st.H st.aM d v
def aY:aj->CN
 | .skip=>⟨λ _ st=>some (.normal,st)⟩
 | .label _=>⟨λ _ st=>some (.normal,st)⟩
 | .region steps=>eG steps
 | .seq a b=>⟨λ rt st=>((aY a).run rt st).bind (o9 (aY b).run rt)⟩
 | .cond c a b=>⟨λ rt st=>((Gz c).run st.tm).bind (pz (aY a).run (aY b).run rt st)⟩
 | .block id b=>⟨λ rt st=>((aY b).run rt st).bind (gH id)⟩
 | .loop ah b=>⟨λ rt st=>eB ah ((aY b).run rt) rt.n st⟩
 | .exit id=>⟨λ _ st=>some (.exit id,st)⟩
 | .goto l=>⟨λ _ st=>some (.goto l,st)⟩
 | .ret=>⟨λ _ st=>some (.ret,st)⟩
 | .stuck=>⟨λ _ _=>none⟩
 | .scope b=>⟨λ rt st=>((aY b).run rt st).bind (ik b)⟩
 | .rangeFunc f k=>⟨λ rt st=>((Gz f).run st.tm).bind (mA rt k st)⟩
def exec (AP:gj) (call:bu) (round:fH) (n:Nat) (ctx:Ctx) (c:aj) (st:St):ew:=(aY c).run ⟨AP,call,round,n,ctx⟩ st
def AW (l:Nat) (r:aC × St):Option (bg × AHeap) :=
 match r.1 with
 | .panic c=>some (.panic c,r.2.H)
 | e=>(bJ r.2.H l (cond (so e) .ready .done) (gV e)).bind λ H=>some (.ret (.bool (so e)),H)
def beginRound (H:AHeap) (l:Nat):Option AHeap :=
 match H.get l with
 | some (.loop .ready p f k tm d)=>some (H.set l (.loop .busy p f k tm d))
 | _=>none
def roundOf (AP:gj) (ex:Ctx->aj->St->ew) (args:List AV) (l:Nat) (H:AHeap):Option (bg × AHeap) :=
 match H.get l with
 | some (.loop _ _ f k tm _) =>
  (AP.func f).bind λ fn=>(nth fn.loops k).bind λ lp=>(Dy tm lp.params args).bind λ tm1 =>
  (ex ⟨some l,f⟩ lp.assign { tm:=tm1,aM:=[],up:=none,H:=H }).bind λ r=>match r.1 with
   | .normal=>(beginRound r.2.H l).bind λ H2=>(ex ⟨some l,f⟩ lp.body { r.2 with H:=H2 }).bind λ q=>cond (noDefs q.2.aM) (AW l q) none
   | _=>none
 | _=>none
 where noDefs:List aD->Bool
 | []=>true
 | _=>false
def Gl (H:AHeap) (tm:T AV):cu->Option AV
 | .tmp t=>tm.get t
 | .gf a=>(tm.get a).bind λ v=>match v with | .ptr b o=>H.ae b o|_=>none
 | .dB n a=>(tm.get a).bind λ v=>match v with | .ptr b o=>(H.aG b o n).bind λ l=>some (.agg l) | _=>none
def cG (H:AHeap) (tm:T AV):List cu->Option (List AV)
 | []=>some []
 | r::rs=>(Gl H tm r).bind λ v=>(cG H tm rs).bind λ vs=>some (v::vs)
def dq:List AV->AV
 | [v]=>v
 | l=>.tuple l
def jU (m:Option aw) (up:aw):Option (Option aw) :=
 match m,up with
 | none,[]=>some none
 | some _,(_,true)::_=>some none
 | some _,(v,false)::c=>some (some ((v,false)::c))
 | _,_=>none
def bA (call:bu) (rs:List cu) (tm:T AV):List aD->Option aw->AHeap->Option (bg × AHeap)
 | [],none,H=>(cG H tm rs).bind λ l=>some (.ret (dq l),H)
 | [],some c,H=>some (.panic c,H)
 | .fT b::ds,m,H=>match H.get b with
  | some (.deferred (some []))=>bA call rs tm ds m (H.set b (.deferred none))
  | _=>none
 | .fn (.func f) args::ds,m,H=>(call f args (some (m.getD [])) H).bind λ r =>
  match r.1,r.2.1 with
  | .ret _,some up'=>(jU m up').bind λ m'=>bA call rs tm ds m' r.2.2
  | _,_=>none
 | .fn (.yield _) _::_,_,_=>none
def mh (call:bu) (fn:cm) (r:aC × St):Option (bg × Option aw × AHeap) :=
 let fin (m:Option aw):Option (bg × Option aw × AHeap):=(bA call fn.results r.2.tm r.2.aM m r.2.H).bind λ q=>some (q.1,r.2.up,q.2)
 match r.1 with
 | .normal=>fin none
 | .ret=>fin none
 | .panic c=>fin (some c)
 | _=>none
def rounds (AP:gj) (call:bu) (m:Nat):Nat->fH
 | 0=>λ _ _ _=>none
 | n+1=>roundOf AP (exec AP call (rounds AP call m n) m)
def AY (AP:gj) (call:bu) (n:Nat):bu:=λ f args up H =>
 (AP.func f).bind λ fn =>
  (exec AP call (rounds AP call n n) n ⟨none,f⟩ fn.body { tm:=gg 0 args .nil,aM:=[],up:=up,H:=H }).bind λ r =>
   mh call fn r
def ub (AP:gj):Nat->bu
 | 0=>λ _ _ _ _=>none
 | n+1=>AY AP (ub AP n) n
def gF (AP:gj) (told:bu):Nat->bu
 | 0=>told
 | n+1=>λ f args up H=>match told f args up H with
  | some r=>some r
  | none=>AY AP (gF AP told n) n f args up H
end
end Go.Am
namespace Go.Am
noncomputable section
mutual
def dQ:Value->Option AV
 | .bool b=>some (.bool b)
 | .int k n=>some (.int k n)
 | .string s=>some (.str s.data.toList)
 | .pointer none=>some .nilp
 | .slice none 0 0=>some .nils
 | .map none=>some .jI
 | .nilFunc=>some .nilf
 | .nilIface=>some .nili
 | .iface t v=>(dQ v).bind λ x=>some (.iface t x)
 | .agg cs=>(jR cs.toList).bind λ l=>some (.agg l)
 | .tuple cs=>(jR cs.toList).bind λ l=>some (.tuple l)
 | _=>none
def jR:List Value->Option (List AV)
 | []=>some []
 | v::vs=>(dQ v).bind λ x=>(jR vs).bind λ xs=>some (x::xs)
end
def mP (G:Nat):Operand->Option ba
 | .tmp t=>some (.tmp t)
 | .const v=>(dQ v).bind λ x=>some (.const x)
 | .global g=>if Nat.blt g G then some (.cU g) else none
 | .func f=>some (.func f)
def jZ (G:Nat):List Operand->Option (List ba)
 | []=>some []
 | x::xs=>(mP G x).bind λ y=>(jZ G xs).bind λ ys=>some (y::ys)
def zeroOf (P:Program) (t:TypeId):Option AV:=((P.info? t).bind (·.zero)).bind dQ
def bF (P:Program) (t:TypeId):Option Nat:=(P.info? t).bind λ i=>some i.size
def i6 (P:Program) (t:TypeId):Option Nat:=(P.info? t).bind λ i=>some i.bytes
def mV (P:Program) (t:TypeId):Option (Option Nat) :=
 match P.underlying t with
 | some (.struct _) | some (.array _ _)=>(bF P t).bind λ n=>some (some n)
 | some _=>some none
 | none=>none
def dy (P:Program):Nat->TypeId->Option bl
 | 0,_=>none
 | d+1,t=>match P.underlying t with
  | some (.int _)=>some .int
  | some .string=>some .str
  | some .bool=>some .bool
  | some (.struct fs)=>if P.stoodInHeld t then none else fieldsT (dy P d) fs.toList
  | some (.array n e)=>(bF P e).bind λ s=>(mV P e).bind λ a=>(dy P d e).bind λ q=>some (itemsT s a q n 0)
  | _=>none
 where
 fieldsT (go:TypeId->Option bl):List Field->Option bl
  | []=>some .nil
  | f::fs=>if f.name = "_" then none else (mV P f.type).bind λ a=>(go f.type).bind λ q=>(fieldsT go fs).bind λ r=>some (.part f.offset a q r)
 itemsT (s:Nat) (a:Option Nat) (q:bl):Nat->Nat->bl
  | 0,_=>.nil
  | n+1,i=>.part (i*s) a q (itemsT s a q n (i+1))
def Ig (P:Program) (t:TypeId):Option bl:=dy P 20 t
def eU:Nat->List (Option Operand)->List (Option Nat)
 | _,[]=>[]
 | n,none::r=>none::eU n r
 | n,some _::r=>some n::eU (n+1) r
def iV:List (Option Operand)->List Operand
 | []=>[]
 | none::r=>iV r
 | some x::r=>x::iV r
def uf (pl:Nat->Option (Nat × Nat)):List (Nat × Operand)->Option (List (Nat × Nat))
 | []=>some []
 | (i,_)::r=>(pl i).bind λ p=>(uf pl r).bind λ l=>some (p::l)
def FG (P:Program) (fs:Array Field) (i:Nat):Option (Nat × Nat):=(fs[i]?).bind λ f=>(bF P f.type).bind λ n=>some (f.offset,n)
def E9 (n:Nat) (i:Nat):Option (Nat × Nat):=some (i*n,n)
def NK (P:Program) (b:Builtin) (ts:Array TypeId) (args:List Operand):Option (List Operand × dN) :=
 match b with
 | .len=>match (ts[0]?).bind P.underlying with
  | some (.slice _)=>some (args,.pure Op.dC)
  | _=>none
 | .append=>match ts.toList with
  | [t,tx]=>match P.underlying t,P.underlying tx with
   | some (.slice e),some (.slice _)=>(bF P e).bind λ n=>(i6 P e).bind λ z=>(zeroOf P e).bind λ zv=>if zv.cells.length=n then some (args,.eQ (Op.append e n z)) else none
   | _,_=>none
  | _=>none
 | .clear=>match (ts[0]?).bind P.underlying with
  | some (.slice e)=>(zeroOf P e).bind λ z=>some (args,.eQ (Op.ct z.cells))
  | _=>none
 | .recover=>some (args,.recover)
 | .panic=>some (args,.panic)
 | _=>none
def Fv (_P:Program) (_fn:Func) (_args:List Operand):Option (List Operand × dN):=none
def uO (P:Program) (src dst:TypeId) (x:Operand):Option (List Operand × dN) :=
 match P.underlying src,P.underlying dst with
 | some (.int _),some (.int k)=>some ([x],.pure (Op.wrap k))
 | _,_=>none
def Gq (P:Program):Nat->TypeId->Bool
 | 0,_=>true
 | d+1,t=>match P.underlying t with
  | some (.interface ms)=>!ms.isEmpty
  | some (.struct fs)=>fs.toList.any λ f=>f.name != "_" && Gq P d f.type
  | some (.array _ e)=>Gq P d e
  | _=>false
theorem Oe (P:Program):∀ (d:Nat) (t:TypeId),Gq P d t=P.eqGuardType d t
 | 0,_=>rfl
 | d+1,t=>by
  rw [Gq,Program.eqGuardType];cases P.underlying t with
  | none=>rfl
  | some u =>
   cases u with
   | struct fs =>
    show fs.toList.any _=fs.any _;rw [<-Array.any_toList];congr 1;funext f;rw [Oe P d]
   | array _ e=>exact Oe P d e
   | _=>rfl
def Ba (P:Program) (t:TypeId) (x y:Operand):Option qJ :=
 match P.underlying t with
 | some .bool=>some .bool
 | some (.pointer e)=>match bF P e with
  | some (_+1)=>some .ptr
  | _=>none
 | some (.slice _)=>some .slice
 | some (.map _ _)=>some .map
 | some (.func _ _ _)=>some .func
 | some (.interface _)=>match x,y with
  | .const .nilIface,_=>some .iface
  | _,.const .nilIface=>some .iface
  | _,_=>some (.ifaces λ u=>(P.info? u).bind λ i=>if i.comparable then dy P 20 u else none)
 | some (.struct _)=>if Gq P P.depth t then none else (dy P 20 t).bind λ q=>some (.agg q)
 | some (.array _ _)=>if Gq P P.depth t then none else (dy P 20 t).bind λ q=>some (.agg q)
 | _=>none
def Fa (P:Program) (op:BinOp) (t:TypeId) (x y:Operand):Option (List Operand × dN) :=
 match P.underlying t with
 | some (.int _)=>some ([x,y],.pure (Op.bin op))
 | some .string=>some ([x,y],.pure (Op.bin op))
 | _=>match op with
  | .eql=>(Ba P t x y).bind λ k=>some ([x,y],.read (Op.eq k false))
  | .neq=>(Ba P t x y).bind λ k=>some ([x,y],.read (Op.eq k true))
  | _=>none
def yZ (P:Program) (c:Call):Option (List Operand × dN) :=
 match c.callee with
 | .value (.func f)=>(P.funcs[f]?).bind λ fn =>
  match fn.body with
  | some _=>some (c.args.toList,.eH f)
  | none=>Fv P fn c.args.toList
 | .value f=>some (f::c.args.toList,.eK)
 | .invoke r m=>some (r::c.args.toList,.invoke m)
 | .builtin b=>NK P b c.argTypes c.args.toList
def Iw (P:Program) (op:Go.Op):Option (List Operand × dN) :=
 match op with
 | .move x=>some ([x],.pure Op.move)
 | .assign x=>some ([x],.pure Op.move)
 | .pick c a b=>some ([c,a,b],.pure Op.pick)
 | .alloc e=>(zeroOf P e).bind λ z=>some ([],.alloc (Op.alloc e z.cells))
 | .box e x=>some ([x],.alloc (Op.box e))
 | .build t parts=>(zeroOf P t).bind λ z =>
  match P.underlying t with
  | some (.struct fs)=>if fs.toList.all (λ f=>(bF P f.type).isSome) then (uf (FG P fs) parts.toList).bind λ ps=>some (parts.toList.map (·.2),.pure (Op.build z.cells ps)) else none
  | some (.array _ e)=>(bF P e).bind λ n=>(uf (E9 n) parts.toList).bind λ ps=>some (parts.toList.map (·.2),.pure (Op.build z.cells ps))
  | _=>none
 | .buildSlice t len parts =>
  match P.underlying t with
  | some (.slice e)=>(bF P e).bind λ n=>(zeroOf P e).bind λ z=>(uf (E9 n) parts.toList).bind λ ps=>if z.cells.length=n/\len*n<=16777216 then some (parts.toList.map (·.2),.alloc (Op.buildSlice e len z.cells ps)) else none
  | _=>none
 | .load t a=>(mV P t).bind λ r=>match r with
  | none=>some ([a],.read Op.ae)
  | some n=>some ([a],.read (Op.aG n))
 | .store t a x=>(bF P t).bind λ n=>some ([a,x],.eQ (Op.store n))
 | .nilCheck x=>some ([x],.pure Op.nilCheck)
 | .binOp op t x y _=>Fa P op t x y
 | .unOp op _ x=>some ([x],.pure (Op.un op))
 | .convert src dst x=>uO P src dst x
 | .makeFunc (.func f) a b=>some (a.toList++b.toList,.pure (Op.cA f a.size))
 | .makeSlice t l c =>
  match P.underlying t with
  | some (.slice e)=>(i6 P e).bind λ b=>(zeroOf P e).bind λ z=>(bF P e).bind λ n=>if z.cells.length=n then some ([l,c],.alloc (Op.mkSlice e b z.cells)) else none
  | _=>none
 | .slice t x lo hi mx =>
  match P.underlying t with
  | some (.slice e)=>(bF P e).bind λ n=>some (x::iV [lo,hi,mx],.pure (Op.aJ n (eU 0 [lo,hi,mx])))
  | _=>none
 | .fieldAddr t x i =>
  match P.underlying t with
  | some (.struct fs)=>(fs[i]?).bind λ f=>(bF P f.type).bind λ n=>if n == 0 then none else some ([x],.pure (Op.fieldAddr f.offset))
  | _=>none
 | .indexAddr t x i =>
  match P.underlying t with
  | some (.slice e)=>(bF P e).bind λ n=>some ([x,i],.pure (Op.aQ n))
  | some (.array k e)=>(bF P e).bind λ n=>some ([x,i],.pure (Op.bE k n))
  | _=>none
 | .index t x i =>
  match P.underlying t with
  | some .string=>some ([x,i],.pure Op.cr)
  | _=>none
 | .extract x i=>some ([x],.pure (Op.extract i))
 | .call c=>yZ P c
 | .defer c=>match c.callee with
  | .value f=>some (f::c.args.toList,.defer)
  | _=>none
 | .panic x=>some ([x],.panic)
 | _=>none
def dT (P:Program) (o:Oper):Option (List ba × dN) :=
 match (Iw P o.op).bind λ r=>(jZ P.globals.size r.1).bind λ args=>some (args,r.2) with
 | some r=>some r
 | none=>some ([],.pure Op.fail)
inductive EC where
 | pure|read|alloc|eQ
 deriving DecidableEq
def mz:dN->EC
 | .pure _=>.pure
 | .read _=>.read
 | .alloc _=>.alloc
 | _=>.eQ
def jE (cls:Nat->EC) (dS:Nat->Nat) (n:Nat):Nat->Nat->List (Bool × Nat)->List (Bool × Nat)
 | 0,_,acc=>acc.reverse
 | fuel+1,done,acc =>
  let ready (i:Nat):Bool:=!done.testBit i && (dS i &&& done) == dS i
  let todo:=(List.range n).filter λ i=>!done.testBit i
  match todo.find? (λ i=>ready i && (cls i == .pure || cls i == .read)) with
  | some i=>jE cls dS n fuel (done ||| 2 ^ i) ((false,i)::acc)
  | none =>
   -- the next effect: the first one (effects are in a row)
   match todo.find? (λ i=>cls i == .eQ) with
   | some e =>
    if ready e then
     let again:=(acc.reverse.filter λ q=>!q.1 && cls q.2 == .read && !(dS e).testBit q.2).map λ q=>(true,q.2)
     jE cls dS n fuel (done ||| 2 ^ e) (again.reverse++((false,e)::acc))
    else match todo.find? (λ i=>ready i && (dS e).testBit i) with
     | some i=>jE cls dS n fuel (done ||| 2 ^ i) ((false,i)::acc)
     | none=>acc.reverse
   | none=>match todo.find? ready with
    | some i=>jE cls dS n fuel (done ||| 2 ^ i) ((false,i)::acc)
    | none=>acc.reverse
def bX {α:Type}:List (Option α)->Option (List α)
 | []=>some []
 | x::xs=>x.bind λ a=>(bX xs).bind λ l=>some (a::l)
def guardOf (ops:Array Oper):Option (Nat × Bool)->Option (Option (Nat × Bool))
 | none=>some none
 | some g=>((ops[g.1]?).bind (·.dst)).bind λ t=>some (some (t,g.2))
def fM (ops:Array Oper) (l:List (List ba × dN)) (safe:Nat->Option (List Nat)) (q:Bool × Nat):Option aL :=
 (ops[q.2]?).bind λ o=>(l[q.2]?).bind λ a=>(guardOf ops o.guard).bind λ g =>
  some { eO:=q.1,dst:=o.dst,guard:=g,args:=a.1,op:=a.2,bG:=safe q.2 }
def kY (nt:Nat) (o:Oper):Bool :=
 match o.dst with
 | none=>true
 | some d=>Nat.blt d nt
def lS (a b:Nat):Bool:=Nat.beq (Nat.land a b) a
def bitsOf:List (Bool × Nat)->Nat->Nat
 | [],d=>d
 | (true,_)::l,d=>bitsOf l d
 | (false,i)::l,d=>bitsOf l (Nat.lor d (2 ^ i))
def kC:List (Bool × Nat)->Nat->Nat
 | (true,r)::l,d=>kC l (Nat.lor d (2 ^ r))
 | _,d=>d
def mo (c d:EC):Bool:=match c,d with
 | .pure,.pure=>true
 | .read,.read=>true
 | .alloc,.alloc=>true
 | .eQ,.eQ=>true
 | _,_=>false
def fR (p:Nat->Bool):Nat->Nat
 | 0=>0
 | n+1=>cond (p n) (Nat.lor (fR p n) (2 ^ n)) (fR p n)
structure iQ where
 n:Nat
 dS:Nat->Nat
 cls:Nat->EC
 sL:Nat->Nat->Bool
 self:Nat->Bool
 made:Nat
 reads:Nat
def Gx (I:iQ) (done:Nat) (post:List (Bool × Nat)):Bool × Nat->Bool
 | (false,i)=>Nat.blt i I.n && (!done.testBit i && (lS (I.dS i) done && (match I.cls i with
  | .read=>lS (Nat.land done I.made) (I.dS i)
  | .eQ=>lS (Nat.land done I.made) (I.dS i) && lS (Nat.land done I.reads) (Nat.lor (I.dS i) (kC post 0))
  | _=>true)))
 | (true,r)=>mo (I.cls r) .read && (I.self r && (done.testBit r && lS (Nat.land done (fR (λ w=>!Nat.beq w r && I.sL r w) I.n)) (I.dS r)))
def Fu (I:iQ):List (Bool × Nat)->Nat->Bool
 | [],done=>lS (2 ^ I.n-1) done
 | (false,i)::post,done=>Gx I done post (false,i) && Fu I post (Nat.lor done (2 ^ i))
 | (true,r)::post,done=>Gx I done post (true,r) && Fu I post done
def nK (p:Nat->Bool):Nat->Bool
 | 0=>true
 | n+1=>p n && nK p n
def rV (I:iQ):Bool:=nK (λ r=>nK (λ w=>Nat.beq r w || ((I.dS r).testBit w || ((I.dS w).testBit r || !I.sL r w))) I.n) I.n
def tmpsOf:List ba->List Nat
 | []=>[]
 | .tmp t::l=>t::tmpsOf l
 | _::l=>tmpsOf l
def kP (t:Nat):List Nat->Bool
 | []=>false
 | x::l=>Nat.beq x t || kP t l
def fF (ops:Array Oper) (l:List (List ba × dN)) (r:Nat):List Nat :=
 match ops[r]?,l[r]? with
 | some o,some a=>(match guardOf ops o.guard with|some (some g)=>[g.1] | _=>[])++tmpsOf a.1
 | _,_=>[]
def eJ (ops:Array Oper) (w:Nat):Option Nat:=(ops[w]?).bind (·.dst)
def d9 (ops:Array Oper) (l:List (List ba × dN)) (r:Nat):List Nat :=
 (match eJ ops r with|some d=>[d] | none=>[])++fF ops l r
def tA (ops:Array Oper) (l:List (List ba × dN)) (r w:Nat):Bool :=
 match eJ ops w with
 | some t=>kP t (d9 ops l r)
 | none=>false
def uL (ops:Array Oper) (l:List (List ba × dN)) (r:Nat):Bool :=
 match eJ ops r with
 | some t=>!kP t (fF ops l r)
 | none=>true
def kE (l:List (List ba × dN)) (i:Nat):EC:=mz ((l[i]?.getD ([],.recover)).2)
def qA (c:EC):Bool:=mo c .alloc || mo c .eQ
def aK (ops:Array Oper) (l:List (List ba × dN)):iQ :=
 { n:=ops.size,dS:=λ i=>(Region.before ops).getD i 0,cls:=kE l,sL:=tA ops l,self:=uL ops l,made:=fR (λ i=>qA (kE l i)) ops.size,reads:=fR (λ i=>mo (kE l i) .read) ops.size }
def pe (i:Nat):List (Bool × Nat)->List (Bool × Nat)
 | []=>[]
 | (c,j)::l=>cond (!c && Nat.beq j i) [] ((c,j)::pe i l)
def FW (ops:Array Oper) (I:iQ) (plan:List (Bool × Nat)) (i:Nat):Option (List Nat) :=
 let d:=bitsOf (pe i plan) 0
 cond (nK (λ j=>Nat.beq j i || (d.testBit j || (I.dS j).testBit i)) I.n) (some (ops.toList.filterMap (·.dst))) none
def fC (P:Program) (nt:Nat) (ops:Array Oper) (draw:Bool):Option aj :=
 if ops.toList.all (kY nt) then
 (bX (ops.toList.map (dT P))).bind λ l =>
  if draw then
   let I:=aK ops l
   let plan:=jE I.cls I.dS ops.size (2*ops.size) 0 []
   cond (Fu I plan 0 && rV I) ((bX (plan.map (fM ops l (FW ops I plan)))).bind λ steps=>some (.region steps)) (some .stuck)
  else (bX ((List.range ops.size).map λ i=>fM ops l (λ _=>some []) (false,i))).bind λ steps=>some (.region steps)
 else none
def bC (P:Program) (nt:Nat):Nat->Code->Option (aj × List db)
 | _,.skip=>some (.skip,[])
 | _,.region _ ops draw=>(fC P nt ops draw).bind λ c=>some (c,[])
 | k,.seq a b=>(bC P nt k a).bind λ a=>(bC P nt (k+a.2.length) b).bind λ b=>some (.seq a.1 b.1,a.2++b.2)
 | k,.cond c a b=>(mP P.globals.size c).bind λ c=>(bC P nt k a).bind λ a=>(bC P nt (k+a.2.length) b).bind λ b=>some (.cond c a.1 b.1,a.2++b.2)
 | k,.block id b=>(bC P nt k b).bind λ b=>some (.block id b.1,b.2)
 | k,.loop b=>(bC P nt k b).bind λ b=>some (.loop none b.1,b.2)
 | k,.rangeFunc f ps a b=>(mP P.globals.size f).bind λ f=>(bC P nt (k+1) a).bind λ a=>(bC P nt (k+1+a.2.length) b).bind λ b =>
  if ps.toList.all λ p=>Nat.blt p nt then some (.rangeFunc f k,{ params:=ps.toList,assign:=a.1,body:=b.1 }::(a.2++b.2)) else none
 | _,.exit id=>some (.exit id,[])
 | k,.scope b=>(bC P nt k b).bind λ b=>some (.scope b.1,b.2)
 | _,.label l=>some (.label l,[])
 | _,.goto l=>some (.goto l,[])
 | _,.ret=>some (.ret,[])
 | _,.refuse _=>some (.stuck,[])
def mJ (P:Program):List ResultVar->Option (List cu)
 | []=>some []
 | .tmp t::r=>(mJ P r).bind λ l=>some (.tmp t::l)
 | .cell a t::r=>(mV P t).bind λ n=>(mJ P r).bind λ l=>some ((match n with|none=>.gf a|some n=>.dB n a)::l)
def pB (P:Program) (fn:Func):Option cm :=
 fn.body.bind λ b=>(bC P fn.ntmps 0 b).bind λ c=>(mJ P fn.results.toList).bind λ r=>some { results:=r,body:=c.1,loops:=c.2 }
def rk (P:Program) (t:TypeId) (name:String):Option Nat :=
 (P.info? t).bind λ i=>(i.methods.find? (·.name == name)).bind λ m =>
  if !m.path.isEmpty then none else m.func.bind λ p =>
   match P.underlying t,p.2 with
   | none,_=>none
   | some (.pointer _),true=>some p.1
   | some (.pointer _),false=>none
   | some _,true=>none
   | some _,false=>some p.1
def aP (P:Program):gj:={ func:=λ f=>(P.funcs[f]?).bind (pB P),nA:=rk P }
end
end Go.Am
namespace Go.Am
namespace T
variable {α:Type}
theorem go_eq (f:Nat):∀ (g i:Nat),i<=f->i<=g->path.go f i=path.go g i:=by
 induction f with
 | zero=>intro g i hf hg;obtain rfl:i=0:=by omega
         cases g<;>simp [path.go]
 | succ f ih =>
  intro g i hf hg;cases i with
  | zero=>cases g<;>simp [path.go]
  | succ n =>
   cases g with
   | zero=>omega
   | succ g =>
    simp only [path.go];have h:n / 2<=n:=Nat.div_le_self n 2;congr 1;exact ih g (n / 2) (by omega) (by omega)
theorem qy0:path 0=[]:=rfl
theorem K1 (n:Nat):path (n+1)=Nat.beq (n % 2) 0::path (n / 2):=by
 show path.go (n+1) (n+1)=_;simp only [path.go];have h:n / 2<=n:=Nat.div_le_self n 2;exact congrArg (Nat.beq (n % 2) 0 :: ·) (go_eq n (n / 2) (n / 2) h (qf _))
theorem tQ:∀ (i j:Nat),path i=path j->i=j:=by
 intro i
 induction i using Nat.strongRecOn with
 | _ i ih =>
  intro j h;cases i with
  | zero=>cases j with
   | zero=>rfl
   | succ m=>rw [qy0,K1] at h;cases h
  | succ n=>cases j with
   | zero=>rw [qy0,K1] at h;cases h
   | succ m =>
    rw [K1,K1] at h;injection h with h1 h2
    have h3:=ih (n / 2) (by have:=Nat.div_le_self n 2;omega) (m / 2) h2;have h4:n % 2=m % 2:=by
     rcases Nat.mod_two_eq_zero_or_one n with a|a<;>rcases Nat.mod_two_eq_zero_or_one m with b|b<;>simp_all
    omega
theorem vZ (p:List Bool):rb p (.nil:T α)=none:=by
 induction p with
 | nil=>rfl
 | cons b p ih=>cases b<;>exact ih
theorem qua (v:Option α):∀ (p:List Bool) (t:T α),rb p (pq v p t)=v:=by
 intro p
 induction p with
 | nil=>intro t;rfl
 | cons b p ih=>intro t;cases b<;>exact ih _
theorem qyd (v:Option α):∀ (p q:List Bool) (t:T α),p ≠ q->rb q (pq v p t)=rb q t:=by
 intro p
 induction p with
 | nil =>
  intro q t h;cases q with
  | nil=>exact absurd rfl h
  | cons b q=>cases b<;>rfl
 | cons b p ih =>
  intro q t h;cases q with
  | nil=>cases b<;>rfl
  | cons c q =>
   cases b<;>cases c
   ·exact ih q _ (λ e=>h (by rw [e]))
   ·rfl
   ·rfl
   ·exact ih q _ (λ e=>h (by rw [e]))
theorem gJ (t:T α) (i j:Nat) (v:Option α):(t.put i v).get j=if i=j then v else t.get j:=by
 unfold get put
 by_cases h:i=j
 ·subst h;simp [qua]
 ·simp only [h,qo];exact qyd v _ _ t (λ e=>h (tQ i j e))
theorem aE (t:T α) (i j:Nat) (v:α):(t.set i v).get j=if i=j then some v else t.get j:=gJ t i j (some v)
theorem get_nil (j:Nat):(T.nil:T α).get j=none:=vZ _
theorem fZ (p:List Bool) (t:T α):(kN p).run t=rb p t:=by
 induction p generalizing t with
 | nil=>rfl
 | cons b p ih=>cases b<;>exact ih _
theorem tT (v:Option α) (p:List Bool) (t:T α):(sN p).run v t=pq v p t:=by
 induction p generalizing t with
 | nil=>rfl
 | cons b p ih =>
  cases b
  ·show T.node t.l t.val ((sN p).run v t.r)=T.node t.l t.val (pq v p t.r);rw [ih]
  ·show T.node ((sN p).run v t.l) t.val t.r=T.node (pq v p t.l) t.val t.r;rw [ih]
end T
section
variable {α:Type}
theorem jO (l:List α) (i:Nat):nth l i=l[i]?:=by
 induction l generalizing i with
 | nil=>rfl
 | cons x l ih=>cases i with
  | zero=>rfl
  | succ n=>exact ih n
theorem lG (a b:List α):gK a b=a++b:=by
 induction a with
 | nil=>rfl
 | cons x a ih=>exact congrArg (x :: ·) ih
theorem Cq (l:List α):bL l=l.length:=by
 induction l with
 | nil=>rfl
 | cons x l ih=>exact congrArg (·+1) ih
theorem yN (n:Nat) (l:List α):aH n l=l.drop n:=by
 induction n generalizing l with
 | zero=>rfl
 | succ n ih=>cases l with
  | nil=>exact (ih []).trans (by simp)
  | cons x l=>exact ih l
theorem yJ (n:Nat) (l:List α):uy n l=if n<=l.length then some (l.take n) else none:=by
 induction n generalizing l with
 | zero=>rfl
 | succ n ih=>cases l with
  | nil=>rfl
  | cons x l =>
   show (uy n l).bind (λ r=>some (x::r))=_;rw [ih]
   by_cases h:n<=l.length<;>simp [h]
theorem zJ (new l:List α):ri new l=if new.length<=l.length then some (new++l.drop new.length) else none:=by
 induction new generalizing l with
 | nil=>rfl
 | cons x new ih=>cases l with
  | nil=>rfl
  | cons y l =>
   show (ri new l).bind (λ r=>some (x::r))=_;rw [ih]
   by_cases h:new.length<=l.length<;>simp [h]
theorem Ae (o:Nat) (new l:List α):putAt o new l=if o+new.length<=l.length then some (l.take o++new++l.drop (o+new.length)) else none:=by
 induction o generalizing l with
 | zero=>show ri new l=_;rw [zJ];simp
 | succ o ih=>cases l with
  | nil =>
   show none=_;rw [qg (by simp only [vq];omega)]
  | cons x l =>
   show (putAt o new l).bind (λ r=>some (x::r))=_;rw [ih]
   by_cases h:o+new.length<=l.length
   ·rw [ql h,ql (by simp;omega)];simp [show o+1+new.length=(o+new.length)+1 from by omega]
   ·rw [qg h,qg (by simp;omega)];rfl
theorem qP (l:List α) (o n:Nat):dK l o n=if n<=l.length-o then some ((l.drop o).take n) else none:=by
 unfold dK;rw [yJ,yN,ju]
end
theorem BM (a b:Int):nH a b=decide (a<=b):=by
 cases a<;>cases b<;>rw [Bool.eq_iff_iff]<;>simp [nH,yr]<;>try omega
theorem GD (a b:Int):tw a b=decide (a<b):=by
 unfold tw;rw [BM];rw [Bool.eq_iff_iff];simp
theorem BT (a b:Int):pR a b=(a == b):=by
 rw [Bool.eq_iff_iff,AN];cases a<;>cases b<;>simp [pR]<;>omega
theorem Ox (a b:IntKind):pV a b=decide (a=b):=by cases a<;>cases b<;>rfl
theorem yU (a b:UInt8):Et a b=(a == b):=by
 unfold Et;rw [Bool.eq_iff_iff];simp only [zp,AN];exact ⟨λ h=>UInt8.toNat_inj.1 h,λ h=>by rw [h]⟩
theorem FJ (a b:List UInt8):sT a b=(a == b):=by
 induction a generalizing b with
 | nil=>cases b<;>rfl
 | cons x a ih=>cases b with
  | nil=>rfl
  | cons y b =>
   show cond (Et x y) (sT a b) false=_;rw [ih,yU];cases h:(x == y)<;>simp [h]
end Go.Am
namespace Go.Am
structure Th where
 bz:Nat->Nat
 off:Nat->Nat
 ext:Nat->Nat
def dI (θ:Th):eR->Fn
 | .func f=>.func f
 | .yield l=>.yield (θ.bz l)
def zO:Nat->Option Nat
 | 0=>none
 | n+1=>some n
mutual
def aB (θ:Th):AV->Value
 | .bool b=>.bool b
 | .int k n=>.int k n
 | .str s=>.string ⟨s.toArray⟩
 | .nilp=>.pointer none
 | .ptr b o=>.pointer (some ⟨θ.bz b,θ.off b+o,none⟩)
 | .nils=>.slice none 0 0
 | .slice b o n c=>.slice (some ⟨θ.bz b,θ.off b+o,none⟩) n c
 | .gslice b i m s alt n=>.slice (some ⟨θ.bz b,θ.off b+(if (m-i) + θ.ext b=0 then alt else i*s),none⟩) n ((m-i) + θ.ext b)
 | .eslice b=>.slice (some ⟨θ.bz b,θ.off b,zO (θ.ext b)⟩) 0 0
 | .jI=>.map none
 | .map b=>.map (some (θ.bz b))
 | .fn f a b=>.func (dI θ f) (br θ a).toArray (br θ b).toArray
 | .nilf=>.nilFunc
 | .iface t v=>.iface t (aB θ v)
 | .nili=>.nilIface
 | .agg l=>.agg (br θ l).toArray
 | .tuple l=>.tuple (br θ l).toArray
def br (θ:Th):List AV->List Value
 | []=>[]
 | v::vs=>aB θ v::br θ vs
end
theorem oP (θ:Th) (l:List AV):br θ l=l.map (aB θ):=by
 induction l with
 | nil=>rfl
 | cons x l ih=>simp [br,ih]
def Ag (D:Nat->Prop) (θ θ':Th):Prop:=∀ b,D b -> θ'.bz b = θ.bz b /\ θ'.off b = θ.off b /\ θ'.ext b = θ.ext b
theorem Ag.refl (D:Nat->Prop) (θ:Th):Ag D θ θ:=λ _ _=>⟨rfl,rfl,rfl⟩
theorem Ag.trans {D D':Nat->Prop} {θ θ' θ'':Th} (h:Ag D θ θ') (h':Ag D' θ' θ'') (hd:∀ b,D b->D' b):Ag D θ θ'':=λ b hb =>
 let ⟨a1,a2,a3⟩:=h b hb;let ⟨b1,b2,b3⟩:=h' b (hd b hb);⟨b1.trans a1,b2.trans a2,b3.trans a3⟩
theorem Ag.mono {D D':Nat->Prop} {θ θ':Th} (h:Ag D θ θ') (hd:∀ b,D' b->D b):Ag D' θ θ':=λ b hb=>h b (hd b hb)
def VR (D:Nat->Prop) (θ:Th) (v:AV) (c:Value):Prop:=∀ θ',Ag D θ θ'->aB θ' v=c
def bt (D:Nat->Prop) (θ:Th) (l:List AV) (cs:List Value):Prop:=∀ θ',Ag D θ θ'->br θ' l=cs
section
variable {D D':Nat->Prop} {θ θ':Th}
theorem VR.now {v:AV} {c:Value} (h:VR D θ v c):aB θ v=c:=h θ (Ag.refl D θ)
theorem bt.now {l:List AV} {cs:List Value} (h:bt D θ l cs):br θ l=cs:=h θ (Ag.refl D θ)
theorem VR.up {v:AV} {c:Value} (h:VR D θ v c) (ha:Ag D θ θ') (hd:∀ b,D b->D' b):VR D' θ' v c:=λ θ'' h'=>h θ'' (ha.trans h' hd)
theorem bt.up {l:List AV} {cs:List Value} (h:bt D θ l cs) (ha:Ag D θ θ') (hd:∀ b,D b->D' b):bt D' θ' l cs:=λ θ'' h'=>h θ'' (ha.trans h' hd)
theorem bt.nil:bt D θ [] []:=λ _ _=>rfl
theorem bt.cons {v:AV} {c:Value} {l:List AV} {cs:List Value} (h:VR D θ v c) (hl:bt D θ l cs):bt D θ (v::l) (c::cs) :=
 λ θ' ha=>by simp [br,h θ' ha,hl θ' ha]
theorem bt.dW {v:AV} {l:List AV} {cs:List Value} (h:bt D θ (v::l) cs):∃ c cs',cs=c::cs'/\VR D θ v c/\bt D θ l cs':=by
 refine ⟨aB θ v,br θ l,(by rw [<-h.now];rfl),λ θ' ha=>?_,λ θ' ha=>?_⟩
 ·have:=(h θ' ha).trans h.now.symm;simp only [br] at this;injection this
 ·have:=(h θ' ha).trans h.now.symm;simp only [br] at this;injection this
theorem bt.nR {cs:List Value} (h:bt D θ [] cs):cs=[]:=h.now.symm
theorem bt.length {l:List AV} {cs:List Value} (h:bt D θ l cs):cs.length=l.length:=by rw [<-h.now,oP];simp
theorem bt.app {l l':List AV} {cs cs':List Value} (h:bt D θ l cs) (h':bt D θ l' cs'):bt D θ (l++l') (cs++cs'):=by
 intro θ' ha;rw [oP,Ef,<-oP,<-oP,h θ' ha,h' θ' ha]
theorem bt.mu {l:List AV} {cs:List Value} (h:bt D θ l cs) {i:Nat} {v:AV} (hv:l[i]? = some v):∃ c,cs[i]? = some c/\VR D θ v c:=by
 refine ⟨aB θ v,?_,λ θ' ha=>?_⟩
 ·rw [<-h.now,oP,xg,hv];rfl
 ·have:=(h θ' ha).trans h.now.symm;rw [oP,oP] at this;have h2:=congrArg (λ l=>l[i]?) this;simp only [xg,hv,GR,qc] at h2;exact h2
theorem bt.drop {l:List AV} {cs:List Value} (h:bt D θ l cs) (n:Nat):bt D θ (l.drop n) (cs.drop n):=by
 intro θ' ha;rw [oP,List.map_drop,<-oP,h θ' ha]
theorem bt.take {l:List AV} {cs:List Value} (h:bt D θ l cs) (n:Nat):bt D θ (l.take n) (cs.take n):=by
 intro θ' ha;rw [oP,List.map_take,<-oP,h θ' ha]
theorem bt.one {v:AV} {c:Value} (h:VR D θ v c):bt D θ [v] [c]:=.cons h .nil
theorem VR.agg {l:List AV} {cs:List Value} (h:bt D θ l cs):VR D θ (.agg l) (.agg cs.toArray):=λ θ' ha=>by simp [aB,h θ' ha]
theorem VR.tuple {l:List AV} {cs:List Value} (h:bt D θ l cs):VR D θ (.tuple l) (.tuple cs.toArray):=λ θ' ha=>by simp [aB,h θ' ha]
theorem VR.gw {l:List AV} {c:Value} (h:VR D θ (.agg l) c):∃ cs:List Value,c=.agg cs.toArray/\bt D θ l cs:=by
 refine ⟨br θ l,h.now.symm,λ θ' ha=>?_⟩;have:=(h θ' ha).trans h.now.symm;simpa [aB] using this
theorem VR.sO {l:List AV} {c:Value} (h:VR D θ (.tuple l) c):∃ cs:List Value,c=.tuple cs.toArray/\bt D θ l cs:=by
 refine ⟨br θ l,h.now.symm,λ θ' ha=>?_⟩;have:=(h θ' ha).trans h.now.symm;simpa [aB] using this
theorem VR.iface {t:Nat} {v:AV} {c:Value} (h:VR D θ v c):VR D θ (.iface t v) (.iface t c):=λ θ' ha=>by simp [aB,h θ' ha]
theorem VR.iF {t:Nat} {v:AV} {c:Value} (h:VR D θ (.iface t v) c):∃ c',c=.iface t c'/\VR D θ v c':=by
 refine ⟨aB θ v,h.now.symm,λ θ' ha=>?_⟩;have:=(h θ' ha).trans h.now.symm;simpa [aB] using this
theorem VR.undef:VR D θ .undef Go.undef:=λ _ _=>rfl
theorem VR.bool (b:Bool):VR D θ (.bool b) (.bool b):=λ _ _=>rfl
theorem VR.int (k:IntKind) (n:Int):VR D θ (.int k n) (.int k n):=λ _ _=>rfl
theorem VR.str (s:List UInt8):VR D θ (.str s) (.string ⟨s.toArray⟩):=λ _ _=>rfl
theorem VR.ptr {b o:Nat} (hb:D b):VR D θ (.ptr b o) (.pointer (some ⟨θ.bz b,θ.off b+o,none⟩)):=λ θ' ha=>by obtain ⟨h1,h2,_⟩:=ha b hb;simp [aB,h1,h2]
theorem VR.map {b:Nat} (hb:D b):VR D θ (.map b) (.map (some (θ.bz b))):=λ θ' ha=>by obtain ⟨h1,_,_⟩:=ha b hb;simp [aB,h1]
theorem VR.slice {b o n c:Nat} (hb:D b):VR D θ (.slice b o n c) (aB θ (.slice b o n c)):=λ θ' ha=>by obtain ⟨h1,h2,_⟩:=ha b hb;simp [aB,h1,h2]
theorem VR.gslice {b i m s alt n:Nat} (hb:D b):VR D θ (.gslice b i m s alt n) (aB θ (.gslice b i m s alt n)):=λ θ' ha=>by
 obtain ⟨h1,h2,h3⟩:=ha b hb;simp [aB,h1,h2,h3]
end
def Dg (fz cfz:Nat × Nat) (off size:Nat):Prop:=cfz.1=cfz.2\/(cfz.1<cfz.2/\off+fz.1<=cfz.1/\cfz.2<=off+fz.2)\/(fz.2<fz.1/\(size<=cfz.1\/cfz.2<=off))
def Eh (fz cfz:Nat × Nat):Prop:=cfz.1=cfz.2\/(cfz.1<cfz.2/\fz.1<=cfz.1/\cfz.2<=fz.2)
def own:bm->Bool
 | .row _ _ _ o=>o
 | _=>true
def lV (D:Nat->Prop) (θ:Th) (tm:T AV) (a:Array Value):Prop:=∀ t v,tm.get t=some v -> ∃ c,a[t]? = some c/\VR D θ v c
def stR:i7->LoopState
 | .ready=>.ready | .busy=>.busy | .done=>.done | .exhausted=>.exhausted
def iP:eI->Code
 | .exit id=>.exit id
 | .goto l=>.goto l
 | .ret=>.ret
def I4 (D:Nat->Prop) (θ:Th) (e:AV × AV × Nat) (m:MapEntry):Prop:=VR D θ e.1 m.key/\VR D θ e.2.1 m.val/\m.born=e.2.2
def cM (D:Nat->Prop) (θ:Th):List (AV × AV × Nat)->List MapEntry->Prop
 | [],[]=>True
 | e::es,m::ms=>I4 D θ e m/\cM D θ es ms
 | _,_=>False
def qQ (P:Program) (f k n:Nat) (params:Array Tmp) (assign body:Code):Prop :=
 ∃ fn af lp ka kb L1 L2,P.funcs[f]? = some fn/\pB P fn=some af/\nth af.loops k=some lp/\lp.params=params.toList/\(∀ p ∈ params.toList,p<fn.ntmps)/\fn.ntmps<=n /\
  bC P fn.ntmps ka assign=some (lp.assign,L1)/\(∀ i l,nth L1 i=some l->nth af.loops (ka+i)=some l) /\
  bC P fn.ntmps kb body=some (lp.body,L2)/\(∀ i l,nth L2 i=some l->nth af.loops (kb+i)=some l)
def NG (D:Nat->Prop) (θ:Th):aD->Deferred->Prop
 | .fT b,d=>D b/\d = { target:=.collected (θ.bz b),args:=#[] }
 | .fn f args,d=>∃ c cap:Array Value,d = { target:=.fn (dI θ f) cap,args:=c }/\(∀ θ',Ag D θ θ'->dI θ' f=dI θ f)/\bt D θ args (c++cap).toList
def lW (P:Program) (D:Nat->Prop) (θ:Th) (b:Nat):bm->Obj->Prop
 | .row cells e fz ow,o=>∃ pre cs post cfz e',o=.cells (pre++cs++post).toArray e' cfz/\pre.length = θ.off b/\bt D θ cells cs /\
  (ow=true->e'=e/\pre=[]/\post=[]/\Eh fz cfz)
 | .grown m size cells e fz,o=>∃ pre cs post cfz,o=.cells (pre++cs++post).toArray e cfz/\pre.length = θ.off b/\bt D θ cells cs /\
  cells.length=m*size/\post.length = θ.ext b*size/\0<size/\m + θ.ext b<=maxLen/\Dg fz cfz (θ.off b) (pre.length+cs.length+post.length)
 | .map es clock,o=>∃ ms:List MapEntry,o=.map ms.toArray clock/\cM D θ es ms
 | .iE s pos,o=>o=.stringIter ⟨s.toArray⟩ pos /\ θ.off b=0
 | .loop st pend f k tm d,o=>∃ r:Loop,o=.loop r/\r.state=stR st/\r.pending=pend.map iP/\r.fn=f/\lV D θ tm r.tmps/\qQ P f k r.tmps.size r.params r.assign r.body /\
  D d/\r.defers = θ.bz d
 | .deferred calls,o=>∃ ds,o=.deferred ds/\(match calls,ds with
  | none,none=>True
  | some l,some l'=>l=[]/\l'=[]
  | _,_=>False)
structure HR (P:Program) (base:Nat) (D:Nat->Prop) (θ:Th) (H:AHeap) (w:World):Prop where
 obj:∀ b o,H.get b=some o->D b /\ ∃ co,w.heap[θ.bz b]? = some co/\lW P D θ b o co
 inj:∀ b b' o o',H.get b=some o->H.get b'=some o'->own o=true->b ≠ b' -> θ.bz b ≠ θ.bz b'
 ir:∀ b o,H.get b=some o->own o=true->base <= θ.bz b
 cU:∀ g,g<P.globals.size->D g /\ θ.bz g=g /\ θ.off g=0
 low:base<=w.heap.size
def Lt (n:Nat):Nat->Prop:=λ b=>b<n
end Go.Am
namespace Go.Am
theorem rA (k o i:Nat):(⟨k,o,none⟩:Addr).add i=⟨k,o+i,none⟩:=by unfold Addr.add;split<;>simp_all
def dZ (w:World) (k:Nat) (o:Obj):World:={ w with heap:=w.heap.setIfInBounds k o }
theorem J2 (w:World) (k:Nat) (o:Obj):(dZ w k o).heap.size=w.heap.size:=by simp [dZ]
theorem Fo (w:World) (k j:Nat) (o:Obj) (h:k<w.heap.size):(dZ w k o).heap[j]? = if k=j then some o else w.heap[j]?:=by
 simp only [dZ,yg];split<;>simp_all
theorem q7z (w:World) (k:Nat) (o o':Obj):dZ (dZ w k o) k o'=dZ w k o':=by
 simp [dZ]
theorem q7y (w:World) (k:Nat) (o:Obj) (h:w.heap[k]? = some o):dZ w k o=w:=by
 have:w.heap.setIfInBounds k o=w.heap:=by
  apply Array.ext_getElem?;intro j;rw [yg]
  by_cases hj:k=j
  ·subst hj;obtain ⟨hk,h2⟩:=jw.1 h;simp [hk,h2]
  ·simp [hj]
 simp only [dZ,this]
theorem ug (w:World) (o:Obj) (j:Nat):(w.alloc o).heap[j]? = if j=w.heap.size then some o else w.heap[j]?:=by
 simp only [World.alloc,Array.getElem?_push]
section
variable {P:Program} {w:World} {k:Nat} {arr:Array Value} {e:TypeId} {fz:Nat × Nat}
theorem Iv (h:w.heap[k]? = some (.cells arr e fz)) (o:Nat):w.cell? ⟨k,o,none⟩=arr[o]?:=by simp [World.cell?,h]
theorem q7b (h:w.heap[k]? = some (.cells arr e fz)) {o:Nat} {v:Value} (hv:arr[o]? = some v):(load ⟨k,o,none⟩).run P w=.ok v w:=by
 rw [run_load,Iv h,hv]
theorem qzb (h:w.heap[k]? = some (.cells arr e fz)) (o n:Nat) (hn:n<=arr.size-o) :
 (loadCells ⟨k,o,none⟩ n).run P w=.ok ((arr.toList.drop o).take n).toArray w:=by
 have hl:((arr.toList.drop o).take n).length=n:=by simp;omega
 have:=run_loadCells_list (P:=P) w ⟨k,o,none⟩ ((arr.toList.drop o).take n) (λ j v hv=>by
  rw [rA,Iv h];rw [kc] at hv;split at hv
  ·simpa using hv
  ·cases hv)
 rwa [hl] at this
theorem K0 (hlo:Nat):∀ (vs:List Value) (i:Nat) (arr:Array Value) (w:World),w.heap[k]? = some (.cells arr e fz) ->
 hlo+i+vs.length<=arr.size->(∀ j,j<vs.length -> ¬ (fz.1<=hlo+i+j/\hlo+i+j<fz.2))->(∀ v ∈ vs,v.oneCell'=true) ->
 (storeCells ⟨k,hlo,none⟩ vs i).run P w=.ok () (dZ w k (.cells (arr.toList.take (hlo+i)++vs++arr.toList.drop (hlo+i+vs.length)).toArray e fz))
 | [],i,arr,w,hg,_,_,_=>by
  simp only [storeCells,xt,vq,qh,kr,HF];rw [q7y w k _ hg];rfl
 | v::rest,i,arr,w,hg,hl,hf,h1=>by
  have hi:hlo+i<arr.size:=by simp at hl;omega
  have hk:k<w.heap.size:=(jw.1 hg).1;have hcell:w.cell? ⟨k,hlo+i,none⟩=some arr[hlo+i]:=by rw [Iv hg];simp [hi]
  have hfro:w.frozen? ⟨k,hlo+i,none⟩=false:=by
   have:=hf 0 (by simp);simp only [World.frozen?,hg];simp at this ⊢;omega
  have hset:w.setCell ⟨k,hlo+i,none⟩ v=dZ w k (.cells (arr.setIfInBounds (hlo+i) v) e fz):=by
   simp only [World.setCell,dZ];congr 1;apply Array.ext_getElem?;intro j;rw [Array.getElem?_modify,yg]
   by_cases hj:k=j
   ·subst hj;have h2:=(jw.1 hg).2;simp [hk,h2]
   ·simp [hj]
  have hst:(store ((⟨k,hlo,none⟩:Addr).add i) v).run P w=.ok () (dZ w k (.cells (arr.setIfInBounds (hlo+i) v) e fz)):=by
   rw [rA,run_store P w _ v _ (h1 v (by simp)),hcell];simp [hfro,hset]
  have ih:=K0 hlo rest (i+1) (arr.setIfInBounds (hlo+i) v) (dZ w k (.cells (arr.setIfInBounds (hlo+i) v) e fz))
   (by rw [Fo _ _ _ _ hk];simp) (by simp at hl ⊢;omega)
   (λ j hj=>by have:=hf (j+1) (by simpa using hj);rwa [show hlo+i+(j+1)=hlo+(i+1)+j from by omega] at this)
   (λ x hx=>h1 x (by simp [hx]))
  simp only [storeCells,Sem.run_bind,hst,Result.andThen_ok,ih,q7z];congr 3;have ee:=list_seg_step arr.toList (hlo+i) v rest (by simp at hl ⊢;omega)
  simpa [Array.toList_setIfInBounds,kx] using ee
end
def Up (D:Nat->Prop) (n m:Nat):Nat->Prop:=λ b=>D b\/(n<=b/\b<m)
theorem Up.of {D:Nat->Prop} {n m:Nat}:∀ b,D b->Up D n m b:=λ _ h=>.inl h
def cK (D:Nat->Prop) (n m:Nat):Prop:=∀ b,n<=b->b<m -> ¬ D b
theorem Up.up {D:Nat->Prop} {n m k:Nat} (h:n<=m) (h':m<=k):Up (Up D n m) m k=Up D n k:=by
 funext b;simp only [Up,eq_iff_iff];constructor
 ·rintro ((h1|⟨h1,h2⟩) | ⟨h1,h2⟩)
  ·exact .inl h1
  ·exact .inr ⟨h1,by omega⟩
  ·exact .inr ⟨by omega,h2⟩
 ·rintro (h1|⟨h1,h2⟩)
  ·exact .inl (.inl h1)
  ·by_cases hb:b<m
   ·exact .inl (.inr ⟨h1,hb⟩)
   ·exact .inr ⟨by omega,h2⟩
theorem Up.none {D:Nat->Prop} {n:Nat}:Up D n n=D:=by
 funext b;simp only [Up,eq_iff_iff];constructor
 ·rintro (h|⟨h1,h2⟩)
  ·exact h
  ·omega
 ·exact .inl
theorem cK.left {D:Nat->Prop} {n m k:Nat} (h:cK D n k) (hk:m<=k):cK D n m:=λ b h1 h2=>h b h1 (by omega)
theorem cK.right {D:Nat->Prop} {n m k:Nat} (h:cK D n k) (hm:n<=m):cK (Up D n m) m k:=λ b h1 h2 h3=>by
 rcases h3 with h3|⟨_,h4⟩
 ·exact h b (by omega) h2 h3
 ·omega
structure aX (D:Nat->Prop) (H:AHeap) (θ:Th) (w:World) (H':AHeap) (θ':Th) (w':World):Prop where
 next:H.next<=H'.next
 ag:Ag D θ θ'
 size:w.heap.size<=w'.heap.size
 os:w'.os=w.os
 tape:w'.tape=w.tape
 output:w'.output=w.output
 ah:∀ k,k<w.heap.size->(∀ b o,H.get b=some o->own o=true -> θ.bz b ≠ k)->w'.heap[k]? = w.heap[k]?
 news:∀ b o,H'.get b=some o->own o=true -> θ'.bz b<w.heap.size -> ∃ b' o',H.get b'=some o'/\own o'=true /\ θ.bz b' = θ'.bz b
theorem aX.refl (D:Nat->Prop) (H:AHeap) (θ:Th) (w:World):aX D H θ w H θ w :=
 ⟨qf _,Ag.refl _ _,qf _,rfl,rfl,rfl,λ _ _ _=>rfl,λ b o h ho _=>⟨b,o,h,ho,rfl⟩⟩
theorem aX.trans {D D':Nat->Prop} {H H' H'':AHeap} {θ θ' θ'':Th} {w w' w'':World} (a:aX D H θ w H' θ' w') (b:aX D' H' θ' w' H'' θ'' w'') (hd:∀ b,D b->D' b):aX D H θ w H'' θ'' w'':=by
 refine ⟨xj a.next b.next,a.ag.trans b.ag hd,xj a.size b.size,b.os.trans a.os,b.tape.trans a.tape,b.output.trans a.output,?_,?_⟩
 ·intro k hk hno;refine (b.ah k (qk hk a.size) ?_).trans (a.ah k hk hno);intro x o hx ho he;obtain ⟨b',o',h1,h2,h3⟩:=a.news x o hx ho (by omega);exact hno b' o' h1 h2 (by omega)
 ·intro x o hx ho hlt;obtain ⟨b',o',h1,h2,h3⟩:=b.news x o hx ho (qk hlt a.size);obtain ⟨b'',o'',g1,g2,g3⟩:=a.news b' o' h1 h2 (by omega);exact ⟨b'',o'',g1,g2,by omega⟩
theorem aX.draw {D:Nat->Prop} {H:AHeap} {θ:Th} {w w':World} (hh:w'.heap=w.heap) (ho:w'.os=w.os) (ht:w'.tape=w.tape) (hp:w'.output=w.output):aX D H θ w H θ w' :=
 ⟨qf _,Ag.refl _ _,by rw [hh];exact qf _,ho,ht,hp,λ _ _ _=>by rw [hh],λ b o h hw _=>⟨b,o,h,hw,rfl⟩⟩
theorem HR.draw {P:Program} {base:Nat} {D:Nat->Prop} {θ:Th} {H:AHeap} {w w':World} (h:HR P base D θ H w) (hh:w'.heap=w.heap):HR P base D θ H w' :=
 ⟨λ b o hb=>by rw [hh];exact h.obj b o hb,h.inj,h.ir,h.cU,by rw [hh];exact h.low⟩
theorem cM.up {D D':Nat->Prop} {θ θ':Th} (ha:Ag D θ θ') (hd:∀ b,D b->D' b):∀ (es:List (AV × AV × Nat)) (ms:List MapEntry),cM D θ es ms->cM D' θ' es ms
 | [],[],_=>trivial
 | e::es,m::ms,⟨⟨h1,h2,h3⟩,h⟩=>⟨⟨h1.up ha hd,h2.up ha hd,h3⟩,cM.up ha hd es ms h⟩
 | [],_::_,h=>h.elim
 | _::_,[],h=>h.elim
theorem lW.up {P:Program} {D D':Nat->Prop} {θ θ':Th} {b:Nat} {o:bm} {co:Obj} (h:lW P D θ b o co) (hb:D b) (ha:Ag D θ θ') (hd:∀ b,D b->D' b):lW P D' θ' b o co:=by
 obtain ⟨e1,e2,e3⟩:=ha b hb;cases o with
 | row cells e fz ow =>
  obtain ⟨pre,cs,post,cfz,et,h1,h2,h3,h4⟩:=h;exact ⟨pre,cs,post,cfz,et,h1,by rw [e2];exact h2,h3.up ha hd,h4⟩
 | grown m size cells e fz =>
  obtain ⟨pre,cs,post,cfz,h1,h2,h3,h4,h5,h6,h7,h8⟩:=h;exact ⟨pre,cs,post,cfz,h1,by rw [e2];exact h2,h3.up ha hd,h4,by rw [e3];exact h5,h6,by rw [e3];exact h7,by rw [e2];exact h8⟩
 | map es clock =>
  obtain ⟨ms,h1,h2⟩:=h;exact ⟨ms,h1,cM.up ha hd _ _ h2⟩
 | iE s pos=>exact ⟨h.1,e2.trans h.2⟩
 | loop st pend f k tm d =>
  obtain ⟨r,h1,h2,h3,h4,h5,h6,h7,h8⟩:=h;exact ⟨r,h1,h2,h3,h4,λ t v hv=>let ⟨c,hc,hr⟩:=h5 t v hv;⟨c,hc,hr.up ha hd⟩,h6,hd d h7,by rw [(ha d h7).1];exact h8⟩
 | deferred calls=>exact h
theorem HR.up {P:Program} {base:Nat} {D D':Nat->Prop} {θ:Th} {H:AHeap} {w:World} (h:HR P base D θ H w) (hd:∀ b,D b->D' b):HR P base D' θ H w :=
 ⟨λ b o hb=>let ⟨h1,co,h2,h3⟩:=h.obj b o hb;⟨hd b h1,co,h2,h3.up h1 (Ag.refl _ _) hd⟩,h.inj,h.ir,λ g hg=>⟨hd g (h.cU g hg).1,(h.cU g hg).2⟩,h.low⟩
section
variable {P:Program} {base:Nat} {D:Nat->Prop} {θ:Th} {H:AHeap} {w:World}
theorem HR.lt (h:HR P base D θ H w) {b:Nat} {o:bm} (hb:H.get b=some o):θ.bz b<w.heap.size:=by
 obtain ⟨_,co,hc,_⟩:=h.obj b o hb;exact (jw.1 hc).1
theorem AHeap.aE (H:AHeap) (b b':Nat) (o:bm):(H.set b o).get b'=if b=b' then some o else H.get b':=T.aE _ _ _ _
theorem AHeap.bc (H:AHeap) (b':Nat) (o:bm):(H.alloc o).get b'=if H.next=b' then some o else H.get b':=T.aE _ _ _ _
theorem AHeap.mi (H:AHeap) (b b':Nat):(H.kill b).get b'=if b=b' then none else H.get b':=T.gJ _ _ _ _
theorem HR.set (h:HR P base D θ H w) {b:Nat} {o o':bm} {co':Obj} (hb:H.get b=some o) (ho:own o=true) (ho':own o'=true) (hr:lW P D θ b o' co') :
 HR P base D θ (H.set b o') (dZ w (θ.bz b) co'):=by
 have hlt:=h.lt hb;refine ⟨λ x ox hx=>?_,λ x y ox oy hx hy hox hne=>?_,λ x ox hx hox=>?_,h.cU,by rw [J2];exact h.low⟩
 ·rw [AHeap.aE] at hx
  by_cases e:b=x
  ·subst e;simp only [xa,qc] at hx;subst hx;exact ⟨(h.obj b o hb).1,co',by rw [Fo _ _ _ _ hlt];simp,hr⟩
  ·simp only [e,qo] at hx;obtain ⟨h1,co,h2,h3⟩:=h.obj x ox hx;exact ⟨h1,co,by rw [Fo _ _ _ _ hlt,qg (h.inj b x o ox hb hx ho e)];exact h2,h3⟩
 ·rw [AHeap.aE] at hx hy
  by_cases e:b=x<;>by_cases e':b=y
  ·exact absurd (e.symm.trans e') hne
  ·subst e;simp only [e',qo] at hy;exact h.inj b y o oy hb hy ho hne
  ·subst e';simp only [e,qo] at hx;exact h.inj x b ox o hx hb hox hne
  ·simp only [e,e',qo] at hx hy;exact h.inj x y ox oy hx hy hox hne
 ·rw [AHeap.aE] at hx
  by_cases e:b=x
  ·subst e;exact h.ir b o hb ho
  ·simp only [e,qo] at hx;exact h.ir x ox hx hox
theorem aX.set {b:Nat} {o o':bm} {co':Obj} (hb:H.get b=some o) (ho:own o=true) (hlt:θ.bz b<w.heap.size) :
 aX D H θ w (H.set b o') θ (dZ w (θ.bz b) co'):=by
 refine ⟨qf _,Ag.refl _ _,by rw [J2];exact qf _,rfl,rfl,rfl,λ k hk hno=>?_,λ x ox hx hox _=>?_⟩
 ·rw [Fo _ _ _ _ hlt,qg (hno b o hb ho)]
 ·rw [AHeap.aE] at hx
  by_cases e:b=x
  ·subst e;exact ⟨b,o,hb,ho,rfl⟩
  ·simp only [e,qo] at hx;exact ⟨x,ox,hx,hox,rfl⟩
def Th.add (θ:Th) (n bz off ext:Nat):Th:={ bz:=λ b=>if b=n then bz else θ.bz b,off:=λ b=>if b=n then off else θ.off b,ext:=λ b=>if b=n then ext else θ.ext b }
theorem Th.c9 (θ:Th) (n bz off ext:Nat):(θ.add n bz off ext).bz n=bz/\(θ.add n bz off ext).off n=off/\(θ.add n bz off ext).ext n=ext:=by simp [Th.add]
theorem Th.eD (θ:Th) (n bz off ext:Nat) {D:Nat->Prop} (hn:¬ D n):Ag D θ (θ.add n bz off ext):=λ b hb=>by
 have:b ≠ n:=λ e=>hn (e ▸ hb);simp [Th.add,this]
end
section
variable {P:Program} {base:Nat} {D:Nat->Prop} {θ:Th} {H:AHeap} {w:World}
theorem HR.alloc (h:HR P base D θ H w) (hn:¬ D H.next) {o:bm} {co:Obj} {k off ext:Nat} {w':World} (hk:w'.heap[k]? = some co) (hkeep:∀ j,j<w.heap.size->w'.heap[j]? = w.heap[j]?) (hks:w.heap.size<=k)
 (hs:w.heap.size<=w'.heap.size) (hr:lW P (Up D H.next (H.next+1)) (θ.add H.next k off ext) H.next o co) :
 HR P base (Up D H.next (H.next+1)) (θ.add H.next k off ext) (H.alloc o) w':=by
 have hag:=Th.eD θ H.next k off ext hn
 obtain ⟨e1,e2,e3⟩:=Th.c9 θ H.next k off ext
 have old:∀ x ox,H.get x=some ox->(θ.add H.next k off ext).bz x = θ.bz x:=λ x ox hx=>(hag x (h.obj x ox hx).1).1;refine ⟨λ x ox hx=>?_,λ x y ox oy hx hy hox hne=>?_,λ x ox hx hox=>?_,λ g hg=>?_,by have:=h.low;omega⟩
 ·rw [AHeap.bc] at hx
  by_cases e:H.next=x
  ·subst e;simp only [xa,qc] at hx;subst hx;exact ⟨.inr ⟨qf _,ze _⟩,co,by rw [e1];exact hk,hr⟩
  ·simp only [e,qo] at hx;obtain ⟨h1,c,h2,h3⟩:=h.obj x ox hx;refine ⟨.inl h1,c,?_,h3.up h1 hag Up.of⟩;rw [old x ox hx,hkeep _ (h.lt hx)];exact h2
 ·rw [AHeap.bc] at hx hy
  by_cases e:H.next=x<;>by_cases e':H.next=y
  ·exact absurd (e.symm.trans e') hne
  ·subst e;simp only [e',qo] at hy;rw [e1,old y oy hy];have:=h.lt hy;omega
  ·subst e';simp only [e,qo] at hx;rw [e1,old x ox hx];have:=h.lt hx;omega
  ·simp only [e,e',qo] at hx hy;rw [old x ox hx,old y oy hy];exact h.inj x y ox oy hx hy hox hne
 ·rw [AHeap.bc] at hx
  by_cases e:H.next=x
  ·subst e;rw [e1];have:=h.low;omega
  ·simp only [e,qo] at hx;rw [old x ox hx];exact h.ir x ox hx hox
 ·obtain ⟨h1,h2,h3⟩:=h.cU g hg;obtain ⟨a1,a2,_⟩:=hag g h1;exact ⟨.inl h1,a1.trans h2,a2.trans h3⟩
theorem aX.alloc (h:HR P base D θ H w) (hn:¬ D H.next) (o:bm) (co:Obj) (off ext:Nat):aX D H θ w (H.alloc o) (θ.add H.next w.heap.size off ext) (w.alloc co):=by
 have hag:=Th.eD θ H.next w.heap.size off ext hn
 obtain ⟨e1,e2,e3⟩:=Th.c9 θ H.next w.heap.size off ext
 refine ⟨j5 _,hag,by simp,rfl,rfl,rfl,λ k hk _=>?_,λ x ox hx hox hlt=>?_⟩
 ·rw [ug,qg (D5 hk)]
 ·rw [AHeap.bc] at hx
  by_cases e:H.next=x
  ·subst e;rw [e1] at hlt;omega
  ·simp only [e,qo] at hx;have:=(hag x (h.obj x ox hx).1).1;exact ⟨x,ox,hx,hox,this.symm⟩
end
section
variable {P:Program} {base:Nat} {D:Nat->Prop} {θ:Th} {H:AHeap} {w:World}
theorem HR.cells (h:HR P base D θ H w) {b:Nat} {l:List AV} (hb:H.bK b=some l) :
 ∃ pre cs post e fz,w.heap[θ.bz b]? = some (.cells (pre++cs++post).toArray e fz)/\pre.length = θ.off b/\bt D θ l cs:=by
 unfold AHeap.bK at hb;cases hg:H.get b with
 | none=>rw [hg] at hb;cases hb
 | some o =>
  rw [hg] at hb;obtain ⟨_,co,hc,hr⟩:=h.obj b o hg;cases o with
  | row cells e fz ow =>
   obtain ⟨pre,cs,post,cfz,et,h1,h2,h3,_⟩:=hr;injection hb with hb;subst hb
   exact ⟨pre,cs,post,et,cfz,by rw [hc,h1],h2,h3⟩
  | grown m size cells e fz =>
   obtain ⟨pre,cs,post,cfz,h1,h2,h3,_⟩:=hr;injection hb with hb;subst hb
   exact ⟨pre,cs,post,e,cfz,by rw [hc,h1],h2,h3⟩
  | map _ _=>cases hb
  | iE _ _=>cases hb
  | loop _ _ _ _ _ _=>cases hb
  | deferred _=>cases hb
theorem AG (pre cs post:List Value) (o:Nat) {c:Value} (h:cs[o]? = some c):(pre++cs++post).toArray[pre.length+o]? = some c:=by
 have hlt:=(qe.1 h).1;simp only [List.getElem?_toArray,zf];rw [jg (by omega),show pre.length+o-pre.length=o from by omega,j7 hlt];exact h
theorem q19 (pre cs post:List Value) (o n:Nat) (h:n<=cs.length-o):(((pre++cs++post).toArray.toList.drop (pre.length+o)).take n)=(cs.drop o).take n:=by
 simp only [zf];rw [yp,show pre.length+o-pre.length=o from by omega,List.drop_of_length_le (l:=pre) (by omega),zn,yp]
 by_cases ho:o<=cs.length
 ·rw [Gk,show n-(cs.drop o).length=0 from by simp;omega];simp
 ·have:n=0:=by omega
  subst this;simp
theorem HR.ae (h:HR P base D θ H w) {b o:Nat} {v:AV} (hl:H.ae b o=some v) :
 ∃ c,(load ⟨θ.bz b,θ.off b+o,none⟩).run P w=.ok c w/\VR D θ v c:=by
 unfold AHeap.ae at hl;cases hc:H.bK b with
 | none=>rw [hc] at hl;cases hl
 | some l =>
  rw [hc] at hl;obtain ⟨pre,cs,post,e,fz,h1,h2,h3⟩:=h.cells hc;simp only [qj,jO] at hl;obtain ⟨c,hc1,hc2⟩:=h3.mu hl;exact ⟨c,q7b h1 (by rw [<-h2];exact AG pre cs post o hc1),hc2⟩
theorem HR.aG (h:HR P base D θ H w) {b o n:Nat} {l:List AV} (hl:H.aG b o n=some l) :
 ∃ cs:List Value,(loadCells ⟨θ.bz b,θ.off b+o,none⟩ n).run P w=.ok cs.toArray w/\bt D θ l cs/\l.length=n:=by
 unfold AHeap.aG at hl;cases hc:H.bK b with
 | none=>rw [hc] at hl;cases hl
 | some l0 =>
  rw [hc] at hl;obtain ⟨pre,cs,post,e,fz,h1,h2,h3⟩:=h.cells hc;simp only [qj,qP] at hl;split at hl
  ·rename_i hn;injection hl with hl;subst hl
   have hlen:=h3.length;refine ⟨(cs.drop o).take n,?_,(h3.drop o).take n,by simp;omega⟩;rw [<-h2,qzb h1 (pre.length+o) n (by simp;omega),q19 pre cs post o n (by omega)]
  ·cases hl
theorem qyx {v:AV} {c:Value} (h:VR D θ v c) (h1:aT v=true):c.oneCell'=true:=by
 rw [<-h.now];cases v<;>simp_all [aT,aB,Value.oneCell']
theorem oQ (l:List AV):aO l=l.all aT:=by
 induction l with
 | nil=>rfl
 | cons x l ih =>
  show cond (aT x) (aO l) false=_;rw [ih];cases h:aT x<;>simp [h]
theorem qrt {l:List AV} {cs:List Value} (h:bt D θ l cs) (h1:aO l=true):∀ c ∈ cs,c.oneCell'=true:=by
 intro c hc;obtain ⟨i,hi⟩:=ki hc;rw [oQ,wg] at h1;have hlt:i<l.length:=by rw [<-h.length];exact (qe.1 hi).1
 obtain ⟨c',h2,h3⟩:=h.mu (qy hlt);rw [hi] at h2;injection h2 with h2;subst h2
 exact qyx h3 (h1 _ (List.getElem_mem hlt))
end
end Go.Am
namespace Go.Am
def pH (P:Program) (s:Sem Next) (w:World) (c:Value) (w':World):Prop:=s.run P w=.ok (.value c) w'\/(s.run P w=.ok .skip w'/\c=Go.undef)
def cH (P:Program) (o:Oper) (xs:List Operand) (f:List AV->Option AV):Prop :=
 ∀ (D:Nat->Prop) θ (ρ:Operand->Value) w vs v,bt D θ vs (xs.map ρ)->f vs=some v -> ∃ c,pH P (execOp ρ o) w c w/\VR D θ v c
section
variable {P:Program} {w:World}
theorem yv {t:TypeId} {d:TypeDesc} (h:P.underlying t=some d):(underlying t).run P w=.ok d w:=run_underlying h w
theorem qC {t:TypeId} {n:Nat} (h:bF P t=some n):(sizeOf t).run P w=.ok n w:=by
 unfold bF at h;cases hi:P.info? t with
 | none=>rw [hi] at h;cases h
 | some i=>rw [hi] at h;injection h with h;subst h;simp [sizeOf,typeInfo,hi]
theorem qpg {t:TypeId} {n:Nat} (h:bF P t=some n):∃ i,P.info? t=some i/\i.size=n:=by
 unfold bF at h;cases hi:P.info? t with
 | none=>rw [hi] at h;cases h
 | some i=>rw [hi] at h;injection h with h;exact ⟨i,rfl,h⟩
theorem LG {t:TypeId} {n:Option Nat} (h:mV P t=some n):(isAgg t).run P w=.ok n.isSome w /\ ∀ k,n=some k->(sizeOf t).run P w=.ok k w:=by
 unfold mV at h;cases hu:P.underlying t with
 | none=>rw [hu] at h;cases h
 | some d =>
  rw [hu] at h;cases d
  case struct fs =>
   simp only at h;cases hs:bF P t with
   | none=>rw [hs] at h;cases h
   | some m =>
    rw [hs] at h;injection h with h;subst h
    exact ⟨by simp [isAgg,yv hu],λ k hk=>by injection hk with hk;subst hk;exact qC hs⟩
  case array m e =>
   simp only at h;cases hs:bF P t with
   | none=>rw [hs] at h;cases h
   | some m =>
    rw [hs] at h;injection h with h;subst h
    exact ⟨by simp [isAgg,yv hu],λ k hk=>by injection hk with hk;subst hk;exact qC hs⟩
  all_goals
   (injection h with h;subst h
    exact ⟨by simp [isAgg,yv hu],λ k hk=>by cases hk⟩)
mutual
theorem Pn (θ:Th):∀ (c:Value) (v:AV),dQ c=some v->aB θ v=c
 | .bool b,v,h=>by simp [dQ] at h;subst h;rfl
 | .int k n,v,h=>by simp [dQ] at h;subst h;rfl
 | .string s,v,h=>by simp [dQ] at h;subst h;simp [aB]
 | .pointer none,v,h=>by simp [dQ] at h;subst h;rfl
 | .pointer (some a),v,h=>by simp [dQ] at h
 | .slice none 0 0,v,h=>by simp [dQ] at h;subst h;rfl
 | .slice none 0 (n+1),v,h=>by simp [dQ] at h
 | .slice none (n+1) c,v,h=>by simp [dQ] at h
 | .slice (some a) n c,v,h=>by simp [dQ] at h
 | .map none,v,h=>by simp [dQ] at h;subst h;rfl
 | .map (some r),v,h=>by simp [dQ] at h
 | .nilFunc,v,h=>by simp [dQ] at h;subst h;rfl
 | .nilIface,v,h=>by simp [dQ] at h;subst h;rfl
 | .iface t x,v,h=>by
  simp only [dQ] at h;cases hx:dQ x with
  | none=>rw [hx] at h;cases h
  | some y=>rw [hx] at h;injection h with h;subst h;simp [aB,Pn θ x y hx]
 | .agg cs,v,h=>by
  simp only [dQ] at h;cases hx:jR cs.toList with
  | none=>rw [hx] at h;cases h
  | some l=>rw [hx] at h;injection h with h;subst h;simp [aB,O7 θ cs.toList l hx]
 | .tuple cs,v,h=>by
  simp only [dQ] at h;cases hx:jR cs.toList with
  | none=>rw [hx] at h;cases h
  | some l=>rw [hx] at h;injection h with h;subst h;simp [aB,O7 θ cs.toList l hx]
 | .float _ _,v,h=>by simp [dQ] at h
 | .complex _ _ _,v,h=>by simp [dQ] at h
 | .chan _,v,h=>by simp [dQ] at h
 | .func _ _ _,v,h=>by simp [dQ] at h
theorem O7 (θ:Th):∀ (cs:List Value) (l:List AV),jR cs=some l->br θ l=cs
 | [],l,h=>by simp [jR] at h;subst h;rfl
 | c::cs,l,h=>by
  simp only [jR] at h;cases hx:dQ c with
  | none=>rw [hx] at h;cases h
  | some y =>
   rw [hx] at h;simp only [qj] at h;cases hy:jR cs with
   | none=>rw [hy] at h;cases h
   | some ys=>rw [hy] at h;injection h with h;subst h;simp [br,Pn θ c y hx,O7 θ cs ys hy]
end
theorem KM {D:Nat->Prop} {θ:Th} {c:Value} {v:AV} (h:dQ c=some v):VR D θ v c:=λ θ' _=>Pn θ' c v h
theorem FV {t:TypeId} {z:AV} (h:zeroOf P t=some z):∃ c,(zeroValue t).run P w=.ok c w /\ ∀ D θ,VR D θ z c:=by
 unfold zeroOf at h;cases hi:P.info? t with
 | none=>rw [hi] at h;cases h
 | some i =>
  rw [hi] at h;simp only [qj] at h;cases hz:i.zero with
  | none=>rw [hz] at h;cases h
  | some c=>rw [hz] at h;exact ⟨c,by simp [zeroValue,typeInfo,hi,hz],λ D θ=>KM h⟩
end
section
variable {D:Nat->Prop} {θ:Th}
theorem VR.cells {v:AV} {c:Value} (h:VR D θ v c):bt D θ v.cells c.cells.toList:=by
 intro θ' ha;have h1:=h θ' ha;subst h1;cases v<;>simp [AV.cells,aB,Value.cells,br]
end
section
variable {P:Program} {D:Nat->Prop} {θ:Th} {ρ:Operand->Value} {w:World}
theorem bt.gD {x:Operand} {vs:List AV} (h:bt D θ vs ([x].map ρ)):∃ v,vs=[v]/\VR D θ v (ρ x):=by
 cases vs with
 | nil=>have:=h.length;simp at this
 | cons v vs =>
  obtain ⟨c,cs,h1,h2,h3⟩:=h.dW;simp only [kh,List.map_nil,zi] at h1;obtain ⟨rfl,rfl⟩:=h1;have:=h3.length;cases vs with
  | nil=>exact ⟨v,rfl,h2⟩
  | cons _ _=>simp at this
theorem bt.nV {x y:Operand} {vs:List AV} (h:bt D θ vs ([x,y].map ρ)):∃ a b,vs=[a,b]/\VR D θ a (ρ x)/\VR D θ b (ρ y):=by
 cases vs with
 | nil=>have:=h.length;simp at this
 | cons v vs =>
  obtain ⟨c,cs,h1,h2,h3⟩:=h.dW;simp only [kh,List.map_nil,zi] at h1;obtain ⟨rfl,rfl⟩:=h1;obtain ⟨b,rfl,hb⟩:=bt.gD (ρ:=ρ) (x:=y) h3;exact ⟨v,b,rfl,h2,hb⟩
theorem bt.sK {x y z:Operand} {vs:List AV} (h:bt D θ vs ([x,y,z].map ρ)):∃ a b c,vs=[a,b,c]/\VR D θ a (ρ x)/\VR D θ b (ρ y)/\VR D θ c (ρ z):=by
 cases vs with
 | nil=>have:=h.length;simp at this
 | cons v vs =>
  obtain ⟨c,cs,h1,h2,h3⟩:=h.dW;simp only [kh,List.map_nil,zi] at h1;obtain ⟨rfl,rfl⟩:=h1;obtain ⟨a,b,rfl,ha,hb⟩:=bt.nV (ρ:=ρ) (x:=y) (y:=z) h3;exact ⟨v,a,b,rfl,h2,ha,hb⟩
theorem qy5 {o:Oper} {x:Operand} (ho:o.op=.move x\/o.op=.assign x):cH P o [x] Op.move:=by
 intro D θ ρ w vs v h hf;obtain ⟨a,rfl,ha⟩:=bt.gD h;simp only [Op.move,qc] at hf;subst hf;refine ⟨ρ x,.inl ?_,ha⟩;rcases ho with ho|ho<;>simp [execOp,ho]
theorem q62 {o:Oper} {c a b:Operand} (ho:o.op=.pick c a b):cH P o [c,a,b] Op.pick:=by
 intro D θ ρ w vs v h hf;obtain ⟨q,x,y,rfl,hq,hx,hy⟩:=bt.sK h;unfold Op.pick at hf;split at hf
 ·rename_i b' x' y' heq;injection heq with h1 h2;subst h1;injection h2 with h2 h3;subst h2;injection h3 with h3 _;subst h3
  injection hf with hf;subst hf
  have hb:ρ c=.bool b':=hq.now.symm;cases b'
  ·exact ⟨ρ b,.inl (by simp [execOp,ho,hb,asBool]),hy⟩
  ·exact ⟨ρ a,.inl (by simp [execOp,ho,hb,asBool]),hx⟩
 ·cases hf
theorem Bw {o:Oper} {op:UnOp} {t:TypeId} {x:Operand} (ho:o.op=.unOp op t x):cH P o [x] (Op.un op):=by
 intro D θ ρ w vs v h hf;obtain ⟨a,rfl,ha⟩:=bt.gD h;simp only [Op.un,unV] at hf;have hr:=ha.now;split at hf
 ·rename_i k n;injection hf with hf;subst hf
  exact ⟨_,.inl (by simp [execOp,ho,<-hr,aB,Go.Op.unary,Go.Op.intArith]<;>rfl),.int _ _⟩
 ·rename_i k n;simp only [dV] at hf;injection hf with hf;subst hf
  exact ⟨_,.inl (by simp [execOp,ho,<-hr,aB,Go.Op.unary,Go.Op.intBits]<;>rfl),.int _ _⟩
 ·injection hf with hf;subst hf
  exact ⟨_,.inl (by simp [execOp,ho,<-hr,aB,Go.Op.unary]),.bool _⟩
 ·cases hf
theorem q63 {o:Oper} {src dst:TypeId} {x:Operand} {k j:IntKind} (ho:o.op=.convert src dst x) (h1:P.underlying src=some (.int j)) (h2:P.underlying dst=some (.int k)):cH P o [x] (Op.wrap k):=by
 intro D θ ρ w vs v h hf;obtain ⟨a,rfl,ha⟩:=bt.gD h;have hr:=ha.now;unfold Op.wrap at hf;split at hf
 ·rename_i k' n heq;injection heq with heq;subst heq
  injection hf with hf;subst hf
  exact ⟨_,.inl (by simp [execOp,ho,<-hr,aB,convert,yv h1,yv h2,Conv.intToInt]<;>rfl),.int _ _⟩
 ·cases hf
theorem q0x {o:Oper} {f:FuncId} {a b:Array Operand} (ho:o.op=.makeFunc (.func f) a b):cH P o (a.toList++b.toList) (Op.cA f a.size):=by
 intro D θ ρ w vs v h hf;simp only [Op.cA,qc] at hf;subst hf;refine ⟨.func (.func f) (a.map ρ) (b.map ρ),.inl (by simp [execOp,ho,Instr.makeFunc]),λ θ' hg=>?_⟩;have h1:=(h.take a.size) θ' hg;have h2:=(h.drop a.size) θ' hg;simp only [aB,dI,h1,h2];congr 1
 ·rw [Ef,jv (by simp)];apply B6;simp [zj]
 ·rw [Ef,kn (by simp)];apply B6;simp [List.drop_of_length_le]
theorem qy3 {o:Oper} {x:Operand} {i:Nat} (ho:o.op=.extract x i):cH P o [x] (Op.extract i):=by
 intro D θ ρ w vs v h hf;obtain ⟨a,rfl,ha⟩:=bt.gD h;unfold Op.extract at hf;split at hf
 ·rename_i l heq;injection heq with heq;subst heq
  obtain ⟨cs,hc,hl⟩:=ha.sO;rw [jO] at hf;obtain ⟨c,hc1,hc2⟩:=hl.mu hf;exact ⟨c,.inl (by simp [execOp,ho,hc,Instr.extract,hc1]),hc2⟩
 ·cases hf
theorem G7 {o:Oper} {c:Call} {b:Builtin} (ho:o.op=.call c) (hc:c.callee=.builtin b) :
 ∃ consts,execOp ρ o=builtin b c.argTypes o.type consts (c.args.map ρ):=by
 refine ⟨c.args.map λ | .const _=>true|_=>false,?_⟩;simp only [execOp,ho,resolve,hc,invoke];rfl
theorem C2 {c:Call} {xs:List Operand} (hx:c.args.toList=xs):c.args.map ρ = (xs.map ρ).toArray:=by
 subst hx;apply B6;simp
theorem bt.nh {xs:List Operand} {a:AV} (h:bt D θ [a] (xs.map ρ)):∃ x,xs=[x]/\VR D θ a (ρ x):=by
 have:=h.length
 match xs,this,h with
 | [x],_,h=>obtain ⟨_,heq,ha⟩:=bt.gD h;injection heq with heq _;subst heq;exact ⟨x,rfl,ha⟩
theorem bt.qI {xs:List Operand} {a b:AV} (h:bt D θ [a,b] (xs.map ρ)):∃ x y,xs=[x,y]/\VR D θ a (ρ x)/\VR D θ b (ρ y):=by
 have:=h.length
 match xs,this,h with
 | [x,y],_,h =>
  obtain ⟨_,_,heq,ha,hb⟩:=bt.nV h;injection heq with h1 h2;injection h2 with h2 _;subst h1;subst h2;exact ⟨x,y,rfl,ha,hb⟩
theorem Kv (s:List UInt8):(⟨s.toArray⟩:ByteArray).size=s.length:=by simp [ByteArray.size]
theorem q34 {o:Oper} {c:Call} {xs:List Operand} {t e:TypeId} (ho:o.op=.call c) (hc:c.callee=.builtin .len) (hx:c.args.toList=xs) (ht:c.argTypes[0]? = some t)
 (hu:P.underlying t=some (.slice e)):cH P o xs Op.dC:=by
 intro D θ ρ w vs v h hf;obtain ⟨consts,he⟩:=G7 (ρ:=ρ) ho hc;unfold Op.dC at hf;split at hf
 ·obtain ⟨x,rfl,ha⟩:=h.nh;injection hf with hf;subst hf
  refine ⟨_,.inl ?_,.int _ _⟩;rw [he,C2 hx];simp [builtin,Builtin.len_,yv hu,ht,<-ha.now,aB,goInt]<;>rfl
 ·obtain ⟨x,rfl,ha⟩:=h.nh;injection hf with hf;subst hf
  refine ⟨_,.inl ?_,.int _ _⟩;rw [he,C2 hx];simp [builtin,Builtin.len_,yv hu,ht,<-ha.now,aB,goInt]<;>rfl
 ·obtain ⟨x,rfl,ha⟩:=h.nh;injection hf with hf;subst hf
  refine ⟨_,.inl ?_,.int _ _⟩;rw [he,C2 hx];simp [builtin,Builtin.len_,yv hu,ht,<-ha.now,aB,goInt]<;>rfl
 ·obtain ⟨x,rfl,ha⟩:=h.nh;injection hf with hf;subst hf
  refine ⟨_,.inl ?_,.int _ _⟩;rw [he,C2 hx];simp [builtin,Builtin.len_,yv hu,ht,<-ha.now,aB,goInt]<;>rfl
 ·cases hf
theorem q3p {op:BinOp} {k:IntKind} {a b:Int} {v:AV} (hs:cI op=false) (h:dV op k a b=some v) (t:TypeId) :
 ∃ c,(binOp op t (.int k a) (.int k b)).run P w=.ok c w/\VR D θ v c:=by
 cases op<;>simp only [dV,cI,qc,BT,GD,BM,Bool.true_eq_false] at h hs
 case quo =>
  cases hb:(b == 0)<;>rw [hb] at h<;>simp at h;subst h;exact ⟨_,by simp [binOp,Go.Op.intDiv,by simpa using hb]<;>rfl,.int _ _⟩
 case rem =>
  cases hb:(b == 0)<;>rw [hb] at h<;>simp at h;subst h;exact ⟨_,by simp [binOp,Go.Op.intDiv,by simpa using hb]<;>rfl,.int _ _⟩
 all_goals
  subst h
  first|refine ⟨_,?_,VR.int _ _⟩|refine ⟨_,?_,VR.bool _⟩
  simp only [binOp,ne_eq,not_true_eq_false,qo,Go.Op.intBits,Go.Op.intArith,Go.Op.intCmp];rfl
theorem qxz (a b:List UInt8):bytesLess a b=Go.Op.bytesLess a b:=by
 induction a generalizing b with
 | nil=>cases b<;>rfl
 | cons x a ih=>cases b with
  | nil=>rfl
  | cons y b =>
   simp only [bytesLess,Go.Op.bytesLess,ih,yU];congr 1;rw [Bool.eq_iff_iff];simp [UInt8.lt_iff_toNat_lt]
theorem NQ (s:List UInt8):(⟨s.toArray⟩:ByteArray).toList=s:=by rw [ByteArray.toList_eq]
theorem q4h {op:BinOp} {a b:List UInt8} {v:AV} (h:mI op a b=some v) (t:TypeId) :
 ∃ c,(binOp op t (.string ⟨a.toArray⟩) (.string ⟨b.toArray⟩)).run P w=.ok c w/\VR D θ v c:=by
 cases op<;>simp only [mI,qc,reduceCtorEq,FJ,qxz] at h
 case add =>
  cases hb:Nat.ble (a.length+b.length) 140737488355328<;>rw [hb] at h<;>simp at h;subst h;have hle:a.length+b.length<=140737488355328:=by simpa [yr] using hb
  refine ⟨.string (⟨a.toArray⟩++⟨b.toArray⟩),?_,λ θ' _=>?_⟩
  ·simp only [binOp,Go.Op.stringOp,Kv,Sem.run_ite];rw [qg (by simp [IntKind.max,IntKind.bits,IntKind.signed];omega)];rfl
  ·show Value.string ⟨(a++b).toArray⟩=_;congr 1
 all_goals
  subst h;exact ⟨_,by simp [binOp,Go.Op.stringOp,NQ]<;>rfl,.bool _⟩
theorem q2f {o:Oper} {op:BinOp} {t t':TypeId} {x y:Operand} (ho:o.op=.binOp op t x y t'):cH P o [x,y] (Op.bin op):=by
 intro D θ ρ w vs v h hf;obtain ⟨a,b,rfl,ha,hb⟩:=bt.nV h;simp only [Op.bin,jX] at hf;have hra:=ha.now;have hrb:=hb.now;have guard:∀ (u u':Value),(∀ l,u ≠ .agg l)->u ≠ .nilIface->(eqGuard op t x y u u').run P w=.ok () w:=by
  intro u u' h1 h2;unfold eqGuard;cases u<;>cases op<;>simp_all
 split at hf
 ·rename_i k a k' b;cases hs:cI op
  ·rw [hs] at hf;simp only [za,Ox] at hf
   by_cases hk:k=k'
   ·subst hk;simp only [decide_true,xf] at hf;obtain ⟨c,hc,hv⟩:=q3p (P:=P) (w:=w) (D:=D) (θ:=θ) hs hf t;refine ⟨c,.inl ?_,hv⟩;have hg:=guard (.int k a) (.int k b) (λ _=>by simp) (by simp);simp [execOp,ho,<-hra,<-hrb,aB,hg,hc]
   ·simp [hk] at hf
  ·rw [hs] at hf;simp only [xf,oI,GD] at hf
   by_cases hb0:b<0
   ·simp [hb0] at hf
   ·simp only [hb0,decide_false,za] at hf;have hg:=guard (.int k a) (.int k' b) (λ _=>by simp) (by simp);cases op<;>simp only [cI,ko,Bool.true_eq_false] at hs
    all_goals
     injection hf with hf;subst hf
     exact ⟨_,.inl (by simp [execOp,ho,<-hra,<-hrb,aB,hg,binOp,Go.Op.shift,hb0]<;>rfl),.int _ _⟩
 ·rename_i a b;obtain ⟨c,hc,hv⟩:=q4h (P:=P) (w:=w) (D:=D) (θ:=θ) hf t;have hg:=guard (.string ⟨a.toArray⟩) (.string ⟨b.toArray⟩) (λ _=>by simp) (by simp);exact ⟨c,.inl (by simp [execOp,ho,<-hra,<-hrb,aB,hg,hc]),hv⟩
 ·cases hf
end
end Go.Am
namespace Go.Am
section
variable {P:Program} {D:Nat->Prop} {θ:Th} {ρ:Operand->Value} {w:World}
theorem LS {t:TypeId} {l:List AV} {cs:List Value} {off:Nat} {n:Option Nat} {v:AV} (hn:mV P t=some n) (hl:bt D θ l cs) (h:partAt l off n=some v) :
 ∃ c,(part t cs.toArray off).run P w=.ok c w/\VR D θ v c:=by
 obtain ⟨h1,h2⟩:=LG (w:=w) hn;cases n with
 | none =>
  simp only [partAt,jO] at h;obtain ⟨c,hc,hv⟩:=hl.mu h;exact ⟨c,by simp [part,h1,hc],hv⟩
 | some k =>
  simp only [partAt,qP] at h;split at h
  ·rename_i hk;injection h with h;subst h
   refine ⟨.agg ((cs.drop off).take k).toArray,?_,VR.agg ((hl.drop off).take k)⟩;have hlen:=hl.length;simp only [part,Sem.run_bind,h1,Result.andThen_ok,DX,xa,h2 k rfl];simp only [Sem.run_pure,Result.ok.injEq,Value.agg.injEq,od];apply B6;simp [Array.toList_extract,List.extract,List.drop_take,kt]
  ·cases h
theorem Mb {i:Int} {n k:Nat} (h:within i n=some k):i=(k:Int)/\k<n:=by
 unfold within at h;cases i with
 | ofNat m =>
  simp only at h;cases hb:Nat.blt m n<;>rw [hb] at h
  ·cases h
  ·injection h with h;subst h;exact ⟨rfl,by simpa [we] using hb⟩
 | negSucc m=>cases h
theorem qun {o:Oper} {t:TypeId} {x:Operand} {i:Nat} {fs:Array Field} {f:Field} {n:Nat} (ho:o.op=.fieldAddr t x i) (ht:P.underlying t=some (.struct fs)) (hf:fs[i]? = some f) (hn:bF P f.type=some n) (hn0:n ≠ 0) :
 cH P o [x] (Op.fieldAddr f.offset):=by
 intro D θ ρ w vs v h hv;unfold Op.fieldAddr at hv;split at hv
 ·rename_i b ofs;obtain ⟨y,heq,ha⟩:=h.nh;injection heq with heq _;subst heq
  injection hv with hv;subst hv
  have hr:=ha.now;refine ⟨.pointer (some ⟨θ.bz b,θ.off b+ofs+f.offset,none⟩),.inl ?_,λ θ' hg=>?_⟩
  ·simp [execOp,ho,Instr.fieldAt,yv ht,hf,<-hr,aB,Instr.sureAddr,fieldPlace,qC hn,hn0,rA]
  ·have:=ha θ' hg;rw [<-hr] at this;simp [aB] at this ⊢;omega
 ·cases hv
theorem qw6 {o:Oper} {t:TypeId} {x i:Operand} (ho:o.op=.index t x i) (ht:P.underlying t=some .string):cH P o [x,i] Op.cr:=by
 intro D θ ρ w vs v h hv;unfold Op.cr at hv;split at hv
 ·rename_i s k j;obtain ⟨y,z,heq,ha,hb⟩:=h.qI;injection heq with h1 h2;injection h2 with h2 _;subst h1;subst h2
  cases hw:within j s.length with
  | none=>rw [hw] at hv;cases hv
  | some m =>
   rw [hw] at hv;obtain ⟨rfl,hlt⟩:=Mb hw;simp only [qj,jO] at hv;obtain ⟨u,hu⟩:∃ u,s[m]? = some u:=⟨_,qy hlt⟩
   rw [hu] at hv;injection hv with hv;subst hv
   refine ⟨.int .u8 u.toNat,.inl ?_,.int _ _⟩;have h0:(0:Int)<=(m:Int):=by omega
   have hg:getElem? (⟨s.toArray⟩:ByteArray) m=some u:=by
    have hz:m<(⟨s.toArray⟩:ByteArray).size:=by rw [Kv];exact hlt
    rw [getElem?_pos (⟨s.toArray⟩:ByteArray) m hz];have h9:=(qe.1 hu).2;simp only [qc];exact h9
   simp [execOp,ho,Instr.index,yv ht,<-ha.now,<-hb.now,aB,asIntOf,h0,hg]
 ·cases hv
theorem qsd {x:AV} {c:Value} {size j b o:Nat} (h:VR D θ x c) (he:elemAt size x j=some (b,o)) :
 ∃ n m,c=.slice (some ⟨θ.bz b,θ.off b+o-j*size,none⟩) n m/\j<n/\j*size<=o/\(∀ θ',Ag D θ θ' -> θ'.bz b = θ.bz b /\ θ'.off b+o = θ.off b+o):=by
 have hr:=h.now;unfold elemAt at he;split at he
 ·rename_i b' o' n' c';cases hb:Nat.blt j n'<;>rw [hb] at he
  ·cases he
  ·simp only [xf,qc,xn] at he;obtain ⟨rfl,rfl⟩:=he;refine ⟨n',c',?_,by simpa [we] using hb,by omega,λ θ' ha=>?_⟩
   ·rw [<-hr];simp only [aB];congr 3;omega
   ·have:=h θ' ha;rw [<-hr] at this;simp only [aB,Value.slice.injEq,qc,Addr.mk.injEq] at this;omega
 ·rename_i b' i' m' s' alt' n';cases hb:(Nat.blt j n' && Nat.beq s' size && Nat.blt (i'+j) m')<;>rw [hb] at he
  ·cases he
  ·simp only [xf,qc,xn] at he;obtain ⟨rfl,rfl⟩:=he;simp only [xh,we,zp] at hb;obtain ⟨⟨h1,rfl⟩,h3⟩:=hb;refine ⟨n',m'-i' + θ.ext b',?_,h1,by omega,λ θ' ha=>?_⟩
   ·rw [<-hr];simp only [aB];rw [qg (by omega)];congr 3;omega
   ·have:=h θ' ha;rw [<-hr] at this;simp only [aB,Value.slice.injEq,qc,Addr.mk.injEq] at this;rw [qg (by omega),qg (by omega)] at this;omega
 ·cases he
theorem qy4 {o:Oper} {t e:TypeId} {x i:Operand} {size:Nat} (ho:o.op=.indexAddr t x i) (ht:P.underlying t=some (.slice e)) (hs:bF P e=some size) :
 cH P o [x,i] (Op.aQ size):=by
 intro D θ ρ w vs v h hv;unfold Op.aQ at hv;split at hv
 ·rename_i a k j;obtain ⟨y,z,heq,ha,hb⟩:=h.qI;injection heq with h1 h2;injection h2 with h2 _;subst h1;subst h2
  cases hl:dD a with
  | none=>rw [hl] at hv;cases hv
  | some n0 =>
   rw [hl] at hv;simp only [qj] at hv;cases hw:within j n0 with
   | none=>rw [hw] at hv;cases hv
   | some m =>
    rw [hw] at hv;simp only [qj] at hv;obtain ⟨rfl,hlt⟩:=Mb hw;cases he:elemAt size a m with
    | none=>rw [he] at hv;cases hv
    | some p =>
     obtain ⟨b,ofs⟩:=p;rw [he] at hv;injection hv with hv;subst hv
     obtain ⟨n,c,hc,hjn,hle,hst⟩:=qsd ha he;refine ⟨.pointer (some ⟨θ.bz b,θ.off b+ofs,none⟩),.inl ?_,λ θ' hg=>?_⟩
     ·have hi:(0:Int)<=(m:Int)/\(m:Int)<(n:Int):=by omega
      have heq:θ.off b+ofs-m*size+m*size = θ.off b+ofs:=by omega
      simp [execOp,ho,Instr.indexAt,yv ht,hc,<-hb.now,aB,asIntOf,hi,qC hs,rA,heq];intro hh;omega
     ·obtain ⟨h1,h2⟩:=hst θ' hg;simp only [aB,h1,h2]
 ·cases hv
theorem qw5 {o:Oper} {t e:TypeId} {x i:Operand} {len size:Nat} (ho:o.op=.indexAddr t x i) (ht:P.underlying t=some (.array len e)) (hs:bF P e=some size) :
 cH P o [x,i] (Op.bE len size):=by
 intro D θ ρ w vs v h hv;unfold Op.bE at hv;split at hv
 ·rename_i b ofs k j;obtain ⟨y,z,heq,ha,hb⟩:=h.qI;injection heq with h1 h2;injection h2 with h2 _;subst h1;subst h2
  cases hw:within j len with
  | none=>rw [hw] at hv;cases hv
  | some m =>
   rw [hw] at hv;injection hv with hv;subst hv
   obtain ⟨rfl,hlt⟩:=Mb hw;have hi:(0:Int)<=(m:Int)/\(m:Int)<(len:Int):=by omega
   refine ⟨.pointer (some ⟨θ.bz b,θ.off b+ofs+m*size,none⟩),.inl ?_,λ θ' hg=>?_⟩
   ·simp [execOp,ho,Instr.indexAt,yv ht,<-ha.now,<-hb.now,aB,asIntOf,Instr.sureAddr,hi,qC hs,rA];intro hh;omega
   ·have:=ha θ' hg;rw [<-ha.now] at this;simp [aB] at this ⊢;omega
 ·cases hv
theorem qw7 {o:Oper} {x:Operand} (ho:o.op=.nilCheck x):cH P o [x] Op.nilCheck:=by
 intro D θ ρ w vs v h hv;obtain ⟨a,rfl,ha⟩:=bt.gD h;have hr:=ha.now;unfold Op.nilCheck at hv;split at hv
 ·cases hv
 ·cases hv
 ·cases hv
 ·rename_i f a1 b1 heq;injection heq with heq;subst heq
  injection hv with hv;subst hv
  exact ⟨ρ x,.inl (by simp [execOp,ho,<-hr,aB,dI]),ha⟩
 ·cases hv
 ·rename_i a' h1 h2 h3 h4 h5 heq;injection heq with heq;subst heq
  injection hv with hv;subst hv
  refine ⟨ρ x,.inl ?_,ha⟩;have hρ:=hr.symm;clear hr ha h;cases a
  case nilp=>exact absurd rfl h1
  case nili=>exact absurd rfl h2
  case nilf=>exact absurd rfl h3
  case fn f' a' b'=>exact absurd rfl (h5 f' a' b')
  all_goals (simp only [aB] at hρ;simp [execOp,ho,hρ])
 ·cases hv
theorem q14 (off:Nat):∀ (cs:List Value) (j:Nat) (arr:List Value),off+j+cs.length<=arr.length ->
 ((cs.zipIdx j).foldl (λ acc (p:Value × Nat)=>acc.setIfInBounds (off+p.2) p.1) arr.toArray)=(arr.take (off+j)++cs++arr.drop (off+j+cs.length)).toArray
 | [],j,arr,_=>by simp
 | c::cs,j,arr,h=>by
  simp only [List.zipIdx_cons,Fj,List.setIfInBounds_toArray];rw [q14 off cs (j+1) (arr.set (off+j) c) (by simp at h ⊢;omega)];congr 1;have ee:=list_seg_step arr (off+j) c cs (by simp at h ⊢;omega)
  simpa [kx] using ee
theorem q6a (off:Nat) (cs:Array Value) (arr:List Value) (h:off+cs.size<=arr.length) :
 (cs.zipIdx.foldl (λ acc (p:Value × Nat)=>acc.setIfInBounds (off+p.2) p.1) arr.toArray)=(arr.take off++cs.toList++arr.drop (off+cs.size)).toArray:=by
 have:=q14 off cs.toList 0 arr (by simpa using h);rw [<-Array.foldl_toList]
 simpa using this
theorem PG:∀ (places:List (Nat × Nat)) (vs:List AV) (parts:List (Nat × Operand)) (pl:Nat->Option (Nat × Nat)) (out:List AV),
 uf pl parts=some places->bt D θ vs (parts.map λ p=>ρ p.2) -> ∀ (cells:List AV) (ccells:List Value),bt D θ cells ccells->fL cells places vs=some out ->
 ∃ cout:List Value,Instr.fill pl ccells.toArray (parts.map λ p=>(p.1,ρ p.2))=some cout.toArray/\bt D θ out cout:=by
 intro places vs parts
 induction parts generalizing places vs with
 | nil =>
  intro pl out hp hv cells ccells hc hf;simp only [uf,qc] at hp;subst hp;have:vs=[]:=by have:=hv.length;simp at this;exact List.eq_nil_of_length_eq_zero (by omega)
  subst this;simp only [fL,qc] at hf;subst hf;exact ⟨ccells,rfl,hc⟩
 | cons p parts ih =>
  intro pl out hp hv cells ccells hc hf;obtain ⟨i,x⟩:=p;simp only [uf] at hp;cases hpl:pl i with
  | none=>rw [hpl] at hp;cases hp
  | some q =>
   obtain ⟨off,size⟩:=q;rw [hpl] at hp;simp only [qj] at hp;cases hr:uf pl parts with
   | none=>rw [hr] at hp;cases hp
   | some l =>
    rw [hr] at hp;injection hp with hp;subst hp
    cases vs with
    | nil=>simp only [fL] at hf;cases hf
    | cons v vs =>
     obtain ⟨c,cs',h1,h2,h3⟩:=hv.dW;simp only [kh,zi] at h1;obtain ⟨rfl,rfl⟩:=h1;simp only [fL,Cq] at hf;cases hb:Nat.beq v.cells.length size
     ·rw [hb] at hf;cases hf
     ·rw [hb] at hf;simp only [xf,Ae] at hf;have hcells:=h2.cells;have hlen:=hcells.length;have hsz:(ρ x).cells.size=size:=by rw [<-yc,hlen];simpa [zp] using hb
      split at hf
      ·rename_i hle;simp only [qj] at hf;have hcl:=hc.length;have hnew:bt D θ (cells.take off++v.cells++cells.drop (off+v.cells.length)) (ccells.take off++(ρ x).cells.toList++ccells.drop (off+v.cells.length)) :=
        ((hc.take off).app hcells).app (hc.drop _)
       obtain ⟨cout,h5,h6⟩:=ih l vs pl out hr h3 _ _ hnew hf;refine ⟨cout,?_,h6⟩;simp only [kh,Instr.fill,hpl];rw [qg (by simp only [List.size_toArray];rw [hsz];rw [<-yc] at hsz;simp;omega)];rw [<-h5];congr 1;have hla:=q6a off (ρ x).cells ccells (by rw [<-yc];omega);rw [show v.cells.length=(ρ x).cells.size from by rw [<-yc];omega];exact hla
      ·cases hf
theorem q6v (parts:Array (Nat × Operand)):(parts.map λ (p:Nat × Operand)=>(p.1,ρ p.2)).toList=parts.toList.map λ p=>(p.1,ρ p.2):=by simp
theorem qxh (fs:Array Field) (hall:∀ f ∈ fs,∃ n,bF P f.type=some n) :
 ∃ pl:Array (Nat × Nat),(fs.mapM λ (f:Field)=>(do pure (f.offset,<-sizeOf f.type):Sem (Nat × Nat))).run P w=.ok pl w /\ ∀ i:Nat,pl[i]? = FG P fs i:=by
 have key:∀ l:List Field,(∀ f ∈ l,∃ n,bF P f.type=some n) ->
  ∃ pl:List (Nat × Nat),(l.mapM λ (f:Field)=>(do pure (f.offset,<-sizeOf f.type):Sem (Nat × Nat))).run P w=.ok pl w /\ ∀ i:Nat,pl[i]? = (l[i]?).bind λ (f:Field)=>(bF P f.type).bind λ n=>some (f.offset,n):=by
  intro l
  induction l with
  | nil=>intro _;exact ⟨[],by simp,by simp⟩
  | cons f l ih =>
   intro hl;obtain ⟨n,hn⟩:=hl f (by simp);obtain ⟨pl,h1,h2⟩:=ih (λ g hg=>hl g (by simp [hg]));refine ⟨(f.offset,n)::pl,?_,λ i=>?_⟩
   ·simp only [List.mapM_cons,Sem.run_bind,qC hn,Result.andThen_ok,Sem.run_pure,h1]
   ·cases i with
    | zero=>simp [hn]
    | succ i=>simpa using h2 i
 obtain ⟨pl,h1,h2⟩:=key fs.toList (λ f hf=>hall f (by simpa using hf));refine ⟨pl.toArray,?_,λ i=>?_⟩
 ·rw [Array.mapM_eq_mapM_toList];simp only [Sem.run_map,h1,Result.andThen_ok]
 ·simp [FG,h2 i]
theorem qo5 {o:Oper} {t:TypeId} {parts:Array (Nat × Operand)} {z:AV} {fs:Array Field} {ps:List (Nat × Nat)} (ho:o.op=.build t parts) (hz:zeroOf P t=some z)
 (ht:P.underlying t=some (.struct fs)) (hall:∀ f ∈ fs,∃ n,bF P f.type=some n) (hp:uf (FG P fs) parts.toList=some ps):cH P o (parts.toList.map (·.2)) (Op.build z.cells ps):=by
 intro D θ ρ w vs v h hv;obtain ⟨zc,hz1,hz2⟩:=FV (w:=w) hz;obtain ⟨pl,h1,h2⟩:=qxh (w:=w) fs hall;unfold Op.build at hv;cases hf:fL z.cells ps vs with
 | none=>rw [hf] at hv;cases hv
 | some out =>
  rw [hf] at hv;injection hv with hv;subst hv
  have h':bt D θ vs (parts.toList.map λ p=>ρ p.2):=by simpa [td,Function.comp_def] using h
  obtain ⟨cout,h3,h4⟩:=PG (ρ:=ρ) ps vs parts.toList (FG P fs) out hp h' z.cells zc.cells.toList (hz2 D θ).cells hf;refine ⟨.agg cout.toArray,.inl ?_,VR.agg h4⟩;have hpl:(λ i=>pl[i]?)=FG P fs:=funext h2;simp only [execOp,ho,Instr.build,Sem.run_bind,hz1,Result.andThen_ok,yv ht,h1,hpl];have e:(parts.map λ (p:Nat × Operand)=>(p.1,ρ p.2)).toList=parts.toList.map λ p=>(p.1,ρ p.2):=by simp
  simp only [HF] at h3;simp [e,h3]
theorem qqe {o:Oper} {t e:TypeId} {parts:Array (Nat × Operand)} {z:AV} {len n:Nat} {ps:List (Nat × Nat)} (ho:o.op=.build t parts) (hz:zeroOf P t=some z)
 (ht:P.underlying t=some (.array len e)) (hn:bF P e=some n) (hp:uf (E9 n) parts.toList=some ps):cH P o (parts.toList.map (·.2)) (Op.build z.cells ps):=by
 intro D θ ρ w vs v h hv;obtain ⟨zc,hz1,hz2⟩:=FV (w:=w) hz;unfold Op.build at hv;cases hf:fL z.cells ps vs with
 | none=>rw [hf] at hv;cases hv
 | some out =>
  rw [hf] at hv;injection hv with hv;subst hv
  have h':bt D θ vs (parts.toList.map λ p=>ρ p.2):=by simpa [td,Function.comp_def] using h
  obtain ⟨cout,h3,h4⟩:=PG (ρ:=ρ) ps vs parts.toList (E9 n) out hp h' z.cells zc.cells.toList (hz2 D θ).cells hf;refine ⟨.agg cout.toArray,.inl ?_,VR.agg h4⟩;simp only [execOp,ho,Instr.build,Sem.run_bind,hz1,Result.andThen_ok,yv ht,qC hn];have e:(parts.map λ (p:Nat × Operand)=>(p.1,ρ p.2)).toList=parts.toList.map λ p=>(p.1,ρ p.2):=by simp
  simp only [HF] at h3;have hpl:(λ i=>some (i*n,n))=E9 n:=rfl;simp [e,hpl,h3]
end
end Go.Am
namespace Go.Am
section
variable {P:Program} {D:Nat->Prop} {θ:Th} {ρ:Operand->Value} {w:World}
def jD (D:Nat->Prop) (θ:Th) (ρ:Operand->Value):Option Operand->Option AV->Prop
 | none,a=>a=none
 | some x,a=>∃ v,a=some v/\VR D θ v (ρ x)
theorem Nd:∀ (opts:List (Option Operand)) (pre rest:List AV),bt D θ rest ((iV opts).map ρ) -> ∀ (j:Nat) (o:Option Operand) (idx:Option Nat),opts[j]? = some o->(eU pre.length opts)[j]? = some idx ->
 ∀ a,arg (pre++rest) idx=some a->jD D θ ρ o a
 | [],pre,rest,h,j,o,idx,ho,hi,a,ha=>by simp at ho
 | none::opts,pre,rest,h,j,o,idx,ho,hi,a,ha=>by
  cases j with
  | zero =>
   simp only [eU,je,qc] at ho hi;subst ho;subst hi;simp only [arg,qc] at ha;exact ha.symm
  | succ j=>exact Nd opts pre rest h j o idx (by simpa using ho) (by simpa [eU] using hi) a ha
 | some x::opts,pre,rest,h,j,o,idx,ho,hi,a,ha=>by
  cases rest with
  | nil=>have:=h.length;simp [iV] at this
  | cons v rest =>
   obtain ⟨c,cs,h1,h2,h3⟩:=h.dW;simp only [iV,kh,zi] at h1;obtain ⟨rfl,rfl⟩:=h1;cases j with
   | zero =>
    simp only [eU,je,qc] at ho hi;subst ho;subst hi;simp only [arg,jO] at ha;rw [jg (qf _)] at ha;simp at ha;exact ⟨v,ha.symm,h2⟩
   | succ j =>
    refine Nd opts (pre ++ [v]) rest h3 j o idx (by simpa using ho) (by simpa [eU] using hi) a ?_
    simpa using ha
theorem Ol {o:Option Operand} {a:Option AV} {d mx r:Nat} (h:jD D θ ρ o a) (hb:bound a d mx=some r) :
 (match o with
  | none=>r=d
  | some x=>(∀ code y,mx<=y->(Instr.sliceBound (ρ x) y code).run P w=.ok r w)/\r<=mx):=by
 cases o with
 | none =>
  simp only [jD] at h;subst h;simp only [bound,qc] at hb;exact hb.symm
 | some x =>
  obtain ⟨v,rfl,hv⟩:=h;unfold bound at hb;split at hb
  ·rename_i heq;cases heq
  ·rename_i k i heq;injection heq with heq;subst heq
   cases hle:Nat.ble i mx<;>rw [hle] at hb
   ·cases hb
   ·injection hb with hb;subst hb
    have hle':i<=mx:=by simpa [yr] using hle
    refine ⟨λ code y hy=>?_,hle'⟩;have hi:(0:Int)<=(i:Int)/\(i:Int)<=(y:Int):=by omega
    have hiy:i<=y:=by omega
    simp [Instr.sliceBound,<-hv.now,aB,asIntOf,hi,hiy]
  ·cases hb
theorem HJ {lo hi mx:Option Operand} {a b m:Option AV} {isS:Bool} {len cap low M Y h l:Nat} (ha:jD D θ ρ lo a) (hb:jD D θ ρ hi b) (hm:jD D θ ρ mx m)
 (hM:(mx=none/\M=cap) \/ ∃ d,bound m d low=some M/\low<=cap/\mx.isSome=true) (hY:Y<=M) (hh:bound b len Y=some h) (hl:bound a 0 h=some l) (hno:mx.isSome=true->hi.isSome=true) :
 (Instr.sliceBounds isS len cap (lo.map ρ) (hi.map ρ) (mx.map ρ)).run P w=.ok (l,h,M) w:=by
 have e2:=Ol (P:=P) (w:=w) hb hh;have e3:=Ol (P:=P) (w:=w) ha hl;cases mx with
 | none =>
  obtain ⟨_,rfl⟩|⟨_,_,_,h9⟩:=hM
  ·cases hi with
   | none =>
    simp only at e2;subst e2;cases lo with
    | none=>simp only at e3;subst e3;simp [Instr.sliceBounds]
    | some x=>simp [Instr.sliceBounds,e3.1 _ _ (qf _)]
   | some y =>
    cases lo with
    | none=>simp only at e3;subst e3;simp [Instr.sliceBounds,e2.1 _ _ hY]
    | some x=>simp [Instr.sliceBounds,e2.1 _ _ hY,e3.1 _ _ (qf _)]
  ·cases h9
 | some z =>
  obtain ⟨h9,_⟩|⟨d,h9,hlow,_⟩:=hM
  ·cases h9
  ·have e1:=Ol (P:=P) (w:=w) hm h9;cases hi with
   | none=>simp at hno
   | some y =>
    cases lo with
    | none=>simp only at e3;subst e3;simp [Instr.sliceBounds,e1.1 _ _ hlow,e2.1 _ _ hY]
    | some x=>simp [Instr.sliceBounds,e1.1 _ _ hlow,e2.1 _ _ hY,e3.1 _ _ (qf _)]
theorem q28 (v:AV) (d d':Nat) {mx:Nat}:bound (some v) d mx=bound (some v) d' mx:=by
 cases v<;>try rfl
 rename_i k n;cases n<;>rfl
theorem Di {o:Option Operand} {a:Option AV} {d mx r:Nat} (h:jD D θ ρ o a) (hb:bound a d mx=some r) (hd:d<=mx):r<=mx:=by
 cases o with
 | none=>simp only [jD] at h;subst h;simp only [bound,qc] at hb;omega
 | some x =>
  obtain ⟨v,rfl,hv⟩:=h;unfold bound at hb;split at hb
  ·rename_i heq;cases heq
  ·rename_i k i heq;cases hle:Nat.ble i mx<;>rw [hle] at hb
   ·cases hb
   ·injection hb with hb;subst hb;simpa [yr] using hle
  ·cases hb
theorem q7q (lo hi mx:Option Operand):∃ i j k,eU 0 [lo,hi,mx]=[i,j,k]:=by cases lo<;>cases hi<;>cases mx<;>simp [eU]
theorem q4c {size:Nat} {x:AV} {c:Value} {lo hi mx:Option Operand} {a b m:Option AV} {v:AV} (hx:VR D θ x c) (ha:jD D θ ρ lo a) (hb:jD D θ ρ hi b) (hm:jD D θ ρ mx m) (hv:df size x a b m=some v) :
 ∃ ad len cap l h M,c=.slice ad len cap/\(∀ isS,(Instr.sliceBounds isS len cap (lo.map ρ) (hi.map ρ) (mx.map ρ)).run P w=.ok (l,h,M) w) /\
  VR D θ v (.slice (if M=l then ad else ad.map (·.add (l*size))) (h-l) (M-l)):=by
 have hr:=hx.now;unfold df at hv;split at hv
 ·-- nil
  split at hv
  ·rename_i mx';cases hh:bound b 0 0 with
   | none=>rw [hh] at hv;cases hv
   | some h =>
    rw [hh] at hv;simp only [qj] at hv;cases hl:bound a 0 h with
    | none=>rw [hl] at hv;cases hv
    | some l =>
     rw [hl] at hv;injection hv with hv;subst hv
     have hmx:mx=none:=by
      cases mx with
      | none=>rfl
      | some z=>obtain ⟨_,h9,_⟩:=hm;cases h9
     subst hmx;have h0:h=0/\l=0:=by
      have q2:=Di hb hh (qf _);have q3:=Di ha hl (xx _);omega
     obtain ⟨rfl,rfl⟩:=h0;refine ⟨none,0,0,0,0,0,hr.symm,λ isS=>HJ (low:=0) ha hb hm (.inl ⟨rfl,rfl⟩) (qf _) hh hl (by simp),λ θ' _=>by simp [aB]⟩
  ·cases hv
 ·-- a slice of a known capacity
  rename_i bb oo n cc;split at hv
  ·cases hv
  ·rename_i hnn;cases hM:bound m cc cc with
   | none=>rw [hM] at hv;cases hv
   | some M =>
    rw [hM] at hv;simp only [qj] at hv;cases hh:bound b n M with
    | none=>rw [hh] at hv;cases hv
    | some h =>
     rw [hh] at hv;simp only [qj] at hv;cases hl:bound a 0 h with
     | none=>rw [hl] at hv;cases hv
     | some l =>
      rw [hl] at hv;injection hv with hv;subst hv
      have hno:mx.isSome=true->hi.isSome=true:=by
       intro h9;cases mx with
       | none=>cases h9
       | some z =>
        obtain ⟨_,hz,_⟩:=hm;cases hi with
        | some _=>rfl
        | none=>simp only [jD] at hb;subst hb;exact absurd (hnn _ hz) (by simp)
      have hMM:(mx=none/\M=cc) \/ ∃ d,bound m d cc=some M/\cc<=cc/\mx.isSome=true:=by
       cases mx with
       | none=>simp only [jD] at hm;subst hm;simp only [bound,qc] at hM;exact .inl ⟨rfl,hM.symm⟩
       | some z=>exact .inr ⟨cc,hM,qf _,rfl⟩
      refine ⟨_,n,cc,l,h,M,hr.symm,λ isS=>HJ ha hb hm hMM (qf _) hh hl hno,λ θ' hg=>?_⟩;have hst:=hx θ' hg;rw [<-hr] at hst;simp only [aB,Value.slice.injEq,qc,Addr.mk.injEq] at hst ⊢
      by_cases e:M=l
      ·subst e;simp [Nat.beq_refl]<;>omega
      ·have e':Nat.beq M l=false:=by rw [Bool.eq_false_iff];simpa [zp] using e
       rw [e'];simp [e,rA]<;>omega
 ·-- a grown row's slice
  rename_i bb i m' s alt n;cases hc:(Nat.beq s size && Nat.ble i m')<;>rw [hc] at hv
  ·cases hv
  ·simp only [xh,zp,yr] at hc;obtain ⟨rfl,him⟩:=hc;simp only [xf] at hv;split at hv
   ·-- no third bound
    rename_i hi';have hmx:mx=none:=by
     cases mx with
     | none=>rfl
     | some z=>obtain ⟨_,h9,_⟩:=hm;cases h9
    subst hmx;cases hh:bound b n (m'-i) with
    | none=>rw [hh] at hv;cases hv
    | some h =>
     rw [hh] at hv;simp only [qj] at hv;cases hl:bound a 0 h with
     | none=>rw [hl] at hv;cases hv
     | some l =>
      rw [hl] at hv;simp only [qj] at hv;cases hb2:Nat.ble h (m'-i)<;>rw [hb2] at hv
      ·cases hv
      ·injection hv with hv;subst hv
       have hhm:h<=m'-i:=by simpa [yr] using hb2
       have hlh:=Di ha hl (xx _);refine ⟨_,n,_,l,h,_,hr.symm,λ isS=>HJ (low:=0) ha hb hm (.inl ⟨rfl,rfl⟩) (wh _ _) hh hl (by simp),λ θ' hg=>?_⟩;have hst:=hx θ' hg;rw [<-hr] at hst;simp only [aB,Value.slice.injEq,qc,Addr.mk.injEq,od,sy] at hst;obtain ⟨⟨q1,q2⟩,q3⟩:=hst;have hext:θ'.ext bb = θ.ext bb:=by omega
       have hmul:(i+l)*s=i*s+l*s:=j4 i l s;simp only [aB,Value.slice.injEq,sy,hext,hmul];refine ⟨?_,by omega⟩
       by_cases e:m'-i + θ.ext bb=l
       ·rw [ql e,ql (by omega)];simp only [qc,Addr.mk.injEq,od];refine ⟨q1,?_⟩;rw [hext] at q2
        by_cases l0:l=0
        ·subst l0;rw [ql e] at q2 ⊢;exact q2
        ·have:Nat.beq l 0=false:=by rw [Bool.eq_false_iff];simpa [zp] using l0
         rw [this];rw [qg (by omega)] at q2 ⊢;exact q2
       ·rw [qg e,qg (by omega)];simp only [GR,rA,qc,Addr.mk.injEq,od];refine ⟨q1,?_⟩;rw [hext] at q2;rw [qg (by omega)] at q2 ⊢;omega
   ·cases hv
   ·-- a third bound
    rename_i hno1 hno2;cases hM:bound m 0 (m'-i) with
    | none=>rw [hM] at hv;cases hv
    | some M =>
     rw [hM] at hv;simp only [qj] at hv;cases hh:bound b 0 M with
     | none=>rw [hh] at hv;cases hv
     | some h =>
      rw [hh] at hv;simp only [qj] at hv;cases hl:bound a 0 h with
      | none=>rw [hl] at hv;cases hv
      | some l =>
       rw [hl] at hv;simp only [qj] at hv;cases hb2:Nat.beq M l<;>rw [hb2] at hv
       ·injection hv with hv;subst hv
        have hne:M ≠ l:=by intro e;subst e;simp at hb2
        obtain ⟨z,hz,hz2⟩:∃ z,mx=some z /\ ∃ v,m=some v:=by
         cases mx with
         | none=>simp only [jD] at hm;exact absurd hm hno1
         | some z=>obtain ⟨v,h9,_⟩:=hm;exact ⟨z,rfl,v,h9⟩
        obtain ⟨mv,hmv⟩:=hz2;have hhi:hi.isSome=true:=by
         cases hi with
         | some _=>rfl
         | none=>simp only [jD] at hb;exact absurd hb (hno2 _ hmv)
        have hMle:=Di hm hM (xx _);have hhM:=Di hb hh (xx _);have hlh:=Di ha hl (xx _);have hh':bound b n M=some h:=by
         obtain ⟨y,hy⟩:=Option.isSome_iff_exists.1 hhi;subst hy;obtain ⟨bv,h9,_⟩:=hb;subst h9;rw [q28 bv n 0];exact hh
        refine ⟨_,n,_,l,h,M,hr.symm,λ isS=>HJ ha hb hm (.inr ⟨0,hM,wh _ _,by rw [hz];rfl⟩) (qf _) hh' hl (λ _=>hhi),λ θ' hg=>?_⟩;have hst:=hx θ' hg;rw [<-hr] at hst;simp only [aB,Value.slice.injEq,qc,Addr.mk.injEq,od,sy] at hst;obtain ⟨⟨q1,q2⟩,q3⟩:=hst;have hext:θ'.ext bb = θ.ext bb:=by omega
        have hmul:(i+l)*s=i*s+l*s:=j4 i l s;simp only [aB,Value.slice.injEq,od,hmul,qg hne,GR,rA,qc,Addr.mk.injEq];refine ⟨q1,?_⟩;rw [hext,qg (by omega)] at q2;rw [qg (by omega)];omega
       ·cases hv
 ·-- a slice without room
  rename_i bb;split at hv
  ·rename_i mx';cases hh:bound b 0 0 with
   | none=>rw [hh] at hv;cases hv
   | some h =>
    rw [hh] at hv;simp only [qj] at hv;cases hl:bound a 0 h with
    | none=>rw [hl] at hv;cases hv
    | some l =>
     rw [hl] at hv;injection hv with hv;subst hv
     have hmx:mx=none:=by
      cases mx with
      | none=>rfl
      | some z=>obtain ⟨_,h9,_⟩:=hm;cases h9
     subst hmx;have h0:h=0/\l=0:=by
      have q2:=Di hb hh (qf _);have q3:=Di ha hl (xx _);omega
     obtain ⟨rfl,rfl⟩:=h0;refine ⟨_,0,0,0,0,0,hr.symm,λ isS=>HJ (low:=0) ha hb hm (.inl ⟨rfl,rfl⟩) (qf _) hh hl (by simp),λ θ' hg=>?_⟩;rw [hx θ' hg,<-hr];rfl
  ·cases hv
 ·cases hv
theorem qy6 {o:Oper} {t e:TypeId} {x:Operand} {lo hi mx:Option Operand} {size:Nat} (ho:o.op=.slice t x lo hi mx) (ht:P.underlying t=some (.slice e)) (hs:bF P e=some size) :
 cH P o (x::iV [lo,hi,mx]) (Op.aJ size (eU 0 [lo,hi,mx])):=by
 intro D θ ρ w vs v h hv;obtain ⟨i,j,k,hij⟩:=q7q lo hi mx;rw [hij] at hv;unfold Op.aJ at hv;split at hv
 ·rename_i lo' hi' mx' y vs' heq;injection heq with e1 e2;injection e2 with e2 e3;injection e3 with e3 _;subst e1;subst e2;subst e3
  obtain ⟨c,cs,h1,h2,h3⟩:=h.dW;simp only [kh,zi] at h1;obtain ⟨rfl,rfl⟩:=h1;have hargs:=λ (q:Nat) (oo:Option Operand) (idx:Option Nat) (h1:[lo,hi,mx][q]? = some oo) (h2:[i,j,k][q]? = some idx)=>Nd [lo,hi,mx] [] vs' h3 q oo idx h1 (by simpa [hij] using h2);cases ha:arg vs' i with
  | none=>rw [ha] at hv;cases hv
  | some a =>
   rw [ha] at hv;simp only [qj] at hv;cases hb:arg vs' j with
   | none=>rw [hb] at hv;cases hv
   | some b =>
    rw [hb] at hv;simp only [qj] at hv;cases hm:arg vs' k with
    | none=>rw [hm] at hv;cases hv
    | some m =>
     rw [hm] at hv;simp only [qj] at hv;obtain ⟨ad,len,cap,l,hh,M,hc,hrun,hvr⟩:=q4c (P:=P) (w:=w) h2 (hargs 0 lo i rfl rfl a ha) (hargs 1 hi j rfl rfl b hb) (hargs 2 mx k rfl rfl m hm) hv;refine ⟨_,.inl ?_,hvr⟩;simp [execOp,ho,Instr.sliceAt,yv ht,Instr.slice,hc,hrun,qC hs]
 ·cases hv
theorem q61 {o:Oper} (xs:List Operand):cH P o xs Op.fail:=by
 intro D θ ρ w vs v _ hv;cases hv
end
end Go.Am
namespace Go.Am
def oA (P:Program) (o:Oper) (xs:List Operand) (f:List AV->AHeap->Option AV):Prop :=
 ∀ (base:Nat) (D:Nat->Prop) θ H (ρ:Operand->Value) w vs v,HR P base D θ H w->bt D θ vs (xs.map ρ)->f vs H=some v -> ∃ c,pH P (execOp ρ o) w c w/\VR D θ v c
section
variable {P:Program}
theorem q35 {o:Oper} {t:TypeId} {x:Operand} (ho:o.op=.load t x) (ht:mV P t=some none):oA P o [x] Op.ae:=by
 intro base D θ H ρ w vs v hh h hv;unfold Op.ae at hv;split at hv
 ·rename_i b off;obtain ⟨x',he,ha⟩:=h.nh;simp only [zi,od] at he;subst he;obtain ⟨c,h1,h2⟩:=hh.ae hv;refine ⟨c,.inl ?_,h2⟩;obtain ⟨g1,_⟩:=LG (w:=w) ht;simp only [execOp,ho,<-ha.now,aB,Instr.loadAt,Instr.sureAddr,loadVar,Sem.run_bind,Sem.run_pure,Result.andThen_ok,g1,JU,ko,qo,h1]
 ·cases hv
theorem q36 {o:Oper} {t:TypeId} {x:Operand} {n:Nat} (ho:o.op=.load t x) (ht:mV P t=some (some n)):oA P o [x] (Op.aG n):=by
 intro base D θ H ρ w vs v hh h hv;unfold Op.aG at hv;split at hv
 ·rename_i b off;obtain ⟨x',he,ha⟩:=h.nh;simp only [zi,od] at he;subst he;cases hl:H.aG b off n with
  | none=>rw [hl] at hv;cases hv
  | some l =>
   rw [hl] at hv;injection hv with hv;subst hv
   obtain ⟨cs,h1,h2,_⟩:=hh.aG hl;refine ⟨.agg cs.toArray,.inl ?_,.agg h2⟩;obtain ⟨g1,g2⟩:=LG (w:=w) ht;simp only [execOp,ho,<-ha.now,aB,Instr.loadAt,Instr.sureAddr,loadVar,Sem.run_bind,Sem.run_pure,Result.andThen_ok,g1,g2 n rfl,DX,xa,h1]
 ·cases hv
theorem HR.lA {base:Nat} {D:Nat->Prop} {θ:Th} {H:AHeap} {w:World} (h:HR P base D θ H w) {b:Nat} {m:List (AV × AV × Nat) × Nat} (hb:H.lA b=some m) :
 H.get b=some (.map m.1 m.2)/\D b /\ ∃ ms:List MapEntry,w.heap[θ.bz b]? = some (.map ms.toArray m.2)/\cM D θ m.1 ms:=by
 unfold AHeap.lA at hb;cases hg:H.get b with
 | none=>rw [hg] at hb;cases hb
 | some o =>
  rw [hg] at hb;obtain ⟨hd,co,hc,hr⟩:=h.obj b o hg;cases o<;>simp only [reduceCtorEq,qc] at hb;subst hb;obtain ⟨ms,h1,h2⟩:=hr;exact ⟨rfl,hd,ms,by rw [hc,h1],h2⟩
theorem cM.length {D:Nat->Prop} {θ:Th}:∀ (es:List (AV × AV × Nat)) (ms:List MapEntry),cM D θ es ms->es.length=ms.length
 | [],[],_=>rfl
 | _::es,_::ms,⟨_,h⟩=>by simp [cM.length es ms h]
 | [],_::_,h=>h.elim
 | _::_,[],h=>h.elim
theorem VR.isAgg {D:Nat->Prop} {θ:Th} {l:List AV} {c:Value} (h:VR D θ (.agg l) c):∃ cs:List Value,c=.agg cs.toArray/\bt D θ l cs:=h.gw
theorem q0d {t:TypeId} {fs:Array Field} (h:P.underlying t=some (.struct fs)):P.fieldsOf t=fs:=by
 simp [Program.fieldsOf,h]
theorem q3k {x y:AV} {r:Bool} (h:aW .int x y=some r):∃ k a b,x=.int k a/\y=.int k b/\r=(a == b):=by
 cases x<;>cases y<;>simp only [aW,reduceCtorEq] at h;rename_i k a k' b;cases hk:pV k k' with
 | false=>rw [hk] at h;cases h
 | true =>
  rw [hk] at h;simp only [xf,qc] at h;have:k=k':=by simpa [Ox] using hk
  subst this;exact ⟨k,a,b,rfl,rfl,by rw [<-h,BT]⟩
theorem q3l {x y:AV} {r:Bool} (h:aW .str x y=some r):∃ a b,x=.str a/\y=.str b/\r=(a == b):=by
 cases x<;>cases y<;>simp only [aW,reduceCtorEq,qc] at h;exact ⟨_,_,rfl,rfl,by rw [<-h,FJ]⟩
theorem q0c {x y:AV} {r:Bool} (h:aW .bool x y=some r):∃ a b,x=.bool a/\y=.bool b/\r=(a == b):=by
 cases x<;>cases y<;>simp only [aW,reduceCtorEq,qc] at h;exact ⟨_,_,rfl,rfl,h.symm⟩
theorem Ka {off:Nat} {n:Option Nat} {t rest:bl} {x y:AV} {r:Bool} (h:aW (.part off n t rest) x y=some r) :
 ∃ l l' a b q,x=.agg l/\y=.agg l'/\partAt l off n=some a/\partAt l' off n=some b/\aW t a b=some q/\(q=true->aW rest (.agg l) (.agg l')=some r)/\(q=false->r=false):=by
 cases x<;>cases y<;>simp only [aW,reduceCtorEq] at h;rename_i l l';simp only [qb] at h;obtain ⟨a,ha,b,hb,q,hq,h⟩:=h;refine ⟨l,l',a,b,q,rfl,rfl,ha,hb,hq,λ e=>?_,λ e=>?_⟩
 ·subst e;exact h
 ·subst e;simpa using h.symm
theorem KU {x y:AV} {r:Bool} (h:aW .nil x y=some r):r=true/\(∃ l,x=.agg l)/\(∃ l,y=.agg l):=by
 cases x<;>cases y<;>simp only [aW,reduceCtorEq,qc] at h;exact ⟨h.symm,⟨_,rfl⟩,⟨_,rfl⟩⟩
theorem qu6 (s:Nat) (a:Option Nat) (q:bl) (n i:Nat) {x y:AV} {r:Bool} (h:aW (dy.itemsT s a q n i) x y=some r):(∃ l,x=.agg l)/\(∃ l,y=.agg l):=by
 cases n with
 | zero=>exact (KU h).2
 | succ n=>obtain ⟨l,l',_,_,_,h1,h2,_⟩:=Ka h;exact ⟨⟨l,h1⟩,⟨l',h2⟩⟩
theorem qsf {go:TypeId->Option bl} {fs:List Field} {q:bl} (hq:dy.fieldsT P go fs=some q) {x y:AV} {r:Bool} (h:aW q x y=some r):(∃ l,x=.agg l)/\(∃ l,y=.agg l):=by
 cases fs with
 | nil=>injection hq with hq;subst hq;exact (KU h).2
 | cons f fs =>
  simp only [dy.fieldsT] at hq;split at hq
  ·cases hq
  ·simp only [qb] at hq;obtain ⟨a,_,q1,_,r1,_,hq⟩:=hq;injection hq with hq;subst hq
   obtain ⟨l,l',_,_,_,h1,h2,_⟩:=Ka h;exact ⟨⟨l,h1⟩,⟨l',h2⟩⟩
def vI (P:Program) (w:World) (D:Nat->Prop) (θ:Th) (m:Nat) (t:TypeId) (q:bl):Prop :=
 ∀ (x y:AV) (cx cy:Value) (r:Bool),VR D θ x cx->VR D θ y cy->aW q x y=some r->(Op.equalIn m t cx cy).run P w=.ok r w
theorem qpa {w:World} {D:Nat->Prop} {θ:Th} {m:Nat} {go:TypeId->Option bl} (ih:∀ t q,go t=some q->vI P w D θ m t q) {l l':List AV} {cs cs':List Value} (hl:bt D θ l cs) (hl':bt D θ l' cs') :
 ∀ (fs:List Field) (q:bl) (r:Bool),dy.fieldsT P go fs=some q->aW q (.agg l) (.agg l')=some r->(Op.eqFields m cs.toArray cs'.toArray fs).run P w=.ok r w
 | [],q,r,hq,h=>by
  injection hq with hq;subst hq
  rw [(KU h).1];simp [Op.eqFields]
 | f::fs,q,r,hq,h=>by
  simp only [dy.fieldsT] at hq;split at hq
  ·cases hq
  ·rename_i hn;simp only [qb] at hq;obtain ⟨a,ha,q1,hq1,r1,hr1,hq⟩:=hq;injection hq with hq;subst hq
   obtain ⟨l1,l2,x,y,e,h1,h2,h3,h4,h5,h6,h7⟩:=Ka h;injection h1 with h1;injection h2 with h2;subst h1;subst h2
   obtain ⟨c,p1,v1⟩:=LS (w:=w) ha hl h3;obtain ⟨c',p2,v2⟩:=LS (w:=w) ha hl' h4;have p3:=ih f.type q1 hq1 x y c c' e v1 v2 h5;simp only [Op.eqFields,hn,ne_eq,not_false_eq_true,xa,Sem.run_bind,p1,p2,p3,Result.andThen_ok];cases e
   ·simp [h7 rfl]
   ·simpa using qpa ih hl hl' fs r1 r hr1 (h6 rfl)
theorem qse {w:World} {D:Nat->Prop} {θ:Th} {m:Nat} {e:TypeId} {s:Nat} {a:Option Nat} {q:bl} (ha:mV P e=some a) (ih:vI P w D θ m e q) {l l':List AV} {cs cs':List Value} (hl:bt D θ l cs) (hl':bt D θ l' cs') :
 ∀ (n i:Nat) (r:Bool),aW (dy.itemsT s a q n i) (.agg l) (.agg l')=some r->(Op.eqItems m e s cs.toArray cs'.toArray (List.range' i n)).run P w=.ok r w
 | 0,i,r,h=>by rw [(KU h).1];simp [Op.eqItems]
 | n+1,i,r,h=>by
  obtain ⟨l1,l2,x,y,b,h1,h2,h3,h4,h5,h6,h7⟩:=Ka h;injection h1 with h1;injection h2 with h2;subst h1;subst h2
  obtain ⟨c,p1,v1⟩:=LS (w:=w) ha hl h3;obtain ⟨c',p2,v2⟩:=LS (w:=w) ha hl' h4;have p3:=ih x y c c' b v1 v2 h5;simp only [List.range'_succ,Op.eqItems,Sem.run_bind,p1,p2,p3,Result.andThen_ok];cases b
  ·simp [h7 rfl]
  ·simpa using qse ha ih hl hl' n (i+1) r (h6 rfl)
theorem KO (m:Nat) {D:Nat->Prop} {θ:Th} (w:World):∀ (d:Nat) (t:TypeId) (q:bl),dy P d t=some q->vI P w D θ (d+m) t q
 | 0,_,_,h=>by cases h
 | d+1,t,q,h=>by
  intro x y cx cy r hx hy hr;unfold dy at h;have ed:d+1+m=(d+m)+1:=by omega
  rw [ed];cases hu:P.underlying t with
  | none=>rw [hu] at h;cases h
  | some kd =>
   rw [hu] at h;cases kd
   case int k0 =>
    injection h with h;subst h
    obtain ⟨k,a,b,rfl,rfl,rfl⟩:=q3k hr;rw [<-hx.now,<-hy.now,aB,aB,run_equalIn_int w _ t k k0 a b hu]
   case string =>
    injection h with h;subst h
    obtain ⟨a,b,rfl,rfl,rfl⟩:=q3l hr;rw [<-hx.now,<-hy.now,aB,aB,run_equalIn_string w _ t _ _ hu,NQ,NQ]
   case bool =>
    injection h with h;subst h
    obtain ⟨a,b,rfl,rfl,rfl⟩:=q0c hr;rw [<-hx.now,<-hy.now,aB,aB,run_equalIn_bool' w _ t _ _ hu]
   case struct fs =>
    simp only at h;split at h
    ·cases h
    ·rename_i hst;have hst':P.stoodInHeld t=false:=by simpa using hst
     obtain ⟨⟨l,rfl⟩,⟨l',rfl⟩⟩:=qsf h hr;obtain ⟨cs,rfl,hl⟩:=hx.gw;obtain ⟨cs',rfl,hl'⟩:=hy.gw;have hf:=q0d hu;rw [run_equalIn_struct w _ t _ _ (by rw [hf];exact hu) hst',hf];exact qpa (λ t q hq=>KO m w d t q hq) hl hl' _ _ _ h hr
   case array n e =>
    simp only [qb] at h;obtain ⟨s,hs,a,ha,q1,hq1,h⟩:=h;injection h with h;subst h
    obtain ⟨⟨l,rfl⟩,⟨l',rfl⟩⟩:=qu6 _ _ _ _ _ hr;obtain ⟨cs,rfl,hl⟩:=hx.gw;obtain ⟨cs',rfl,hl'⟩:=hy.gw;obtain ⟨i,hi,his⟩:=qpg hs;rw [run_equalIn_array _ _ _ _ hu hi,List.range_eq_range'];have hc:P.cellsOf e=s:=by simp [Program.cellsOf,hi,his]
    rw [hc];exact qse ha (KO m w d e q1 hq1) hl hl' n 0 r hr
   all_goals (cases h)
theorem D3 {D:Nat->Prop} {θ:Th} {w:World} {t:TypeId} {q:bl} (h:Ig P t=some q) {x y:AV} {cx cy:Value} {r:Bool} (hx:VR D θ x cx) (hy:VR D θ y cy) (hr:aW q x y=some r) :
 (Op.equal t cx cy).run P w=.ok r w:=KO 9980 w 20 t q h x y cx cy r hx hy hr
end
end Go.Am
namespace Go.Am
section
variable {P:Program} {base:Nat} {D:Nat->Prop} {θ:Th} {H:AHeap} {w:World}
def isStr:AV->Bool
 | .str _=>true
 | _=>false
theorem P5 (hh:HR P base D θ H w) {x:AV} {c:Value} {size n k:Nat} {l:List AV} (hx:VR D θ x c) (hk:dD x=some k) (hn:n<=k) (hs:isStr x=false)
 (h:firstCells H size n x=some l):∃ a len cap,c=.slice a len cap/\len=k/\((a=none/\l=[]/\n=0/\k=0) \/
  ∃ ad cs,a=some ad/\(loadCells ad (n*size)).run P w=.ok cs.toArray w/\bt D θ l cs/\l.length=n*size):=by
 have hz:∀ a,(loadCells a 0).run P w=.ok ([]:List Value).toArray w:=λ a=>rfl;cases x<;>simp only [dD,reduceCtorEq,qc] at hk
 case str s=>cases hs
 case nils =>
  subst hk;simp only [firstCells,qc] at h;subst h;exact ⟨none,0,0,hx.now.symm,rfl,.inl ⟨rfl,rfl,by omega,rfl⟩⟩
 case slice b o n' cp =>
  subst hk;simp only [firstCells] at h;refine ⟨_,_,_,hx.now.symm,rfl,.inr ?_⟩;cases hb:Nat.beq n 0 with
  | true =>
   have:n=0:=by simpa using hb
   subst this;rw [hb] at h;injection h with h;subst h
   exact ⟨_,[],rfl,by simpa using hz _,.nil,by simp⟩
  | false =>
   rw [hb] at h;obtain ⟨cs,h1,h2,h3⟩:=hh.aG h;exact ⟨_,cs,rfl,h1,h2,h3⟩
 case eslice b =>
  subst hk;have:n=0:=by omega
  subst this;simp only [firstCells,Nat.beq,xf,qc] at h;subst h;exact ⟨_,_,_,hx.now.symm,rfl,.inr ⟨_,[],rfl,by simpa using hz _,.nil,by simp⟩⟩
 case gslice b i m s alt n' =>
  subst hk;simp only [firstCells] at h;refine ⟨_,_,_,hx.now.symm,rfl,.inr ?_⟩;cases hb:Nat.beq n 0 with
  | true =>
   have:n=0:=by simpa using hb
   subst this;rw [hb] at h;injection h with h;subst h
   exact ⟨_,[],rfl,by simpa using hz _,.nil,by simp⟩
  | false =>
   rw [hb] at h;simp only [za] at h;cases hc:(Nat.beq s size && Nat.blt i m) with
   | false=>rw [hc] at h;cases h
   | true =>
    rw [hc] at h;simp only [xh,zp,we] at hc;obtain ⟨rfl,hi⟩:=hc;obtain ⟨cs,h1,h2,h3⟩:=hh.aG h;refine ⟨_,cs,rfl,?_,h2,h3⟩;rw [qg (by omega)];exact h1
end
end Go.Am
namespace Go.Am
section
variable {P:Program} {base:Nat} {D:Nat->Prop} {θ:Th} {H:AHeap} {w:World}
theorem MD {w:World} {r:Nat} {c:Array Value} {e:TypeId} {fz:Nat × Nat} (h:w.heap[r]? = some (.cells c e fz)):w.shape? r=some (e,c.size):=by
 simp [World.shape?,h]
theorem qqf {w:World} {r:Nat} {c:Array Value} {e:TypeId} {fz:Nat × Nat} (h:w.heap[r]? = some (.cells c e fz)):(viewAt r).run P w=.ok none w:=by
 simp [viewAt,MD h]
theorem qj5 {w:World} {a:Addr} {c:Array Value} {e:TypeId} {fz:Nat × Nat} (h:w.heap[a.block]? = some (.cells c e fz)):(noView a).run P w=.ok () w:=by
 simp [noView,qqf h]
theorem KT {isN isS:AV->Bool} {x y:AV} {q:Bool} (h:nF isN isS x y=some q) :
 (isN x=true/\isN y=true/\q=true)\/(isN x=true/\isS y=true/\q=false)\/(isS x=true/\isN y=true/\q=false):=by
 unfold nF at h;cases h1:isN x<;>cases h2:isN y<;>cases h3:isS x<;>cases h4:isS y<;>simp_all
theorem Eh.not {cfz:Nat × Nat} (h:Eh (0,0) cfz) (i:Nat):¬ (cfz.1<=i/\i<cfz.2):=by
 rcases h with h|⟨_,h⟩<;>simp at *<;>omega
theorem q60 (hh:HR P base D θ H w) {b b' o o':Nat} (hne:b ≠ b') (h:rE H b b'=true) :
 (sameAddr ⟨θ.bz b,θ.off b+o,none⟩ ⟨θ.bz b',θ.off b'+o',none⟩).run P w=.ok false w:=by
 have key:∀ (k1 k2 o1 o2:Nat) (c1 c2:Array Value) (e1 e2:TypeId) (f1 f2:Nat × Nat),k1 ≠ k2->w.heap[k1]? = some (.cells c1 e1 f1)->w.heap[k2]? = some (.cells c2 e2 f2) ->
  ((∀ i,¬ (f1.1<=i/\i<f1.2))/\c2.size ≠ 0\/(∀ i,¬ (f2.1<=i/\i<f2.2))/\c1.size ≠ 0)->(sameAddr ⟨k1,o1,none⟩ ⟨k2,o2,none⟩).run P w=.ok false w:=by
  intro k1 k2 o1 o2 c1 c2 e1 e2 f1 f2 hk h1 h2 hc;have s1:=MD h1;have s2:=MD h2;have n1:(noView ⟨k1,o1,none⟩).run P w=_:=qj5 h1;have n2:(noView ⟨k2,o2,none⟩).run P w=_:=qj5 h2;have fr1:∀ i,w.frozen? ⟨k1,i,none⟩=(decide (f1.1<=i) && decide (i<f1.2)):=λ i=>by simp [World.frozen?,h1]
  have sR:∀ i,w.frozen? ⟨k2,i,none⟩=(decide (f2.1<=i) && decide (i<f2.2)):=λ i=>by simp [World.frozen?,h2]
  have hkb:(k1 == k2)=false:=by simpa using hk
  rcases hc with ⟨hf,hz⟩|⟨hf,hz⟩
  ·have fz1:∀ i,w.frozen? ⟨k1,i,none⟩=false:=λ i=>by rw [fr1];have:=hf i;simp at this ⊢;omega
   simp only [sameAddr,Sem.run_bind,run_frozen,fz1,n1,n2,hkb,mayBeOne,stringish,run_shape,s1,s2,Sem.run_ite,Bool.false_and,ko,qo,Sem.run_pure,Result.andThen_ok];cases w.frozen? ⟨k2,o2,none⟩<;>simp [hz,s2]
  ·have fz2:∀ i,w.frozen? ⟨k2,i,none⟩=false:=λ i=>by rw [sR];have:=hf i;simp at this ⊢;omega
   simp only [sameAddr,Sem.run_bind,run_frozen,fz2,n1,n2,hkb,mayBeOne,stringish,run_shape,s1,s2,Sem.run_ite,Bool.and_false,ko,qo,Sem.run_pure,Result.andThen_ok];cases w.frozen? ⟨k1,o1,none⟩<;>simp [hz,s1,s2,fz2]
 unfold rE at h;split at h
 ·rename_i c e x c' e' fz' ow' hb hb';obtain ⟨_,co,hc,pre,cs,post,cfz,et,rfl,h2,h3,h4⟩:=hh.obj b _ hb;obtain ⟨_,co',hc',pre',cs',post',cfz',et',rfl,h2',h3',h4'⟩:=hh.obj b' _ hb';refine key _ _ _ _ _ _ _ _ _ _ (hh.inj b b' _ _ hb hb' rfl hne) hc hc' (.inl ⟨(h4 rfl).2.2.2.not,?_⟩);have:=h3'.length;simp only [List.size_toArray,qx,ky] at this ⊢;omega
 ·rename_i c e fz ow c' e' hb hb';obtain ⟨_,co,hc,pre,cs,post,cfz,et,rfl,h2,h3,h4⟩:=hh.obj b _ hb;obtain ⟨_,co',hc',pre',cs',post',cfz',et',rfl,h2',h3',h4'⟩:=hh.obj b' _ hb';refine key _ _ _ _ _ _ _ _ _ _ (λ e=>hh.inj b' b _ _ hb' hb rfl (λ e=>hne e.symm) e.symm) hc hc' (.inr ⟨(h4' rfl).2.2.2.not,?_⟩);have:=h3.length;simp only [List.size_toArray,qx,ky] at this ⊢;omega
 ·cases h
def re (P:Program) (t:TypeId) (x y:Operand):qJ->Prop
 | .bool=>P.underlying t=some .bool
 | .ptr=>∃ e n,P.underlying t=some (.pointer e)/\bF P e=some (n+1)
 | .slice=>∃ e,P.underlying t=some (.slice e)
 | .map=>∃ k e,P.underlying t=some (.map k e)
 | .func=>∃ a b c,P.underlying t=some (.func a b c)
 | .iface=>∃ ms,P.underlying t=some (.interface ms)/\((∃ v,x=.const v) \/ ∃ v,y=.const v)
 | .ifaces f=>(∃ ms,P.underlying t=some (.interface ms)) /\ ∀ u q,f u=some q->dy P 20 u=some q /\ ∃ i,P.info? u=some i/\i.comparable=true
 | .agg q=>P.eqGuardType P.depth t=false/\Ig P t=some q/\((∃ fs,P.underlying t=some (.struct fs)) \/ ∃ n e,P.underlying t=some (.array n e))
set_option maxHeartbeats 2000000 in
theorem Ed (hh:HR P base D θ H w) {t:TypeId} {x y:Operand} {ρ:Operand->Value} {k:qJ} (hk:re P t x y k) {a b:AV} (ha:VR D θ a (ρ x)) (hb:VR D θ b (ρ y)) {q:Bool}
 (h:DH H k a b=some q) (op:BinOp) (hop:op=.eql\/op=.neq) :
 ((do eqGuard op t x y (ρ x) (ρ y);binOp op t (ρ x) (ρ y)):Sem Value).run P w=.ok (.bool (if op=.neq then !q else q)) w:=by
 have fin:(eqGuard op t x y (ρ x) (ρ y)).run P w=.ok () w->(Op.equal t (ρ x) (ρ y)).run P w=.ok q w->(binOp .eql t (ρ x) (ρ y)).run P w=((do pure (.bool (<-Op.equal t (ρ x) (ρ y)))):Sem Value).run P w ->
  (binOp .neq t (ρ x) (ρ y)).run P w=((do pure (.bool (!(<-Op.equal t (ρ x) (ρ y))))):Sem Value).run P w ->
  ((do eqGuard op t x y (ρ x) (ρ y);binOp op t (ρ x) (ρ y)):Sem Value).run P w=.ok (.bool (if op=.neq then !q else q)) w:=by
  intro h1 h2 h3 h4;rw [Sem.run_bind,h1,Result.andThen_ok];rcases hop with rfl|rfl
  ·rw [h3];simp [h2]
  ·rw [h4];simp [h2]
 obtain ⟨dd,e1,e0⟩:∃ d,(∀ p q,Op.equal t p q=Op.equalIn (d+1) t p q) /\ ∃ m,d=20+m:=⟨9999,λ _ _=>rfl,9979,rfl⟩
 cases k
 case bool =>
  cases a<;>cases b<;>simp only [DH,reduceCtorEq,qc] at h;subst h;have hu:P.underlying t=some .bool:=hk;rw [<-ha.now,<-hb.now];rw [<-ha.now,<-hb.now] at fin;refine fin ?_ (run_equalIn_bool' w _ t _ _ hu) (by simp only [aB,binOp]) (by simp only [aB,binOp]);rcases hop with rfl|rfl<;>simp [eqGuard,aB]
 case ptr =>
  obtain ⟨e,n,hu,hs⟩:=hk;have hs':=qC (w:=w) hs;have hq:(Op.equal t (ρ x) (ρ y)).run P w=.ok q w:=by
   cases a<;>cases b<;>simp only [DH,reduceCtorEq,qc] at h
   ·subst h;rw [<-ha.now,<-hb.now,e1];simp [aB,Op.equalIn,yv hu]
   ·subst h;rw [<-ha.now,<-hb.now,e1];simp [aB,Op.equalIn,yv hu]
   ·subst h;rw [<-ha.now,<-hb.now,e1];simp [aB,Op.equalIn,yv hu]
   ·rename_i b1 o1 b2 o2;rw [<-ha.now,<-hb.now,e1];simp only [aB,Op.equalIn,Sem.run_bind,yv hu,Result.andThen_ok,hs',ne_eq,Nat.add_eq_zero_iff,Nat.succ_ne_zero,and_false,not_false_eq_true,xa];cases hbb:Nat.beq b1 b2 with
    | true =>
     rw [hbb] at h;have:b1=b2:=by simpa using hbb
     subst this;simp only [xf,qc] at h;subst h;simp only [sameAddr,beq_self_eq_true,xa,Sem.run_pure];congr 1
     by_cases ho:o1=o2
     ·subst ho;simp
     ·have:Nat.beq o1 o2=false:=by simpa [<-Bool.not_eq_true,zp] using ho
      rw [this];simp [ho]
    | false =>
     rw [hbb] at h;simp only [za] at h;cases hp:rE H b1 b2 with
     | false=>rw [hp] at h;cases h
     | true =>
      rw [hp] at h;simp only [xf,qc] at h;subst h;have hne:b1 ≠ b2:=λ e=>by subst e;simp at hbb
      exact q60 hh hne hp
  cases a<;>cases b<;>simp only [DH,reduceCtorEq,qc] at h <;>
   (rw [<-ha.now,<-hb.now] at hq ⊢;rw [<-ha.now,<-hb.now] at fin
    exact fin (by rcases hop with rfl|rfl<;>simp [eqGuard,aB]) hq (by simp only [aB,binOp]) (by simp only [aB,binOp]))
 case slice =>
  obtain ⟨e,hu⟩:=hk;have hc:=KT h;cases a<;>cases b<;>simp [yF,isSlice] at hc <;>
   (subst hc;rw [<-ha.now,<-hb.now];rw [<-ha.now,<-hb.now] at fin
    exact fin (by rcases hop with rfl|rfl<;>simp [eqGuard,aB]) (by rw [e1];simp [aB,Op.equalIn,yv hu]) (by simp only [aB,binOp]) (by simp only [aB,binOp]))
 case map =>
  obtain ⟨k,e,hu⟩:=hk;have hc:=KT h;cases a<;>cases b<;>simp [wZ,isMap] at hc <;>
   (subst hc;rw [<-ha.now,<-hb.now];rw [<-ha.now,<-hb.now] at fin
    exact fin (by rcases hop with rfl|rfl<;>simp [eqGuard,aB]) (by rw [e1];simp [aB,Op.equalIn,yv hu]) (by simp only [aB,binOp]) (by simp only [aB,binOp]))
 case func =>
  obtain ⟨p1,p2,p3,hu⟩:=hk;have hc:=KT h;cases a<;>cases b<;>simp [vK,GX] at hc <;>
   (subst hc;rw [<-ha.now,<-hb.now];rw [<-ha.now,<-hb.now] at fin
    exact fin (by rcases hop with rfl|rfl<;>simp [eqGuard,aB]) (by rw [e1];simp [aB,Op.equalIn,yv hu]) (by simp only [aB,binOp]) (by simp only [aB,binOp]))
 case iface =>
  obtain ⟨ms,hu,hxy⟩:=hk;have hc:=KT h;cases a<;>cases b<;>simp [yI,isIface] at hc <;>
   (subst hc;rw [<-ha.now,<-hb.now];rw [<-ha.now,<-hb.now] at fin
    exact fin (by rcases hop with rfl|rfl<;>rcases hxy with ⟨v,rfl⟩|⟨v,rfl⟩<;>simp [eqGuard,aB]) (by rw [e1];simp [aB,Op.equalIn,yv hu]) (by simp only [aB,binOp]) (by simp only [aB,binOp]))
 case ifaces f =>
  obtain ⟨⟨ms,hu⟩,hf⟩:=hk;cases a<;>cases b<;>simp only [DH,reduceCtorEq,qc] at h
  ·rename_i t1 v1 t2 v2;obtain ⟨c1,hc1,hv1⟩:=ha.iF;obtain ⟨c2,hc2,hv2⟩:=hb.iF;rw [hc1,hc2] at fin ⊢;refine fin (by rcases hop with rfl|rfl<;>simp [eqGuard]) ?_ (by simp only [binOp]) (by simp only [binOp]);rw [e1];cases hbq:Nat.beq t1 t2 with
   | true =>
    rw [hbq] at h;simp only [zp] at hbq;subst hbq;simp only [xf,qb] at h;obtain ⟨tr,htr,h⟩:=h;obtain ⟨g1,i,g2,g3⟩:=hf _ _ htr;obtain ⟨m,rfl⟩:=e0;have hrun:=KO m (D:=D) (θ:=θ) w 20 t1 tr g1 v1 v2 c1 c2 q hv1 hv2 h;simp [Op.equalIn,yv hu,typeInfo,g2,g3,hrun]
   | false =>
    rw [hbq] at h;have hne:t1 ≠ t2:=λ e=>by subst e;simp at hbq
    simp only [za,qc] at h;subst h;simp [Op.equalIn,yv hu,hne]
  ·subst h;rw [<-ha.now,<-hb.now];rw [<-ha.now,<-hb.now] at fin;exact fin (by rcases hop with rfl|rfl<;>simp [eqGuard,aB]) (by rw [e1];simp [aB,Op.equalIn,yv hu]) (by simp only [aB,binOp]) (by simp only [aB,binOp])
  ·subst h;rw [<-ha.now,<-hb.now];rw [<-ha.now,<-hb.now] at fin;exact fin (by rcases hop with rfl|rfl<;>simp [eqGuard,aB]) (by rw [e1];simp [aB,Op.equalIn,yv hu]) (by simp only [aB,binOp]) (by simp only [aB,binOp])
 case agg tr =>
  obtain ⟨hg,hkt,hu⟩:=hk;have hq:=D3 (w:=w) hkt ha hb h;have hagg:(∃ l,a=.agg l) /\ ∃ l,b=.agg l:=by
   have hkt:dy P (19+1) t=some tr:=hkt;rw [dy] at hkt;rcases hu with ⟨fs,hu⟩|⟨n,e,hu⟩
   ·rw [hu] at hkt;simp only at hkt;split at hkt
    ·cases hkt
    ·exact qsf hkt h
   ·rw [hu] at hkt;simp only [qb] at hkt;obtain ⟨s,hs,a',ha',q1,hq1,hkt⟩:=hkt;injection hkt with hkt;subst hkt
    exact qu6 _ _ _ _ _ h
  obtain ⟨⟨l,rfl⟩,⟨l',rfl⟩⟩:=hagg;obtain ⟨cs,h1,_⟩:=ha.gw;obtain ⟨cs',h2,_⟩:=hb.gw;rw [h1,h2] at hq fin ⊢;exact fin (run_eqGuard_agg w _ t x y _ _ hg) hq (by simp only [binOp]) (by simp only [binOp])
theorem q65 {o:Oper} {t t':TypeId} {x y:Operand} {k:qJ} {neg:Bool} (ho:o.op=.binOp (if neg then .neq else .eql) t x y t') (hk:re P t x y k):oA P o [x,y] (Op.eq k neg):=by
 intro base D θ H ρ w vs v hh h hv;unfold Op.eq at hv;split at hv
 ·rename_i a b;obtain ⟨x',y',he,ha,hb⟩:=h.qI;simp only [zi,od] at he;obtain ⟨rfl,rfl⟩:=he;simp only [qb] at hv;obtain ⟨q,hq,hv⟩:=hv;injection hv with hv;subst hv
  have:=Ed hh hk ha hb hq (if neg then .neq else .eql) (by cases neg<;>simp);refine ⟨_,.inl ?_,.bool _⟩;simp only [execOp,ho];rw [Sem.run_bind,this];cases neg<;>simp
 ·cases hv
end
end Go.Am
namespace Go.Am
structure iK (w w0:World):Prop where
 heap:w0.heap=w.heap
 os:w0.os=w.os
 tape:w0.tape=w.tape
 output:w0.output=w.output
theorem iK.refl (w:World):iK w w:=⟨rfl,rfl,rfl,rfl⟩
theorem iK.drew (w:World):iK w w.drew:=⟨rfl,rfl,rfl,rfl⟩
theorem iK.trans {a b c:World} (h:iK a b) (h':iK b c):iK a c:=⟨h'.heap.trans h.heap,h'.os.trans h.os,h'.tape.trans h.tape,h'.output.trans h.output⟩
def iD (P:Program) (o:Oper) (xs:List Operand) (f:List AV->Option (bm × (Nat->AV))):Prop :=
 ∀ (D:Nat->Prop) θ (ρ:Operand->Value) w vs ob mk,bt D θ vs (xs.map ρ)->f vs=some (ob,mk) ->
  own ob=true /\ ∃ w0 co ext c,(execOp ρ o).run P w=.ok (.value c) (w0.alloc co)/\iK w w0 /\
   ∀ (D':Nat->Prop) θ' id,Ag D θ θ'->(∀ b,D b->D' b)->D' id -> θ'.bz id=w.heap.size -> θ'.off id=0 -> θ'.ext id=ext->lW P D' θ' id ob co/\VR D' θ' (mk id) c
section
variable {P:Program}
theorem Km {D':Nat->Prop} {θ':Th} {id:Nat} {cells:List AV} {cs:List Value} {e:TypeId} (h:bt D' θ' cells cs) (ho:θ'.off id=0) :
 lW P D' θ' id (.row cells e (0,0) true) (.cells cs.toArray e (0,0)) :=
 ⟨[],cs,[],(0,0),_,by simp,by simp [ho],h,λ _=>⟨rfl,rfl,rfl,.inl rfl⟩⟩
theorem q2c {D':Nat->Prop} {θ':Th} {id k:Nat} (hd:D' id) (hb:θ'.bz id=k) (ho:θ'.off id=0):VR D' θ' (Op.ptrTo id) (.pointer (some ⟨k,0,none⟩)):=by
 have:=VR.ptr (θ:=θ') (o:=0) hd;rw [hb,ho] at this;exact this
theorem qva {D':Nat->Prop} {θ':Th} {id k n m:Nat} (hd:D' id) (hb:θ'.bz id=k) (ho:θ'.off id=0):VR D' θ' (Op.sliceTo n m id) (.slice (some ⟨k,0,none⟩) n m):=by
 have:=VR.slice (θ:=θ') (o:=0) (n:=n) (c:=m) hd;simp only [aB,hb,ho] at this;exact this
theorem qzx {o:Oper} {e:TypeId} {z:AV} (ho:o.op=.alloc e) (hz:zeroOf P e=some z):iD P o [] (Op.alloc e z.cells):=by
 intro D θ ρ w vs ob mk h hv;unfold Op.alloc at hv;split at hv
 ·injection hv with hv;injection hv with h1 h2;subst h1;subst h2
  obtain ⟨zc,hz1,hz2⟩:=FV (w:=w) hz;refine ⟨rfl,w,.cells zc.cells e (0,0),0,.pointer (some ⟨w.heap.size,0,none⟩),?_,.refl w,λ D' θ' id ha hd hid hb hoff _=>⟨?_,q2c hid hb hoff⟩⟩
  ·simp [execOp,ho,Instr.alloc,hz1,newVar,newRow]
  ·have:=Km (P:=P) (e:=e) (hz2 D' θ').cells hoff
   simpa using this
 ·cases hv
theorem q42 {o:Oper} {e:TypeId} {x:Operand} (ho:o.op=.box e x):iD P o [x] (Op.box e):=by
 intro D θ ρ w vs ob mk h hv;unfold Op.box at hv;split at hv
 ·rename_i v;obtain ⟨x',he,ha⟩:=h.nh;simp only [zi,od] at he;subst he;injection hv with hv;injection hv with h1 h2;subst h1;subst h2
  refine ⟨rfl,w,.cells (ρ x).cells e (0,0),0,.pointer (some ⟨w.heap.size,0,none⟩),?_,.refl w,λ D' θ' id hg hd hid hb hoff _=>⟨?_,q2c hid hb hoff⟩⟩
  ·simp [execOp,ho,Instr.box,newVar,newRow]
  ·have:=Km (P:=P) (e:=e) (ha.up hg hd).cells hoff
   simpa using this
 ·cases hv
theorem Nv {D:Nat->Prop} {θ:Th} {z:List AV} {zc:List Value} (h:bt D θ z zc) (n:Nat):bt D θ (dG n z) (List.replicate n zc).flatten:=by
 induction n with
 | zero=>exact .nil
 | succ n ih =>
  simp only [dG,lG,IK,Jo];exact h.app ih
theorem MY (zc:List Value) (n:Nat):((Array.range (n*zc.length)).map (λ i=>zc.toArray[i % zc.toArray.size]!))=(List.replicate n zc).flatten.toArray:=by
 apply B6;simp only [Array.toList_map,Array.toList_range,List.size_toArray]
 induction n with
 | zero=>simp
 | succ n ih =>
  rw [show (n+1)*zc.length=zc.length+n*zc.length from by rw [j4];omega,List.range_add,Ef,td,IK,Jo];congr 1
  ·apply List.ext_getElem
   ·simp
   ·intro i h1 h2;simp at h1;simp [Nat.mod_eq_of_lt h1,h1]
  ·rw [<-ih];apply List.map_congr_left;intro i hi;simp
theorem qpm {o:Oper} {t e:TypeId} {len n:Nat} {parts:Array (Nat × Operand)} {z:AV} {ps:List (Nat × Nat)} (ho:o.op=.buildSlice t len parts) (hu:P.underlying t=some (.slice e))
 (hs:bF P e=some n) (hz:zeroOf P e=some z) (hp:uf (E9 n) parts.toList=some ps) (hzn:z.cells.length=n) (hbig:len*n<=16777216) :
 iD P o (parts.toList.map (·.2)) (Op.buildSlice e len z.cells ps):=by
 intro D θ ρ w vs ob mk h hv;simp only [Op.buildSlice,qb] at hv;obtain ⟨c,hc,hv⟩:=hv;injection hv with hv;injection hv with h1 h2;subst h1;subst h2
 obtain ⟨zc,hz1,hz2⟩:=FV (w:=w) hz;have hzl:=(hz2 D θ).cells.length;have hnew:bt D θ (dG len z.cells) (List.replicate len zc.cells.toList).flatten:=Nv (hz2 D θ).cells len;have hv':bt D θ vs (parts.toList.map λ p=>ρ p.2):=by simpa [td,Function.comp_def] using h
 obtain ⟨cout,g1,g2⟩:=PG ps vs parts.toList (E9 n) c hp hv' _ _ hnew hc;have hsize:zc.cells.size=n:=by rw [<-yc];omega
 refine ⟨rfl,w,.cells cout.toArray e (0,0),0,.slice (some ⟨w.heap.size,0,none⟩) len len,?_,.refl w,λ D' θ' id hg hd hid hb hoff _=>⟨Km (g2.up hg hd) hoff,qva hid hb hoff⟩⟩;have hzeros:=MY zc.cells.toList len;rw [show zc.cells.toList.length=n from by omega] at hzeros;simp only [HF] at hzeros;have hfill:Instr.fill (λ i=>some (i*n,n)) (((Array.range (len*n)).map (λ i=>zc.cells[i % zc.cells.size]!))) ((parts.map λ (p:Nat × Operand)=>(p.1,ρ p.2)).toList)=some cout.toArray:=by
  rw [hzeros,q6v];exact g1
 by_cases h0:len*n=0
 ·have hfill':Instr.fill (λ i=>some (i*n,n)) #[] ((parts.map λ (p:Nat × Operand)=>(p.1,ρ p.2)).toList)=some cout.toArray:=by
   rw [h0,show Array.range 0 = #[] from rfl] at hfill;simpa only [Array.map_empty] using hfill
  simp only [execOp,ho,Instr.buildSlice,Sem.run_bind,yv hu,Result.andThen_ok,qC hs,h0,show Array.range 0 = #[] from rfl,Array.map_empty,xa,Sem.run_pure,hfill'];simp [newRow]
 ·have hb:¬ (len*n > 2 ^ 24):=by omega
  simp only [execOp,ho,Instr.buildSlice,Sem.run_bind,yv hu,Result.andThen_ok,qC hs,h0,hb,qo,hz1,Sem.run_pure];simp only [hfill];simp [newRow]
theorem qvt {o:Oper} {t e:TypeId} {l c:Operand} {b n:Nat} {z:AV} (ho:o.op=.makeSlice t l c) (hu:P.underlying t=some (.slice e)) (hb:i6 P e=some b)
 (hs:bF P e=some n) (hz:zeroOf P e=some z) (hzn:z.cells.length=n):iD P o [l,c] (Op.mkSlice e b z.cells):=by
 intro D θ ρ w vs ob mk h hv;unfold Op.mkSlice at hv;split at hv
 ·rename_i k1 i1 k2 i2;obtain ⟨x,y,he,ha,hb'⟩:=h.qI;simp only [zi,od] at he;obtain ⟨rfl,rfl⟩:=he;cases hcond:(nH 0 i1 && nH i1 i2 && nH (i2*b) 140737488355328 && nH i2 140737488355328) with
  | false=>rw [hcond] at hv;cases hv
  | true =>
   rw [hcond] at hv;simp only [xf,qc,xn] at hv;obtain ⟨rfl,rfl⟩:=hv;simp only [xh,BM,GS] at hcond;obtain ⟨⟨⟨c1,c2⟩,c3⟩,c4⟩:=hcond;obtain ⟨zc,hz1,hz2⟩:=FV (w:=w) hz;have hzl:=(hz2 D θ).cells.length;have hsize:zc.cells.size=n:=by rw [<-yc];omega
   refine ⟨rfl,w,.cells (List.replicate i2.toNat zc.cells.toList).flatten.toArray e (0,0),0,.slice (some ⟨w.heap.size,0,none⟩) i1.toNat i2.toNat,?_,.refl w,
    λ D' θ' id hg hd hid hb hoff _=>⟨Km (Nv ((hz2 D' θ').cells) _) hoff,qva hid hb hoff⟩⟩
   have w1:IntKind.i64.wrap i1=i1:=by simp [IntKind.wrap,IntKind.signed,IntKind.bits];omega
   have w2:IntKind.i64.wrap i2=i2:=by simp [IntKind.wrap,IntKind.signed,IntKind.bits];omega
   have hbt:∃ i,P.info? e=some i/\i.bytes=b:=by
    unfold i6 at hb;cases hi:P.info? e with
    | none=>rw [hi] at hb;cases hb
    | some i=>rw [hi] at hb;injection hb with hb;exact ⟨i,rfl,hb⟩
   obtain ⟨inf,hi,rfl⟩:=hbt;have hzeros:=MY zc.cells.toList i2.toNat;rw [show zc.cells.toList.length=n from by omega] at hzeros;simp only [HF] at hzeros;have t2:¬ (i2<0):=by omega
   have t3:¬ ((inf.bytes:Int)*i2 > 2 ^ 48):=by rw [Int.mul_comm];omega
   have t4:¬ (i1<0):=by omega
   have t5:¬ (i1 > i2):=by omega
   have t6:¬ (i2.toNat*inf.bytes > roomBytes):=by
    have:((i2.toNat*inf.bytes:Nat):Int)=i2*inf.bytes:=by rw [Int.natCast_mul];congr 1;omega
    unfold roomBytes;omega
   have t7:(2:Int) ^ 48=281474976710656:=by decide
   simp only [execOp,ho,<-ha.now,<-hb'.now,aB,Instr.makeSlice,Sem.run_bind,yv hu,Result.andThen_ok,asInt,asIntOf,Sem.run_pure,typeInfo,run_program,hi,w1,w2,qC hs]
   by_cases h0:i2.toNat*n=0
   ·have hzeros':(List.replicate i2.toNat zc.cells.toList).flatten.toArray = #[]:=by rw [<-hzeros,h0,show Array.range 0 = #[] from rfl,Array.map_empty]
    simp only [t2,t3,t4,t5,t6,h0,askRoom,hzeros',decide_false,decide_true,Bool.or_self,ko,qo,xa,Sem.run_bind,Sem.run_pure,Result.andThen_ok,qC hs,show Array.range 0 = #[] from rfl,Array.map_empty];simp [newRow]
   ·simp only [t2,t3,t4,t5,t6,h0,askRoom,decide_false,decide_true,Bool.or_self,ko,qo,xa,Sem.run_bind,Sem.run_pure,Result.andThen_ok,qC hs,hz1,hzeros];simp [newRow]
 ·cases hv
end
end Go.Am
