/- B1: Defs Exec Comp Lists Rel Heap Pure Pure2 Pure3 Reads Reads2 Reads3 Allocs. -/
import GoSem.Step
import Derived.CallsIn
import Derived.WalkKit
import Derived.WalkLawsBesides
import Derived.Lib.Strings
import Derived.Lib.Bytealg
import Derived.DeepKeys3
import Derived.Laws.Cover3
import Derived.Laws.Pointers
import Derived.Room.MakeNoZero
import Derived.Laws.IdiomStrings
set_option linter.unusedVariables false
set_option linter.unusedSimpArgs false
namespace Go.Am
theorem qa:type_of% @Option.bind_eq_some_iff:=@Option.bind_eq_some_iff
theorem qb:type_of% @Option.some.injEq:=@Option.some.injEq
theorem qc:type_of% @if_neg:=@if_neg
theorem qd:type_of% @Option.bind_some:=@Option.bind_some
theorem qe:type_of% @Nat.lt_of_lt_of_le:=@Nat.lt_of_lt_of_le
theorem qf:type_of% @Nat.le_refl:=@Nat.le_refl
theorem qg:type_of% @List.length_append:=@List.length_append
theorem qk:type_of% @if_pos:=@if_pos
theorem ql:type_of% @cond_true:=@cond_true
theorem qn:type_of% @List.length_cons:=@List.length_cons
theorem qt:type_of% @List.append_assoc:=@List.append_assoc
theorem qu:type_of% @Prod.mk.injEq:=@Prod.mk.injEq
theorem qv:type_of% @List.getElem?_eq_some_iff:=@List.getElem?_eq_some_iff
theorem qw:type_of% @List.length_nil:=@List.length_nil
theorem qx:type_of% @Bool.and_eq_true:=@Bool.and_eq_true
theorem xa:type_of% @cond_false:=@cond_false
theorem xc:type_of% @List.cons.injEq:=@List.cons.injEq
theorem xi:type_of% @List.getElem?_append_left:=@List.getElem?_append_left
theorem xj:type_of% @List.getElem?_map:=@List.getElem?_map
theorem xm:type_of% @List.length_set:=@List.length_set
theorem xn:type_of% @List.getElem?_append_right:=@List.getElem?_append_right
theorem xo:type_of% @List.take_of_length_le:=@List.take_of_length_le
theorem xq:type_of% @List.drop_zero:=@List.drop_zero
theorem xr:type_of% @Option.map_eq_some_iff:=@Option.map_eq_some_iff
theorem xu:type_of% @List.getElem?_set_ne:=@List.getElem?_set_ne
theorem xv:type_of% @List.mem_of_getElem?:=@List.mem_of_getElem?
theorem xx:type_of% @List.map_cons:=@List.map_cons
theorem xz:type_of% @Nat.le_trans:=@Nat.le_trans
theorem x6:type_of% @Nat.zero_add:=@Nat.zero_add
theorem x8:type_of% @List.mem_cons:=@List.mem_cons
theorem x9:type_of% @Nat.lt_succ_self:=@Nat.lt_succ_self
theorem za:type_of% @List.getElem?_eq_getElem:=@List.getElem?_eq_getElem
theorem zd:type_of% @List.getElem?_cons_succ:=@List.getElem?_cons_succ
theorem zg:type_of% @Iff.rfl:=@Iff.rfl
theorem zm:type_of% @List.drop_succ_cons:=@List.drop_succ_cons
theorem zn:type_of% @List.nil_append:=@List.nil_append
theorem zt:type_of% @List.take_zero:=@List.take_zero
theorem zy:type_of% @List.mem_append:=@List.mem_append
theorem zz:type_of% @Nat.beq_eq:=@Nat.beq_eq
theorem z5:type_of% @Array.getElem?_toList:=@Array.getElem?_toList
theorem z9:type_of% @List.take_succ_cons:=@List.take_succ_cons
theorem ja:type_of% @Nat.zero_le:=@Nat.zero_le
theorem jc:type_of% @Bool.false_eq_true:=@Bool.false_eq_true
theorem jd:type_of% @decide_eq_true:=@decide_eq_true
theorem je:type_of% @List.getElem?_eq_none:=@List.getElem?_eq_none
theorem jf:type_of% @decide_eq_false:=@decide_eq_false
theorem jl:type_of% @List.flatMap_cons:=@List.flatMap_cons
theorem jm:type_of% @Nat.mul_le_mul_right:=@Nat.mul_le_mul_right
theorem js:type_of% @Array.getElem?_eq_some_iff:=@Array.getElem?_eq_some_iff
theorem jt:type_of% @List.getElem?_set_self:=@List.getElem?_set_self
theorem jv:type_of% @Nat.add_zero:=@Nat.add_zero
theorem jx:type_of% @Option.bind_assoc:=@Option.bind_assoc
theorem jz:type_of% @Array.getD_eq_getD_getElem?:=@Array.getD_eq_getD_getElem?
theorem j0:type_of% @eq_true:=@eq_true
theorem kc:type_of% @List.drop_eq_nil_of_le:=@List.drop_eq_nil_of_le
theorem kg:type_of% @Nat.lt_or_ge:=@Nat.lt_or_ge
theorem kh:type_of% @List.append_nil:=@List.append_nil
theorem kp:type_of% @Bool.and_self:=@Bool.and_self
theorem kq:type_of% @List.getElem?_cons_zero:=@List.getElem?_cons_zero
theorem kr:type_of% @and_true:=@and_true
theorem kw:type_of% @List.map_nil:=@List.map_nil
theorem ky:type_of% @List.length_take:=@List.length_take
theorem yf:type_of% @List.getD_eq_getElem?_getD:=@List.getD_eq_getElem?_getD
theorem yh:type_of% @decide_eq_true_eq:=@decide_eq_true_eq
theorem yk:type_of% @List.mem_singleton:=@List.mem_singleton
theorem ym:type_of% @List.set_eq_take_append_cons_drop:=@List.set_eq_take_append_cons_drop
theorem yn:type_of% @Option.some.inj:=@Option.some.inj
theorem yu:type_of% @Array.getElem?_setIfInBounds:=@Array.getElem?_setIfInBounds
theorem ve:type_of% @if_false:=@if_false
theorem vj:type_of% @Nat.add_assoc:=@Nat.add_assoc
theorem vo:type_of% @List.length_map:=@List.length_map
theorem vu:type_of% @List.map_map:=@List.map_map
theorem vw:type_of% @List.getElem?_drop:=@List.getElem?_drop
theorem vx:type_of% @List.getElem?_take:=@List.getElem?_take
theorem wq:type_of% @Nat.ble_eq:=@Nat.ble_eq
theorem wx:type_of% @Array.length_toList:=@Array.length_toList
theorem wy:type_of% @Bool.or_eq_true:=@Bool.or_eq_true
theorem wz:type_of% @List.replicate_succ:=@List.replicate_succ
theorem BC:type_of% @List.take_append_drop:=@List.take_append_drop
theorem nW:type_of% @Nat.add_mul:=@Nat.add_mul
theorem oJ:type_of% @Nat.zero_mul:=@Nat.zero_mul
theorem ur:type_of% @List.cons_append:=@List.cons_append
theorem tY:type_of% @List.length_drop:=@List.length_drop
theorem yB:type_of% @Int.toNat_natCast:=@Int.toNat_natCast
theorem CH:type_of% @Nat.add_sub_cancel_left:=@Nat.add_sub_cancel_left
theorem mW:type_of% @Nat.blt_eq:=@Nat.blt_eq
theorem yG:type_of% @not_false_eq_true:=@not_false_eq_true
theorem FJ:type_of% @Int.tmod_eq_emod_of_nonneg:=@Int.tmod_eq_emod_of_nonneg
theorem BL:type_of% @Bool.or_eq_false_iff:=@Bool.or_eq_false_iff
theorem BZ:type_of% @List.mem_cons_of_mem:=@List.mem_cons_of_mem
theorem Gh:type_of% @Decidable.byContradiction:=@Decidable.byContradiction
theorem Jh:type_of% @List.take_append_of_le_length:=@List.take_append_of_le_length
theorem oK:type_of% @Nat.mul_one:=@Nat.mul_one
theorem qI:type_of% @Nat.succ_mul:=@Nat.succ_mul
theorem zG:type_of% @not_true_eq_false:=@not_true_eq_false
theorem rR:type_of% @Bool.or_false:=@Bool.or_false
theorem yM:type_of% @List.any_append:=@List.any_append
theorem rO:type_of% @List.drop_nil:=@List.drop_nil
theorem FH:type_of% @List.length_eq_zero_iff:=@List.length_eq_zero_iff
theorem su:type_of% @List.take_nil:=@List.take_nil
theorem pF:type_of% @Nat.mul_add:=@Nat.mul_add
theorem yP:type_of% @List.all_eq_true:=@List.all_eq_true
theorem iW:type_of% @if_true:=@if_true
theorem FI:type_of% @Nat.div_div_eq_div_mul:=@Nat.div_div_eq_div_mul
theorem Fw:type_of% @Nat.ne_of_beq_eq_false:=@Nat.ne_of_beq_eq_false
theorem Eo:type_of% @List.flatMap_append:=@List.flatMap_append
theorem AM:type_of% @Option.map_some:=@Option.map_some
theorem rP:type_of% @decide_false:=@decide_false
theorem Es:type_of% @Int.cast_ofNat_Int:=@Int.cast_ofNat_Int
theorem EZ:type_of% @List.mem_cons_self:=@List.mem_cons_self
theorem Cr:type_of% @List.drop_append:=@List.drop_append
theorem LC:type_of% @List.drop_append_of_le_length:=@List.drop_append_of_le_length
theorem mQ:type_of% @true_and:=@true_and
theorem Df:type_of% @List.ext_getElem?:=@List.ext_getElem?
theorem Dj:type_of% @List.take_add_one:=@List.take_add_one
theorem Ce:type_of% @List.map_append:=@List.map_append
theorem BO:type_of% @Nat.min_eq_left:=@Nat.min_eq_left
theorem rW:type_of% @decide_true:=@decide_true
theorem K3:type_of% @Int.fdiv_eq_ediv_of_nonneg:=@Int.fdiv_eq_ediv_of_nonneg
theorem Bf:type_of% @List.any_cons:=@List.any_cons
theorem J8:type_of% @List.mem_iff_getElem?:=@List.mem_iff_getElem?
theorem Fz:type_of% @List.zip_cons_cons:=@List.zip_cons_cons
theorem HX:type_of% @Nat.eq_of_beq_eq_true:=@Nat.eq_of_beq_eq_true
theorem FD:type_of% @UInt8.toNat_ofNat':=@UInt8.toNat_ofNat'
theorem Ch:type_of% @Bool.not_false:=@Bool.not_false
theorem Co:type_of% @List.drop_drop:=@List.drop_drop
theorem Ji:type_of% @Array.toArray_toList:=@Array.toArray_toList
theorem Fv:type_of% @Classical.not_not:=@Classical.not_not
theorem EO:type_of% @List.foldl_cons:=@List.foldl_cons
theorem FC:type_of% @Nat.lt_succ_of_lt:=@Nat.lt_succ_of_lt
theorem Bc:type_of% @List.any_nil:=@List.any_nil
theorem yU:type_of% @Nat.pow_succ:=@Nat.pow_succ
theorem zH:type_of% @Nat.sub_zero:=@Nat.sub_zero
theorem Bt:type_of% @Bool.not_true:=@Bool.not_true
theorem Cx:type_of% @Nat.lt_irrefl:=@Nat.lt_irrefl
theorem Gm:type_of% @Nat.mod_eq_of_lt:=@Nat.mod_eq_of_lt
theorem DL:type_of% @List.mapM_cons:=@List.mapM_cons
theorem nq:type_of% @eq_self:=@eq_self
theorem Gy:type_of% @Nat.div_le_self:=@Nat.div_le_self
theorem AR:type_of% @Nat.le_succ:=@Nat.le_succ
theorem zN:type_of% @Nat.pow_add:=@Nat.pow_add
theorem yL:type_of% @Array.ext':=@Array.ext'
theorem J6:type_of% @Bool.not_eq_true':=@Bool.not_eq_true'
theorem Fg:type_of% @Bool.or_assoc:=@Bool.or_assoc
theorem C2:type_of% @List.all_cons:=@List.all_cons
theorem Kl:type_of% @List.flatten_cons:=@List.flatten_cons
theorem Ia:type_of% @List.size_toArray:=@List.size_toArray
theorem DN:type_of% @List.sum_cons:=@List.sum_cons
theorem xA:type_of% @and_false:=@and_false
theorem IK:type_of% @List.take_append:=@List.take_append
theorem Jq:type_of% @List.take_length:=@List.take_length
theorem J3:type_of% @Nat.le_add_right:=@Nat.le_add_right
theorem DH:type_of% @List.mem_map:=@List.mem_map
theorem Dc:type_of% @Nat.add_comm:=@Nat.add_comm
theorem E8:type_of% @Nat.ne_of_lt:=@Nat.ne_of_lt
theorem CF:type_of% @Nat.succ_pos:=@Nat.succ_pos
inductive T (α:Type) where
 | nil
 | node (l:T α) (v:Option α) (r:T α)
noncomputable section
namespace T
variable {α:Type}
def l:T α->T α
 | .nil=>.nil
 | .node a _ _=>a
def r:T α->T α
 | .nil=>.nil
 | .node _ _ b=>b
def val:T α->Option α
 | .nil=>none
 | .node _ v _=>v
def path (i:Nat):List Bool:=go i i
 where go:Nat->Nat->List Bool
 | 0,_=>[]
 | f+1,i=>match i with
  | 0=>[]
  | n+1=>Nat.beq (Nat.mod n 2) 0::go f (Nat.div n 2)
def o0:List Bool->T α->Option α
 | [],t=>t.val
 | b::p,t=>o0 p (cond b t.l t.r)
def kH (v:Option α):List Bool->T α->T α
 | [],t=>.node t.l v t.r
 | b::p,t=>cond b (.node (kH v p t.l) t.val t.r) (.node t.l t.val (kH v p t.r))
def get (t:T α) (i:Nat):Option α:=o0 (path i) t
def put (t:T α) (i:Nat) (v:Option α):T α:=kH v (path i) t
def set (t:T α) (i:Nat) (v:α):T α:=t.put i (some v)
structure Get (α:Type) where
 run:T α->Option α
structure Put (α:Type) where
 run:Option α->T α->T α
def jK:List Bool->Get α
 | []=>⟨val⟩
 | true::p=>⟨λ t=>(jK p).run t.l⟩
 | false::p=>⟨λ t=>(jK p).run t.r⟩
def rm:List Bool->Put α
 | []=>⟨λ v t=>.node t.l v t.r⟩
 | true::p=>⟨λ v t=>.node ((rm p).run v t.l) t.val t.r⟩
 | false::p=>⟨λ v t=>.node t.l t.val ((rm p).run v t.r)⟩
end T
def nth {α:Type} (l:List α):Nat->Option α :=
 List.rec (motive:=λ _=>Nat->Option α) (λ _=>none) (λ x _ ih i=>Nat.rec (motive:=λ _=>Option α) (some x) (λ n _=>ih n) i) l
def gC {α:Type} (a b:List α):List α:=List.rec (motive:=λ _=>List α) b (λ x _ ih=>x::ih) a
def bW {α:Type} (l:List α):Nat:=List.rec (motive:=λ _=>Nat) 0 (λ _ _ ih=>ih+1) l
def JY {α:Type}:List α->List α
 | []=>[]
 | _::l=>l
def BR {α:Type} (n:Nat):List α->List α:=Nat.rec (motive:=λ _=>List α->List α) (λ l=>l) (λ _ ih l=>ih (JY l)) n
def vC {α:Type} (n:Nat):List α->Option (List α) :=
 Nat.rec (motive:=λ _=>List α->Option (List α)) (λ _=>some [])
  (λ _ ih l=>List.rec (motive:=λ _=>Option (List α)) none (λ x t _=>(ih t).bind λ r=>some (x::r)) l) n
def qD {α:Type} (new:List α):List α->Option (List α) :=
 List.rec (motive:=λ _=>List α->Option (List α)) (λ l=>some l)
  (λ x _ ih l=>List.rec (motive:=λ _=>Option (List α)) none (λ _ t _=>(ih t).bind λ r=>some (x::r)) l) new
def putAt {α:Type} (o:Nat) (new:List α):List α->Option (List α) :=
 Nat.rec (motive:=λ _=>List α->Option (List α)) (λ l=>qD new l)
  (λ _ ih l=>List.rec (motive:=λ _=>Option (List α)) none (λ x t _=>(ih t).bind λ r=>some (x::r)) l) o
def dL {α:Type} (l:List α) (o n:Nat):Option (List α):=vC n (BR o l)
inductive fC where
 | func (f:Nat)
 | yield (l:Nat)
inductive AV where
 | bool (b:Bool)
 | int (k:IntKind) (n:Int)
 | str (s:List UInt8)
 | nilp
 | ptr (b o:Nat)
 | nils
 | slice (b o n c:Nat)
 | gslice (b i m size alt n:Nat)
 | eslice (b:Nat)
 | iT
 | map (b:Nat)
 | fn (f:fC) (first captured:List AV)
 | nilf
 | iface (t:Nat) (v:AV)
 | nili
 | agg (l:List AV)
 | tuple (l:List AV)
instance:Inhabited AV:=⟨.nili⟩
def AV.undef:AV:=.tuple []
def AV.cells:AV->List AV
 | .agg l=>l
 | v=>[v]
inductive bP where
 | tmp (t:Nat)
 | const (v:AV)
 | dx (g:Nat)
 | func (f:Nat)
inductive di where
 | tmp (t:Nat)
 | jL (a:Nat)
 | dA (n:Nat) (a:Nat)
inductive gh where
 | exit (id:Nat) | goto (l:Nat) | ret
inductive iK where
 | ready|busy|done|exhausted
inductive aC where
 | ic (b:Nat)
 | fn (f:fC) (args:List AV)
inductive bg where
 | row (cells:List AV) (elem:Nat) (fz:Nat × Nat) (own:Bool)
 | grown (m size:Nat) (cells:List AV) (elem:Nat) (fz:Nat × Nat)
 | map (es:List (AV × AV × Nat)) (clock:Nat)
 | cW (s:List UInt8) (pos:Nat)
 | loop (st:iK) (pend:Option gh) (fn k:Nat) (tm:T AV) (defers:Nat)
 | deferred (calls:Option (List aC))
structure AHeap where
 t:T bg
 next:Nat
namespace AHeap
def get (H:AHeap) (b:Nat):Option bg:=H.t.get b
def set (H:AHeap) (b:Nat) (o:bg):AHeap:={ H with t:=H.t.set b o }
def alloc (H:AHeap) (o:bg):AHeap:={ t:=H.t.set H.next o,next:=H.next+1 }
def kill (H:AHeap) (b:Nat):AHeap:={ H with t:=H.t.put b none }
def bz (H:AHeap) (b:Nat):Option (List AV) :=
 match H.get b with
 | some (.row c _ _ _)=>some c
 | some (.grown _ _ c _ _)=>some c
 | _=>none
end AHeap
def AHeap.aa (H:AHeap) (b o:Nat):Option AV:=(H.bz b).bind λ l=>nth l o
def AHeap.dZ (H:AHeap) (b:Nat):Option (List (AV × AV × Nat) × Nat) :=
 match H.get b with
 | some (.map es c)=>some (es,c)
 | _=>none
def AHeap.au (H:AHeap) (b o n:Nat):Option (List AV):=(H.bz b).bind λ l=>dL l o n
def cC (fz:Nat × Nat) (o n:Nat):Bool:=Nat.ble (o+n) fz.1 || Nat.ble fz.2 o
def aD:AV->Bool
 | .agg _ | .tuple _=>false
 | _=>true
def bh (l:List AV):Bool:=List.rec (motive:=λ _=>Bool) true (λ x _ ih=>cond (aD x) ih false) l
def AHeap.store (H:AHeap) (b o:Nat) (new:List AV):Option AHeap :=
 cond (bh new) (match H.get b with
  | some (.row c e fz true)=>cond (cC fz o (bW new)) ((putAt o new c).bind λ c'=>some (H.set b (.row c' e fz true))) none
  | some (.grown m s c e fz)=>cond (cC fz o (bW new)) ((putAt o new c).bind λ c'=>some (H.set b (.grown m s c' e fz))) none
  | _=>none) none
def mj (tm:T AV):bP->Option AV
 | .tmp t=>tm.get t
 | .const v=>some v
 | .dx g=>some (.ptr g 0)
 | .func f=>some (.fn (.func f) [] [])
def iv (tm:T AV):List bP->Option (List AV)
 | []=>some []
 | x::xs=>(mj tm x).bind λ v=>(iv tm xs).bind λ vs=>some (v::vs)
structure Ev where
 run:T AV->Option AV
structure Evs where
 run:T AV->Option (List AV)
def FL:bP->Ev
 | .tmp t=>⟨(T.jK (T.path t)).run⟩
 | .const v=>⟨λ _=>some v⟩
 | .dx g=>⟨λ _=>some (.ptr g 0)⟩
 | .func f=>⟨λ _=>some (.fn (.func f) [] [])⟩
def om:List bP->Evs
 | []=>⟨λ _=>some []⟩
 | [x]=>⟨λ tm=>((FL x).run tm).bind λ v=>some [v]⟩
 | x::xs=>⟨λ tm=>((FL x).run tm).bind λ v=>((om xs).run tm).bind λ vs=>some (v::vs)⟩
def kB (a b:Int):Bool:=match a,b with
 | .ofNat m,.ofNat n=>Nat.ble m n
 | .ofNat _,.negSucc _=>false
 | .negSucc _,.ofNat _=>true
 | .negSucc m,.negSucc n=>Nat.ble n m
def oC (a b:Int):Bool:=!kB b a
def nJ (a b:Int):Bool:=match a,b with
 | .ofNat m,.ofNat n=>Nat.beq m n
 | .negSucc m,.negSucc n=>Nat.beq m n
 | _,_=>false
def iF:IntKind->Nat
 | .i8=>0 | .i16=>1 | .i32=>2 | .i64=>3 | .u8=>4 | .u16=>5 | .u32=>6 | .u64=>7
def pE (a b:IntKind):Bool:=Nat.beq (iF a) (iF b)
def yF (a b:UInt8):Bool:=Nat.beq a.toNat b.toNat
def sx:List UInt8->List UInt8->Bool
 | [],[]=>true
 | a::x,b::y=>cond (yF a b) (sx x y) false
 | _,_=>false
inductive bq where
 | int|str|bool
 | nil
 | part (off:Nat) (n:Option Nat) (t rest:bq)
def partAt (l:List AV) (off:Nat):Option Nat->Option AV
 | none=>nth l off
 | some k=>(dL l off k).bind λ c=>some (.agg c)
def cK:bq->AV->AV->Option Bool
 | .int,.int k a,.int k' b=>cond (pE k k') (some (nJ a b)) none
 | .str,.str a,.str b=>some (sx a b)
 | .bool,.bool a,.bool b=>some (a == b)
 | .nil,.agg _,.agg _=>some true
 | .part off n t rest,.agg x,.agg y=>(partAt x off n).bind λ a=>(partAt y off n).bind λ b=>(cK t a b).bind λ q =>
  cond q (cK rest (.agg x) (.agg y)) (some false)
 | _,_,_=>none
def ct:bq->AV->Bool
 | .int,.int _ _=>true
 | .str,.str _=>true
 | .bool,.bool _=>true
 | .nil,.agg _=>true
 | .part off n t rest,.agg x=>match partAt x off n with
  | some a=>cond (ct t a) (ct rest (.agg x)) false
  | none=>false
 | _,_=>false
def bytesLess:List UInt8->List UInt8->Bool
 | _,[]=>false
 | [],_::_=>true
 | a::x,b::y=>Nat.blt a.toNat b.toNat || (yF a b && bytesLess x y)
def jD (op:BinOp) (a b:List UInt8):Option AV :=
 match op with
 | .add=>cond (Nat.ble (a.length+b.length) 140737488355328) (some (.str (a++b))) none
 | .eql=>some (.bool (sx a b))
 | .neq=>some (.bool (!(sx a b)))
 | .lss=>some (.bool (bytesLess a b))
 | .leq=>some (.bool (bytesLess a b || sx a b))
 | .gtr=>some (.bool (!(bytesLess a b || sx a b)))
 | .geq=>some (.bool (!bytesLess a b))
 | _=>none
def ae (k:IntKind) (n:Int):Int:=k.wrap n
def ef (op:BinOp) (k:IntKind) (a b:Int):Option AV :=
 match op with
 | .add=>some (.int k (ae k (a+b)))
 | .sub=>some (.int k (ae k (a-b)))
 | .mul=>some (.int k (ae k (a*b)))
 | .quo=>cond (nJ b 0) none (some (.int k (ae k (a.tdiv b))))
 | .rem=>cond (nJ b 0) none (some (.int k (a.tmod b)))
 | .and=>some (.int k (ae k ((BitVec.ofInt k.bits a &&& BitVec.ofInt k.bits b).toNat)))
 | .or=>some (.int k (ae k ((BitVec.ofInt k.bits a ||| BitVec.ofInt k.bits b).toNat)))
 | .xor=>some (.int k (ae k ((BitVec.ofInt k.bits a ^^^ BitVec.ofInt k.bits b).toNat)))
 | .andNot=>some (.int k (ae k ((BitVec.ofInt k.bits a &&& ~~~(BitVec.ofInt k.bits b)).toNat)))
 | .eql=>some (.bool (nJ a b))
 | .neq=>some (.bool (!nJ a b))
 | .lss=>some (.bool (oC a b))
 | .leq=>some (.bool (kB a b))
 | .gtr=>some (.bool (oC b a))
 | .geq=>some (.bool (kB b a))
 | _=>none
inductive oS where
 | bool|ptr|slice|map|func|iface
 | ifaces (f:Nat->Option bq)
 | agg (t:bq)
def mM (isNil isSome:AV->Bool) (x y:AV):Option Bool :=
 cond (isNil x) (cond (isNil y) (some true) (cond (isSome y) (some false) none)) (cond (isSome x && isNil y) (some false) none)
def uk:AV->Bool
 | .nils=>true
 | _=>false
def isSlice:AV->Bool
 | .slice ..=>true
 | .gslice ..=>true
 | .eslice _=>true
 | _=>false
def uQ:AV->Bool
 | .iT=>true
 | _=>false
def isMap:AV->Bool
 | .map _=>true
 | _=>false
def uV:AV->Bool
 | .nilf=>true
 | _=>false
def JV:AV->Bool
 | .fn ..=>true
 | _=>false
def xU:AV->Bool
 | .nili=>true
 | _=>false
def isIface:AV->Bool
 | .iface ..=>true
 | _=>false
def pU (H:AHeap) (b b':Nat):Bool :=
 match H.get b,H.get b' with
 | some (.row _ _ (0,0) true),some (.row (_::_) _ _ _)=>true
 | some (.row (_::_) _ _ _),some (.row _ _ (0,0) true)=>true
 | _,_=>false
def nL (op:BinOp) (k:IntKind) (a b:Int):Option AV :=
 cond (oC b 0) none (match op with
  | .shl=>some (.int k (ae k (a*2 ^ (min b.toNat k.bits))))
  | _=>some (.int k (a.fdiv (2 ^ (min b.toNat k.bits)))))
def df:BinOp->Bool
 | .shl | .shr=>true
 | _=>false
def Dx (H:AHeap):oS->AV->AV->Option Bool
 | .bool,.bool a,.bool b=>some (a == b)
 | .ptr,.nilp,.nilp=>some true
 | .ptr,.nilp,.ptr _ _=>some false
 | .ptr,.ptr _ _,.nilp=>some false
 | .ptr,.ptr b o,.ptr b' o'=>cond (Nat.beq b b') (some (Nat.beq o o')) (cond (pU H b b') (some false) none)
 | .slice,x,y=>mM uk isSlice x y
 | .map,x,y=>mM uQ isMap x y
 | .func,x,y=>mM uV JV x y
 | .iface,x,y=>mM xU isIface x y
 | .ifaces f,.iface t a,.iface u b=>cond (Nat.beq t u) ((f t).bind λ q=>cK q a b) (some false)
 | .ifaces _,.nili,.iface _ _=>some false
 | .ifaces _,.iface _ _,.nili=>some false
 | .agg t,x,y=>cK t x y
 | _,_,_=>none
def iH (op:BinOp) (x y:AV):Option AV :=
 match x,y with
 | .int k a,.int k' b=>cond (df op) (nL op k a b) (cond (pE k k') (ef op k a b) none)
 | .str a,.str b=>jD op a b
 | _,_=>none
def unV (op:UnOp) (x:AV):Option AV :=
 match op,x with
 | .neg,.int k n=>some (.int k (ae k (0-n)))
 | .xor,.int k n=>ef .xor k (if k.signed then -1 else k.max) n
 | .not,.bool b=>some (.bool (!b))
 | _,_=>none
def cY (cells:List AV):List (Nat × Nat)->List AV->Option (List AV)
 | [],[]=>some cells
 | (off,size)::ps,v::vs=>cond (Nat.beq (bW v.cells) size) ((putAt off v.cells cells).bind λ c=>cY c ps vs) none
 | _,_=>none
def lh (n:Nat) (z:List AV):List AV :=
 match n with
 | 0=>[]
 | n+1=>gC z (lh n z)
def within (i:Int) (n:Nat):Option Nat:=match i with
 | .ofNat k=>cond (Nat.blt k n) (some k) none
 | .negSucc _=>none
def arg (vs:List AV):Option Nat->Option (Option AV)
 | none=>some none
 | some i=>(nth vs i).bind λ v=>some (some v)
def bound (v:Option AV) (d mx:Nat):Option Nat :=
 match v with
 | none=>some d
 | some (.int _ (.ofNat i))=>cond (Nat.ble i mx) (some i) none
 | _=>none
def du (size:Nat) (x:AV) (lo hi mx:Option AV):Option AV :=
 match x with
 | .nils=>match mx with
  | none=>(bound hi 0 0).bind λ h=>(bound lo 0 h).bind λ _=>some .nils
  | some _=>none
 | .slice b o n c=>match mx,hi with
  | some _,none=>none
  | mx,hi=>(bound mx c c).bind λ m=>(bound hi n m).bind λ h=>(bound lo 0 h).bind λ l =>
   some (.slice b (cond (Nat.beq m l) o (o+l*size)) (h-l) (m-l))
 | .gslice b i m s alt n =>
  cond (Nat.beq s size && Nat.ble i m) (match mx,hi with
   | none,hi=>(bound hi n (m-i)).bind λ h=>(bound lo 0 h).bind λ l =>
    cond (Nat.ble h (m-i)) (some (.gslice b (i+l) m s (cond (Nat.beq l 0) alt (i*s)) (h-l))) none
   | some _,none=>none
   | mx,hi=>(bound mx 0 (m-i)).bind λ x=>(bound hi 0 x).bind λ h=>(bound lo 0 h).bind λ l =>
    cond (Nat.beq x l) none (some (.slice b ((i+l)*s) (h-l) (x-l)))) none
 | .eslice b=>match mx with
  | none=>(bound hi 0 0).bind λ h=>(bound lo 0 h).bind λ _=>some (.eslice b)
  | some _=>none
 | _=>none
def dE:AV->Option Nat
 | .str s=>some (bW s)
 | .nils=>some 0
 | .slice _ _ n _=>some n
 | .gslice _ _ _ _ _ n=>some n
 | .eslice _=>some 0
 | _=>none
def elemAt (size:Nat) (x:AV) (j:Nat):Option (Nat × Nat) :=
 match x with
 | .slice b o n _=>cond (Nat.blt j n) (some (b,o+j*size)) none
 | .gslice b i m s _ n=>cond (Nat.blt j n && Nat.beq s size && Nat.blt (i+j) m) (some (b,i*s+j*s)) none
 | _=>none
def firstCells (H:AHeap) (size n:Nat) (x:AV):Option (List AV) :=
 match x with
 | .nils=>some []
 | .str s=>cond (Nat.beq size 1) (some ((s.take n).map λ b=>.int .u8 b.toNat)) none
 | .slice b o _ _=>cond (Nat.beq n 0) (some []) (H.au b o (n*size))
 | .gslice b i m s _ _=>cond (Nat.beq n 0) (some []) (cond (Nat.beq s size && Nat.blt i m) (H.au b (i*s) (n*size)) none)
 | .eslice _=>cond (Nat.beq n 0) (some []) none
 | _=>none
def ek (n:Int):AV:=.int .i64 n
def findKey (t:bq) (k:AV):List (AV × AV × Nat)->Nat->Option (Option (Nat × AV))
 | [],_=>some none
 | (k',v,_)::es,i=>(cK t k k').bind λ q=>cond q (some (some (i,v))) (findKey t k es (i+1))
def zJ (c:UInt8):List UInt8->Nat->Option Nat
 | [],_=>none
 | x::l,i=>cond (yF x c) (some i) (zJ c l (i+1))
def byteOf:AV->Option UInt8
 | .int .u8 n=>some (UInt8.ofNat n.toNat)
 | _=>none
def bytesOf:List AV->Option (List UInt8)
 | []=>some []
 | x::l=>(byteOf x).bind λ b=>(bytesOf l).bind λ r=>some (b::r)
def fits (n bytes:Nat):Bool:=Nat.ble (n*bytes) 140737488355328 && Nat.ble n 140737488355328
def cX (H:AHeap) (e size n:Nat) (cells:List AV) (fz:Nat × Nat):AV × AHeap :=
 (.gslice H.next 0 n size 0 n,H.alloc (.grown n size cells e fz))
def dk (H:AHeap) (e size bytes:Nat) (s:AV) (n:Nat) (new:List AV):Option (AV × AHeap) :=
 match s with
 | .nils=>cond (Nat.beq n 0) (some (.nils,H)) (cond (fits n bytes && Nat.blt 0 size) (some (cX H e size n new (0,0))) none)
 | .slice b o len c =>
  cond (Nat.ble (len+n) c)
   (cond (Nat.beq n 0) (some (.slice b o (len+n) c,H)) ((H.store b (o+len*size) new).bind λ H'=>some (.slice b o (len+n) c,H')))
   (cond (fits (len+n) bytes && Nat.ble c (len+n) && Nat.blt 0 size)
    ((firstCells H size len (.slice b o len c)).bind λ old=>some (cX H e size (len+n) (gC old new) (0,0))) none)
 | .gslice b i m sz alt len =>
  cond (Nat.beq n 0) (cond (Nat.ble (i+len) m) (some (.gslice b i m sz alt len,H)) none) (cond (Nat.beq sz size && Nat.ble (i+len) m && Nat.blt 0 size)
   (cond (Nat.ble (i+len+n) m)
    ((H.store b ((i+len)*size) new).bind λ H'=>some (.gslice b i m sz alt (len+n),H'))
    (cond (fits (len+n) bytes) (match H.get b with
     | some (.grown m' sz' c e' fz) =>
      cond (Nat.beq m m' && Nat.beq sz sz' && Nat.beq e' e)
       (cond (Nat.beq i 0 && Nat.beq len m && Nat.ble fz.2 (m*size)) (some (cX (H.kill b) e size (len+n) (gC c new) fz)) (cond (Nat.ble fz.2 (i*size))
        ((dL c (i*size) (len*size)).bind λ old=>some (cX (H.kill b) e size (len+n) (gC old new) (cond (Nat.beq fz.1 fz.2) (0,0) (1,0))))
        (cond (Nat.beq i 0 && Nat.ble fz.2 (len*size))
         ((dL c 0 (len*size)).bind λ old=>some (cX (H.kill b) e size (len+n) (gC old new) fz)) none))) none
     | _=>none) none)) none)
 | _=>none
namespace Op
def fail:List AV->Option AV:=λ _=>none
def move:List AV->Option AV
 | [v]=>some v
 | _=>none
def pick:List AV->Option AV
 | [.bool q,a,b]=>some (cond q a b)
 | _=>none
def build (zero:List AV) (places:List (Nat × Nat)) (vs:List AV):Option AV :=
 (cY zero places vs).bind λ c=>some (.agg c)
def nilCheck:List AV->Option AV
 | [.nilp] | [.nili] | [.nilf]=>none
 | [.fn (.func f) a b]=>some (.fn (.func f) a b)
 | [.fn _ _ _]=>none
 | [v]=>some v
 | _=>none
def bin (op:BinOp):List AV->Option AV
 | [x,y]=>iH op x y
 | _=>none
def eq (t:oS) (neg:Bool):List AV->AHeap->Option AV
 | [x,y],H=>(Dx H t x y).bind λ q=>some (.bool (cond neg (!q) q))
 | _,_=>none
def un (op:UnOp):List AV->Option AV
 | [x]=>unV op x
 | _=>none
def wrap (k:IntKind):List AV->Option AV
 | [.int _ n]=>some (.int k (ae k n))
 | _=>none
def fB:List AV->Option AV
 | [.int _ n]=>cond (kB 0 n && oC n 128) (some (.str [UInt8.ofNat n.toNat])) none
 | _=>none
def cM (t:Nat):List AV->Option AV
 | [v]=>some (.iface t v)
 | _=>none
def bm (f nf:Nat) (l:List AV):Option AV:=some (.fn (.func f) (l.take nf) (l.drop nf))
def cz:List (Option Nat)->List AV->Option AV
 | [lo,hi],.str s::vs =>
  (arg vs hi).bind λ b=>(arg vs lo).bind λ a=>(bound b s.length s.length).bind λ h=>(bound a 0 h).bind λ l=>some (.str ((s.take h).drop l))
 | _,_=>none
def bc (size:Nat):List (Option Nat)->List AV->Option AV
 | [lo,hi,mx],x::vs=>(arg vs lo).bind λ a=>(arg vs hi).bind λ b=>(arg vs mx).bind λ m=>du size x a b m
 | _,_=>none
def eN (n size:Nat):List (Option Nat)->List AV->Option AV
 | [lo,hi,mx],.ptr p o::vs=>(arg vs lo).bind λ a=>(arg vs hi).bind λ b=>(arg vs mx).bind λ m=>du size (.slice p o n n) a b m
 | _,_=>none
def fieldAddr (off:Nat):List AV->Option AV
 | [.ptr b o]=>some (.ptr b (o+off))
 | _=>none
def field (off:Nat) (n:Option Nat):List AV->Option AV
 | [.agg l]=>partAt l off n
 | _=>none
def aJ (size:Nat):List AV->Option AV
 | [x,.int _ j]=>(dE x).bind λ n=>(within j n).bind λ k=>(elemAt size x k).bind λ p=>some (.ptr p.1 p.2)
 | _=>none
def bp (len size:Nat):List AV->Option AV
 | [.ptr b o,.int _ j]=>(within j len).bind λ k=>some (.ptr b (o+k*size))
 | _=>none
def eH (len size:Nat) (n:Option Nat):List AV->Option AV
 | [.agg l,.int _ j]=>(within j len).bind λ k=>partAt l (k*size) n
 | _=>none
def aY:List AV->Option AV
 | [.str s,.int _ j]=>(within j s.length).bind λ k=>(nth s k).bind λ b=>some (.int .u8 b.toNat)
 | _=>none
def typeAssert (t:Nat) (ok:Bool) (zero:AV):List AV->Option AV
 | [.nili]=>cond ok (some (.tuple [zero,.bool false])) none
 | [.iface u v]=>cond (Nat.beq u t) (some (cond ok (.tuple [v,.bool true]) v)) (cond ok (some (.tuple [zero,.bool false])) none)
 | _=>none
def extract (i:Nat):List AV->Option AV
 | [.tuple l]=>nth l i
 | _=>none
def dj:List AV->Option AV
 | [.str s]=>some (ek (bW s))
 | _=>none
def aS:List AV->Option AV
 | [.nils]=>some (ek 0)
 | [.slice _ _ n _]=>some (ek n)
 | [.gslice _ _ _ _ _ n]=>some (ek n)
 | [.eslice _]=>some (ek 0)
 | _=>none
def cap:List AV->Option AV
 | [.nils]=>some (ek 0)
 | [.slice _ _ _ c]=>some (ek c)
 | _=>none
def d8 (mx:Bool):Int->List AV->Option Int
 | a,[]=>some a
 | a,.int _ b::l=>d8 mx (cond mx (cond (oC a b) b a) (cond (oC b a) b a)) l
 | _,_=>none
def fy (mx:Bool):List AV->Option AV
 | .int k a::l=>(d8 mx a l).bind λ r=>some (.int k r)
 | _=>none
def fg:List AV->Option AV
 | [.nils]=>some .nilp
 | [.slice b o _ c]=>cond (Nat.beq c 0) none (some (.ptr b o))
 | [.gslice b i m s _ _]=>cond (Nat.blt i m) (some (.ptr b (i*s))) none
 | _=>none
def gS:List AV->Option AV
 | [x]=>some x
 | _=>none
def bV:List AV->Option AV
 | [.str s,.int .u8 c]=>some (ek (match zJ (UInt8.ofNat c.toNat) s 0 with|some i=>i|none=>-1))
 | _=>none
def aa:List AV->AHeap->Option AV
 | [.ptr b o],H=>H.aa b o
 | _,_=>none
def au (n:Nat):List AV->AHeap->Option AV
 | [.ptr b o],H=>(H.au b o n).bind λ l=>some (.agg l)
 | _,_=>none
def eu:List AV->AHeap->Option AV
 | [.str _],_=>none
 | [v],H=>(dE v).bind λ n=>(firstCells H 1 n v).bind λ l=>(bytesOf l).bind λ s=>some (.str s)
 | _,_=>none
def lookup (key:bq) (zero:AV) (ok:Bool):List AV->AHeap->Option AV
 | [.iT,k],_=>cond (ct key k) (some (cond ok (.tuple [zero,.bool false]) zero)) none
 | [.map b,k],H=>cond (ct key k) ((H.dZ b).bind λ m=>(findKey key k m.1 0).bind λ r=>match r with
  | some p=>some (cond ok (.tuple [p.2,.bool true]) p.2)
  | none=>some (cond ok (.tuple [zero,.bool false]) zero)) none
 | _,_=>none
def fF (lies:Nat->Nat->Nat->Bool):List AV->AHeap->Option AV
 | [.nilp],_=>some .nilp
 | [.ptr b o],H=>match H.get b with
  | some (.row c e _ true)=>cond (lies e c.length o) (some (.ptr b o)) none
  | _=>none
 | _,_=>none
def ptrTo (b:Nat):AV:=.ptr b 0
def alloc (e:Nat) (zero:List AV):List AV->Option (bg × (Nat->AV))
 | []=>some (.row zero e (0,0) true,ptrTo)
 | _=>none
def box (e:Nat):List AV->Option (bg × (Nat->AV))
 | [v]=>some (.row v.cells e (0,0) true,ptrTo)
 | _=>none
def sliceTo (n m:Nat) (b:Nat):AV:=.slice b 0 n m
def buildSlice (e n:Nat) (zero:List AV) (places:List (Nat × Nat)) (vs:List AV):Option (bg × (Nat->AV)) :=
 (cY (lh n zero) places vs).bind λ c=>some (.row c e (0,0) true,sliceTo n n)
def mkMap:List AV->Option (bg × (Nat->AV))
 | []=>some (.map [] 0,.map)
 | _=>none
def mkSlice (e bytes:Nat) (zero:List AV):List AV->Option (bg × (Nat->AV))
 | [.int _ n,.int _ m]=>cond (kB 0 n && kB n m && kB (m*bytes) 140737488355328 && kB m 140737488355328)
  (some (.row (lh m.toNat zero) e (0,0) true,sliceTo n.toNat m.toNat)) none
 | _=>none
def fA (m n:Nat) (b:Nat):AV:=.gslice b 0 m 1 0 n
def fm (e:Nat):List AV->Option (bg × (Nat->AV))
 | [.str s]=>cond (Nat.ble s.length 140737488355328) (some (.grown s.length 1 (s.map λ b=>.int .u8 b.toNat) e (1,0),fA s.length s.length)) none
 | _=>none
def fo:List AV->Option (bg × (Nat->AV))
 | [.str s]=>some (.cW s 0,ptrTo)
 | _=>none
def makeNoZero (e:Nat):List AV->Option (bg × (Nat->AV))
 | [.int .i64 n]=>cond (kB 0 n && kB n 140737488355328) (some (.grown 0 1 [] e (0,0),fA 0 n.toNat)) none
 | _=>none
def store (n:Nat):List AV->AHeap->Option (AV × AHeap)
 | [.ptr b o,v],H=>cond (Nat.beq (bW v.cells) n) ((H.store b o v.cells).bind λ H'=>some (.undef,H')) none
 | _,_=>none
def oD:AV->AV->Bool
 | .int k a,.int k' b=>pE k k' && nJ a b
 | .str a,.str b=>sx a b
 | .bool a,.bool b=>a == b
 | _,_=>false
def dv:List AV->List AV->Bool
 | [],[]=>true
 | a::x,b::y=>cond (oD a b) (dv x y) false
 | _,_=>false
def stays:AV->AV->Bool
 | .agg a,.agg b=>dv a b
 | a,b=>oD a b
def mapUpdate (key:bq):List AV->AHeap->Option (AV × AHeap)
 | [.map b,k,v],H=>cond (ct key k) ((H.dZ b).bind λ m=>(findKey key k m.1 0).bind λ r=>match r with
  | some p=>(nth m.1 p.1).bind λ e=>cond (stays e.1 k) (some (.undef,H.set b (.map (m.1.modify p.1 λ e=>(k,v,e.2.2)) m.2))) none
  | none=>some (.undef,H.set b (.map (m.1 ++ [(k,v,m.2)]) (m.2+1)))) none
 | _,_=>none
def ez:List AV->AHeap->Option (AV × AHeap)
 | [.ptr b 0],H=>match H.get b with
  | some (.cW s p)=>match nth s p with
   | some c=>cond (Nat.blt c.toNat 128) (some (.tuple [.bool true,ek p,.int .i32 c.toNat],H.set b (.cW s (p+1)))) none
   | none=>some (.tuple [.bool false],H)
  | _=>none
 | _,_=>none
def append (e size bytes:Nat):List AV->AHeap->Option (AV × AHeap)
 | [a,b],H=>(dE b).bind λ n=>(firstCells H size n b).bind λ new=>cond (bh new) (dk H e size bytes a n new) none
 | _,_=>none
def copy (size:Nat):List AV->AHeap->Option (AV × AHeap)
 | [.str _,_],_=>none
 | [d,r],H=>(dE d).bind λ dn=>(dE r).bind λ rn=>(firstCells H size (min rn dn) r).bind λ l =>
  cond (Nat.beq (min rn dn) 0) (some (ek 0,H)) ((elemAt size d 0).bind λ p=>(H.store p.1 p.2 l).bind λ H'=>some (ek (min rn dn),H'))
 | _,_=>none
def gw (fz:Nat × Nat) (o n:Nat):Nat × Nat:=cond (Nat.beq fz.1 fz.2) (o,o+n) (min fz.1 o,max fz.2 (o+n))
def dX (u:Nat):List AV->AHeap->Option (AV × AHeap)
 | [.nilp,.int _ k],H=>cond (nJ k 0) (some (.str [],H)) none
 | [.ptr b o,.int _ k],H=>cond (nJ k 0) (some (.str [],H)) (cond (oC k 0 || oC 140737488355328 k) none (match H.get b with
  | some (.row c e fz true)=>cond (Nat.beq e u) ((dL c o k.toNat).bind λ l=>(bytesOf l).bind λ s=>some (.str s,H.set b (.row c e (gw fz o k.toNat) true))) none
  | some (.grown m z c e fz)=>cond (Nat.beq e u && Nat.ble fz.1 fz.2) ((dL c o k.toNat).bind λ l=>(bytesOf l).bind λ s=>some (.str s,H.set b (.grown m z c e (gw fz o k.toNat)))) none
  | _=>none))
 | _,_=>none
end Op
inductive dS where
 | pure (f:List AV->Option AV)
 | read (f:List AV->AHeap->Option AV)
 | alloc (f:List AV->Option (bg × (Nat->AV)))
 | bQ (f:List AV->AHeap->Option (AV × AHeap))
 | eM (f:Nat)
 | ec
 | invoke (name:String)
 | recover
 | defer
 | panic
structure aQ where
 eY:Bool
 dst:Option Nat
 guard:Option (Nat × Bool)
 args:List bP
 op:dS
 cj:Option (List Nat)
inductive ab where
 | skip
 | region (steps:List aQ)
 | seq (a b:ab)
 | cond (c:bP) (thn els:ab)
 | block (id:Nat) (body:ab)
 | loop (aj:Option (List Nat)) (body:ab)
 | rangeFunc (f:bP) (k:Nat)
 | exit (id:Nat)
 | scope (body:ab)
 | label (l:Nat)
 | goto (l:Nat)
 | ret
 | stuck
instance:Inhabited ab:=⟨.skip⟩
structure cP where
 params:List Nat
 assign:ab
 body:ab
structure aq where
 results:List di
 body:ab
 loops:List cP
structure gm where
 func:Nat->Option aq
 mC:Nat->String->Option Nat
abbrev ah:=List (AV × Bool)
structure St where
 tm:T AV
 az:List aC
 up:Option ah
 H:AHeap
inductive aF where
 | normal
 | exit (id:Nat)
 | goto (l:Nat)
 | ret
 | panic (chain:ah)
inductive bE where
 | ret (v:AV)
 | panic (chain:ah)
abbrev bU:=Nat->List AV->Option ah->AHeap->Option (bE × Option ah × AHeap)
structure Ctx where
 round:Option Nat
 fn:Nat
end
end Go.Am
namespace Go.Am
noncomputable section
def Gq:T AV->List Nat->List AV->Option (T AV)
 | tm,[],[]=>some tm
 | tm,p::ps,v::vs=>Gq (tm.set p v) ps vs
 | _,_,_=>none
def fj:Nat->List AV->T AV->T AV
 | _,[],t=>t
 | i,v::vs,t=>fj (i+1) vs (t.set i v)
def kZ:aF->Option gh
 | .exit id=>some (.exit id)
 | .goto l=>some (.goto l)
 | .ret=>some .ret
 | _=>none
def nB:Option gh->aF
 | none=>.normal
 | some (.exit id)=>.exit id
 | some (.goto l)=>.goto l
 | some .ret=>.ret
def yJ:aF->Bool
 | .normal=>true
 | _=>false
def N1 (tm:T AV):List Nat->T AV->T AV
 | [],acc=>acc
 | k::ks,acc=>N1 tm ks (acc.put k (tm.get k))
def forget:List Nat->T AV->T AV
 | [],t=>t
 | d::ds,t=>forget ds (t.put d none)
def dr (dst:Option Nat) (v:AV) (tm:T AV):T AV :=
 match dst with
 | some d=>tm.set d v
 | none=>tm
structure NN where
 run:AV->T AV->T AV
def il:Option Nat->NN
 | some d=>⟨λ v tm=>(T.rm (T.path d)).run (some v) tm⟩
 | none=>⟨λ _ tm=>tm⟩
abbrev eC:=Option (aF × St)
def eF (aj:Option (List Nat)) (body:St->eC):Nat->St->eC
 | 0,_=>none
 | n+1,st =>
  (body (match aj with|none=>st|some ks=>{ st with tm:=N1 st.tm ks .nil })).bind λ r=>match r.1 with
   | .normal=>eF aj body n r.2
   | e=>some (e,r.2)
def xW:ab->Nat->Bool
 | .seq a b,l=>xW a l || xW b l
 | .label l',l=>Nat.beq l' l
 | _,_=>false
mutual
def b9:AV->AV->Bool
 | .bool a,.bool b=>a == b
 | .int k a,.int k' b=>pE k k' && nJ a b
 | .str a,.str b=>sx a b
 | .nilp,.nilp=>true
 | .ptr a b,.ptr c d=>Nat.beq a c && Nat.beq b d
 | .nils,.nils=>true
 | .slice a b c d,.slice a' b' c' d'=>Nat.beq a a' && Nat.beq b b' && Nat.beq c c' && Nat.beq d d'
 | .gslice a b c d e f,.gslice a' b' c' d' e' f'=>Nat.beq a a' && Nat.beq b b' && Nat.beq c c' && Nat.beq d d' && Nat.beq e e' && Nat.beq f f'
 | .eslice a,.eslice b=>Nat.beq a b
 | .iT,.iT=>true
 | .map a,.map b=>Nat.beq a b
 | .nilf,.nilf=>true
 | .nili,.nili=>true
 | .fn (.func f) x a,.fn (.func g) y b=>Nat.beq f g && dv x y && dv a b
 | .fn (.yield f) x a,.fn (.yield g) y b=>Nat.beq f g && dv x y && dv a b
 | .iface t a,.iface u b=>Nat.beq t u && b9 a b
 | .agg a,.agg b=>dv a b
 | .tuple a,.tuple b=>dv a b
 | _,_=>false
def dv:List AV->List AV->Bool
 | [],[]=>true
 | x::xs,y::ys=>b9 x y && dv xs ys
 | _,_=>false
end
abbrev fO:=List AV->Nat->AHeap->Option (bE × AHeap)
structure RT where
 AP:gm
 call:bU
 round:fO
 n:Nat
 ctx:Ctx
def cD (call:bU) (round:fO) (f:fC) (args:List AV) (H:AHeap):Option (bE × AHeap) :=
 match f with
 | .func g=>(call g args none H).bind λ r=>some (r.1,r.2.2)
 | .yield l=>round args l H
def dV (put:AV->T AV->T AV) (cj:Option (List Nat)) (st:St) (k:St->eC) (r:bE × AHeap):eC :=
 match r.1 with
 | .ret v=>k ⟨put v st.tm,st.az,st.up,r.2⟩
 | .panic c=>cj.bind λ ds=>some (.panic c,⟨forget ds st.tm,st.az,st.up,r.2⟩)
def Jd (put:AV->T AV->T AV) (st:St):St :=
 match st.up with
 | some ((v,false)::older)=>⟨put v st.tm,st.az,some ((v,true)::older),st.H⟩
 | _=>⟨put .nili st.tm,st.az,st.up,st.H⟩
def uw (f:List AV->Option AV) (put:AV->T AV->T AV) (st:St) (k:St->eC) (vs:List AV):eC :=
 (f vs).bind λ v=>k ⟨put v st.tm,st.az,st.up,st.H⟩
def uM (f:List AV->AHeap->Option AV) (put:AV->T AV->T AV) (st:St) (k:St->eC) (vs:List AV):eC :=
 (f vs st.H).bind λ v=>k ⟨put v st.tm,st.az,st.up,st.H⟩
def pB (f:List AV->Option (bg × (Nat->AV))) (put:AV->T AV->T AV) (st:St) (k:St->eC) (vs:List AV):eC :=
 (f vs).bind λ r=>k ⟨put (r.2 st.H.next) st.tm,st.az,st.up,st.H.alloc r.1⟩
def Fj (f:List AV->AHeap->Option (AV × AHeap)) (put:AV->T AV->T AV) (st:St) (k:St->eC) (vs:List AV):eC :=
 (f vs st.H).bind λ r=>k ⟨put r.1 st.tm,st.az,st.up,r.2⟩
def wU (f:Nat) (rt:RT) (put:AV->T AV->T AV) (cj:Option (List Nat)) (st:St) (k:St->eC) (vs:List AV):eC :=
 (cD rt.call rt.round (.func f) vs st.H).bind λ r=>dV put cj st k r
def wH (rt:RT) (put:AV->T AV->T AV) (cj:Option (List Nat)) (st:St) (k:St->eC) (vs:List AV):eC :=
 match vs with
 | .fn (.func f) first cap::args=>(cD rt.call rt.round (.func f) (first++(args++cap)) st.H).bind λ r=>dV put cj st k r
 | .fn (.yield l) first []::args=>(cD rt.call rt.round (.yield l) (first++args) st.H).bind λ r=>dV put cj st k r
 | _=>none
def nQ (name:String) (rt:RT) (put:AV->T AV->T AV) (cj:Option (List Nat)) (st:St) (k:St->eC) (vs:List AV):eC :=
 match vs with
 | .iface t v::args=>(rt.AP.mC t name).bind λ f=>(cD rt.call rt.round (.func f) (v::args) st.H).bind λ r=>dV put cj st k r
 | _=>none
def L4 (rt:RT) (put:AV->T AV->T AV) (st:St) (k:St->eC) (vs:List AV):eC :=
 match rt.ctx.round with
 | some _=>none
 | none=>match vs with
  | []=>k (Jd put st)
  | _=>none
def pw (rt:RT) (put:AV->T AV->T AV) (st:St) (k:St->eC) (vs:List AV):eC :=
 match rt.ctx.round with
 | some _=>none
 | none=>match vs with
  | .fn (.func f) first cap::args=>k ⟨put .undef st.tm,.fn (.func f) (first++(args++cap))::st.az,st.up,st.H⟩
  | _=>none
def pz (put:AV->T AV->T AV) (cj:Option (List Nat)) (st:St) (k:St->eC) (vs:List AV):eC :=
 match vs with
 | [.iface t v]=>dV put cj st k (.panic [(.iface t v,false)],st.H)
 | _=>none
structure OpC where
 run:RT->St->(St->eC)->List AV->eC
def lE (put:AV->T AV->T AV) (cj:Option (List Nat)):dS->OpC
 | .pure f=>⟨λ _ st k vs=>uw f put st k vs⟩
 | .read f=>⟨λ _ st k vs=>uM f put st k vs⟩
 | .alloc f=>⟨λ _ st k vs=>pB f put st k vs⟩
 | .bQ f=>⟨λ _ st k vs=>Fj f put st k vs⟩
 | .eM f=>⟨λ rt st k vs=>wU f rt put cj st k vs⟩
 | .ec=>⟨λ rt st k vs=>wH rt put cj st k vs⟩
 | .invoke name=>⟨λ rt st k vs=>nQ name rt put cj st k vs⟩
 | .recover=>⟨λ rt st k vs=>L4 rt put st k vs⟩
 | .defer=>⟨λ rt st k vs=>pw rt put st k vs⟩
 | .panic=>⟨λ _ st k vs=>pz put cj st k vs⟩
def lI (get:T AV->Option AV) (st:St) (vs:List AV):dS->Bool
 | .read f=>match f vs st.H,get st.tm with
  | some v,some v'=>b9 v v'
  | _,_=>false
 | _=>false
def aE (b:Bool):Option AV->Option Bool
 | some (.bool q)=>some (cond q b (!b))
 | some (.tuple [])=>some false
 | _=>none
structure Kf where
 run:RT->(St->eC)->St->eC
def eG (s:aQ):Kf :=
 match s.eY with
 | false=>match s.guard with
  | none=>⟨λ rt k st=>((om s.args).run st.tm).bind λ vs=>(lE (il s.dst).run s.cj s.op).run rt st k vs⟩
  | some g=>⟨λ rt k st=>(aE g.2 ((T.jK (T.path g.1)).run st.tm)).bind λ w =>
   cond w (((om s.args).run st.tm).bind λ vs=>(lE (il s.dst).run s.cj s.op).run rt st k vs) (k ⟨(il s.dst).run .undef st.tm,st.az,st.up,st.H⟩)⟩
 | true=>match s.guard,s.dst with
  | none,some d=>⟨λ _ k st=>((om s.args).run st.tm).bind λ vs=>cond (lI (T.jK (T.path d)).run st vs s.op) (k st) none⟩
  | some g,some d=>⟨λ _ k st=>(aE g.2 ((T.jK (T.path g.1)).run st.tm)).bind λ w =>
   cond w (((om s.args).run st.tm).bind λ vs=>cond (lI (T.jK (T.path d)).run st vs s.op) (k st) none) (k st)⟩
  | _,none=>⟨λ _ _ _=>none⟩
structure Bw where
 run:RT->St->eC
def eP:List aQ->Bw
 | []=>⟨λ _ st=>some (.normal,st)⟩
 | s::rest=>⟨λ rt st=>(eG s).run rt ((eP rest).run rt) st⟩
def dm (H:AHeap) (l:Nat) (s:iK) (p:Option gh):Option AHeap :=
 match H.get l with
 | some (.loop _ _ f k tm d)=>some (H.set l (.loop s p f k tm d))
 | _=>none
def tg (H:AHeap) (l:Nat):Option Nat :=
 match H.get l with
 | some (.loop _ _ _ _ _ d)=>some d
 | _=>none
def Ga (st:St) (az:List aC) (l:Nat) (e:bE) (H:AHeap):eC :=
 match e with
 | .panic c=>some (.panic c,{ st with az:=az,H:=H })
 | .ret _=>match H.get l with
  | some (.loop .busy _ _ _ _ _)=>none
  | some (.loop _ p f k tm d)=>some (nB p,{ st with az:=az,H:=H.set l (.loop .exhausted p f k tm d) })
  | _=>none
def fV (call:bU) (round:fO) (ctx:Ctx) (st:St) (k:Nat) (H0:AHeap) (az:List aC) (d:Nat):AV->eC
 | .fn (.func g) first cap =>
  (cD call round (.func g) (first++(.fn (.yield H0.next) [] []::cap)) (H0.alloc (.loop .ready none ctx.fn k st.tm d))).bind λ r =>
   Ga st az H0.next r.1 r.2
 | _=>none
def oB (next:RT->St->eC) (rt:RT) (r:aF × St):eC :=
 match r.1 with
 | .normal=>next rt r.2
 | e=>some (e,r.2)
def oE (a b:RT->St->eC) (rt:RT) (st:St) (v:AV):eC :=
 match v with
 | .bool q=>cond q (a rt st) (b rt st)
 | _=>none
def gF (id:Nat) (r:aF × St):eC :=
 match r.1 with
 | .exit id'=>some (cond (Nat.beq id id') .normal (.exit id'),r.2)
 | e=>some (e,r.2)
def ig (b:ab) (r:aF × St):eC :=
 match r.1 with
 | .goto l=>cond (xW b l) none (some (.goto l,r.2))
 | e=>some (e,r.2)
def lS (rt:RT) (k:Nat) (st:St) (v:AV):eC :=
 match rt.ctx.round with
 | none=>fV rt.call rt.round rt.ctx st k (st.H.alloc (.deferred (some []))) (.ic st.H.next::st.az) st.H.next v
 | some l=>(tg st.H l).bind λ d=>fV rt.call rt.round rt.ctx st k st.H st.az d v
def bH:ab->Bw
 | .skip=>⟨λ _ st=>some (.normal,st)⟩
 | .label _=>⟨λ _ st=>some (.normal,st)⟩
 | .region steps=>eP steps
 | .seq a b=>⟨λ rt st=>((bH a).run rt st).bind (oB (bH b).run rt)⟩
 | .cond c a b=>⟨λ rt st=>((FL c).run st.tm).bind (oE (bH a).run (bH b).run rt st)⟩
 | .block id b=>⟨λ rt st=>((bH b).run rt st).bind (gF id)⟩
 | .loop aj b=>⟨λ rt st=>eF aj ((bH b).run rt) rt.n st⟩
 | .exit id=>⟨λ _ st=>some (.exit id,st)⟩
 | .goto l=>⟨λ _ st=>some (.goto l,st)⟩
 | .ret=>⟨λ _ st=>some (.ret,st)⟩
 | .stuck=>⟨λ _ _=>none⟩
 | .scope b=>⟨λ rt st=>((bH b).run rt st).bind (ig b)⟩
 | .rangeFunc f k=>⟨λ rt st=>((FL f).run st.tm).bind (lS rt k st)⟩
def exec (AP:gm) (call:bU) (round:fO) (n:Nat) (ctx:Ctx) (c:ab) (st:St):eC:=(bH c).run ⟨AP,call,round,n,ctx⟩ st
def zQ (l:Nat) (r:aF × St):Option (bE × AHeap) :=
 match r.1 with
 | .panic c=>some (.panic c,r.2.H)
 | e=>(dm r.2.H l (cond (yJ e) .ready .done) (kZ e)).bind λ H=>some (.ret (.bool (yJ e)),H)
def beginRound (H:AHeap) (l:Nat):Option AHeap :=
 match H.get l with
 | some (.loop .ready p f k tm d)=>some (H.set l (.loop .busy p f k tm d))
 | _=>none
def roundOf (AP:gm) (ex:Ctx->ab->St->eC) (args:List AV) (l:Nat) (H:AHeap):Option (bE × AHeap) :=
 match H.get l with
 | some (.loop _ _ f k tm _) =>
  (AP.func f).bind λ fn=>(nth fn.loops k).bind λ lp=>(Gq tm lp.params args).bind λ tm1 =>
  (ex ⟨some l,f⟩ lp.assign { tm:=tm1,az:=[],up:=none,H:=H }).bind λ r=>match r.1 with
   | .normal=>(beginRound r.2.H l).bind λ H2=>(ex ⟨some l,f⟩ lp.body { r.2 with H:=H2 }).bind λ q=>cond (noDefs q.2.az) (zQ l q) none
   | _=>none
 | _=>none
 where noDefs:List aC->Bool
 | []=>true
 | _=>false
def FF (H:AHeap) (tm:T AV):di->Option AV
 | .tmp t=>tm.get t
 | .jL a=>(tm.get a).bind λ v=>match v with | .ptr b o=>H.aa b o|_=>none
 | .dA n a=>(tm.get a).bind λ v=>match v with | .ptr b o=>(H.au b o n).bind λ l=>some (.agg l) | _=>none
def cO (H:AHeap) (tm:T AV):List di->Option (List AV)
 | []=>some []
 | r::rs=>(FF H tm r).bind λ v=>(cO H tm rs).bind λ vs=>some (v::vs)
def dt:List AV->AV
 | [v]=>v
 | l=>.tuple l
def i5 (m:Option ah) (up:ah):Option (Option ah) :=
 match m,up with
 | none,[]=>some none
 | some _,(_,true)::_=>some none
 | some _,(v,false)::c=>some (some ((v,false)::c))
 | _,_=>none
def bY (call:bU) (rs:List di) (tm:T AV):List aC->Option ah->AHeap->Option (bE × AHeap)
 | [],none,H=>(cO H tm rs).bind λ l=>some (.ret (dt l),H)
 | [],some c,H=>some (.panic c,H)
 | .ic b::ds,m,H=>match H.get b with
  | some (.deferred (some []))=>bY call rs tm ds m (H.set b (.deferred none))
  | _=>none
 | .fn (.func f) args::ds,m,H=>(call f args (some (m.getD [])) H).bind λ r =>
  match r.1,r.2.1 with
  | .ret _,some up'=>(i5 m up').bind λ m'=>bY call rs tm ds m' r.2.2
  | _,_=>none
 | .fn (.yield _) _::_,_,_=>none
def kI (call:bU) (fn:aq) (r:aF × St):Option (bE × Option ah × AHeap) :=
 let fin (m:Option ah):Option (bE × Option ah × AHeap):=(bY call fn.results r.2.tm r.2.az m r.2.H).bind λ q=>some (q.1,r.2.up,q.2)
 match r.1 with
 | .normal=>fin none
 | .ret=>fin none
 | .panic c=>fin (some c)
 | _=>none
def rounds (AP:gm) (call:bU) (m:Nat):Nat->fO
 | 0=>λ _ _ _=>none
 | n+1=>roundOf AP (exec AP call (rounds AP call m n) m)
def zZ (AP:gm) (call:bU) (n:Nat):bU:=λ f args up H =>
 (AP.func f).bind λ fn =>
  (exec AP call (rounds AP call n n) n ⟨none,f⟩ fn.body { tm:=fj 0 args .nil,az:=[],up:=up,H:=H }).bind λ r =>
   kI call fn r
def wN (AP:gm):Nat->bU
 | 0=>λ _ _ _ _=>none
 | n+1=>zZ AP (wN AP n) n
def gv (AP:gm) (told:bU):Nat->bU
 | 0=>told
 | n+1=>λ f args up H=>match told f args up H with
  | some r=>some r
  | none=>zZ AP (gv AP told n) n f args up H
end
end Go.Am
namespace Go.Am
noncomputable section
mutual
def d9:Value->Option AV
 | .bool b=>some (.bool b)
 | .int k n=>some (.int k n)
 | .string s=>some (.str s.data.toList)
 | .pointer none=>some .nilp
 | .slice none 0 0=>some .nils
 | .map none=>some .iT
 | .nilFunc=>some .nilf
 | .nilIface=>some .nili
 | .iface t v=>(d9 v).bind λ x=>some (.iface t x)
 | .agg cs=>(iQ cs.toList).bind λ l=>some (.agg l)
 | .tuple cs=>(iQ cs.toList).bind λ l=>some (.tuple l)
 | _=>none
def iQ:List Value->Option (List AV)
 | []=>some []
 | v::vs=>(d9 v).bind λ x=>(iQ vs).bind λ xs=>some (x::xs)
end
def nG (G:Nat):Operand->Option bP
 | .tmp t=>some (.tmp t)
 | .const v=>(d9 v).bind λ x=>some (.const x)
 | .global g=>if Nat.blt g G then some (.dx g) else none
 | .func f=>some (.func f)
def jP (G:Nat):List Operand->Option (List bP)
 | []=>some []
 | x::xs=>(nG G x).bind λ y=>(jP G xs).bind λ ys=>some (y::ys)
def zeroOf (P:Program) (t:TypeId):Option AV:=((P.info? t).bind (·.zero)).bind d9
def bF (P:Program) (t:TypeId):Option Nat:=(P.info? t).bind λ i=>some i.size
def gP (P:Program) (t:TypeId):Option Nat:=(P.info? t).bind λ i=>some i.bytes
def jI (P:Program) (t:TypeId):Option (Option Nat) :=
 match P.underlying t with
 | some (.struct _) | some (.array _ _)=>(bF P t).bind λ n=>some (some n)
 | some _=>some none
 | none=>none
def da (P:Program):Nat->TypeId->Option bq
 | 0,_=>none
 | d+1,t=>match P.underlying t with
  | some (.int _)=>some .int
  | some .string=>some .str
  | some .bool=>some .bool
  | some (.struct fs)=>if P.stoodInHeld t then none else fieldsT (da P d) fs.toList
  | some (.array n e)=>(bF P e).bind λ s=>(jI P e).bind λ a=>(da P d e).bind λ q=>some (itemsT s a q n 0)
  | _=>none
 where
 fieldsT (go:TypeId->Option bq):List Field->Option bq
  | []=>some .nil
  | f::fs=>if f.name = "_" then none else (jI P f.type).bind λ a=>(go f.type).bind λ q=>(fieldsT go fs).bind λ r=>some (.part f.offset a q r)
 itemsT (s:Nat) (a:Option Nat) (q:bq):Nat->Nat->bq
  | 0,_=>.nil
  | n+1,i=>.part (i*s) a q (itemsT s a q n (i+1))
def jV (P:Program) (t:TypeId):Option bq:=da P 20 t
def dw:Nat->List (Option Operand)->List (Option Nat)
 | _,[]=>[]
 | n,none::r=>none::dw n r
 | n,some _::r=>some n::dw (n+1) r
def fp:List (Option Operand)->List Operand
 | []=>[]
 | none::r=>fp r
 | some x::r=>x::fp r
def ta (pl:Nat->Option (Nat × Nat)):List (Nat × Operand)->Option (List (Nat × Nat))
 | []=>some []
 | (i,_)::r=>(pl i).bind λ p=>(ta pl r).bind λ l=>some (p::l)
def FT (P:Program) (fs:Array Field) (i:Nat):Option (Nat × Nat):=(fs[i]?).bind λ f=>(bF P f.type).bind λ n=>some (f.offset,n)
def DO (n:Nat) (i:Nat):Option (Nat × Nat):=some (i*n,n)
def fY (P:Program) (u:TypeId) (e n o:Nat):Bool :=
 match bF P u with
 | some (_+1)=>Nat.blt o n && liesAt P P.depth e (n / P.cellsOf e) o u 1
 | _=>false
def Mw (P:Program) (b:Builtin) (ts:Array TypeId) (args:List Operand):Option (List Operand × dS) :=
 match b with
 | .len=>match (ts[0]?).bind P.underlying with
  | some .string=>some (args,.pure Op.dj)
  | some (.slice _)=>some (args,.pure Op.aS)
  | _=>none
 | .cap=>match (ts[0]?).bind P.underlying with
  | some (.slice _)=>some (args,.pure Op.cap)
  | _=>none
 | .append=>match ts.toList with
  | [t,tx]=>match P.underlying t,P.underlying tx with
   | some (.slice e),some (.slice _)=>(bF P e).bind λ n=>(gP P e).bind λ z=>(zeroOf P e).bind λ zv=>if zv.cells.length=n then some (args,.bQ (Op.append e n z)) else none
   | some (.slice e),some .string=>(bF P e).bind λ n=>(gP P e).bind λ z=>(zeroOf P e).bind λ zv=>if zv.cells.length=n then some (args,.bQ (Op.append e n z)) else none
   | _,_=>none
  | _=>none
 | .copy=>match (ts[0]?).bind P.underlying with
  | some (.slice e)=>(bF P e).bind λ n=>some (args,.bQ (Op.copy n))
  | _=>none
 | .min=>some (args,.pure (Op.fy false))
 | .max=>some (args,.pure (Op.fy true))
 | .delete=>none
 | .clear=>none
 | .recover=>some (args,.recover)
 | .unsafeSliceData=>some (args,.pure Op.fg)
 | .unsafeString=>match (ts[0]?).bind P.underlying with
  | some (.pointer u)=>match bF P u with
   | some 1=>some (args,.bQ (Op.dX u))
   | _=>none
  | _=>none
 | .panic=>some (args,.panic)
 | _=>none
def CM (P:Program) (fn:Func) (args:List Operand):Option (List Operand × dS) :=
 if fn.origin != "" then none
 else if fn.name == "internal/bytealg.IndexByteString" then some (args,.pure Op.bV)
 else if fn.name == "internal/bytealg.CountString" then none
 else if fn.name == "internal/abi.NoEscape" then some (args,.pure Op.gS)
 else if fn.name == "internal/bytealg.MakeNoZero" then (fn.resultTypes[0]?).bind λ t=>match P.underlying t with
  | some (.slice e)=>some (args,.alloc (Op.makeNoZero e))
  | _=>none
 else none
def vA (P:Program) (src dst:TypeId) (x:Operand):Option (List Operand × dS) :=
 match P.underlying src,P.underlying dst with
 | some (.int _),some (.int k)=>some ([x],.pure (Op.wrap k))
 | some (.int _),some .string=>some ([x],.pure Op.fB)
 | some .string,some .string=>none
 | some (.slice e),some .string=>match P.underlying e with
  | some (.int .u8)=>some ([x],.read Op.eu)
  | _=>none
 | some (.pointer u),some .unsafePointer=>some ([x],.read (Op.fF (fY P u)))
 | some .unsafePointer,some (.pointer u)=>some ([x],.read (Op.fF (fY P u)))
 | some .string,some (.slice e)=>match P.underlying e with
  | some (.int .u8)=>some ([x],.alloc (Op.fm e))
  | _=>none
 | _,_=>none
def A6 (P:Program) (t:TypeId) (x y:Operand):Option oS :=
 match P.underlying t with
 | some .bool=>some .bool
 | some (.pointer e)=>match bF P e with
  | some (_+1)=>some .ptr
  | _=>none
 | some (.slice _)=>some .slice
 | some (.map _ _)=>some .map
 | some (.func _ _ _)=>some .func
 | some (.interface _)=>match x,y with
  | .const .nilIface,_=>some .iface
  | _,.const .nilIface=>some .iface
  | _,_=>some (.ifaces λ u=>(P.info? u).bind λ i=>if i.comparable then da P 20 u else none)
 | some (.struct _)=>if P.eqGuardType P.depth t then none else (da P 20 t).bind λ q=>some (.agg q)
 | some (.array _ _)=>if P.eqGuardType P.depth t then none else (da P 20 t).bind λ q=>some (.agg q)
 | _=>none
def C9 (P:Program) (op:BinOp) (t:TypeId) (x y:Operand):Option (List Operand × dS) :=
 match P.underlying t with
 | some (.int _)=>some ([x,y],.pure (Op.bin op))
 | some .string=>some ([x,y],.pure (Op.bin op))
 | _=>match op with
  | .eql=>(A6 P t x y).bind λ k=>some ([x,y],.read (Op.eq k false))
  | .neq=>(A6 P t x y).bind λ k=>some ([x,y],.read (Op.eq k true))
  | _=>none
def sL (P:Program) (c:Call):Option (List Operand × dS) :=
 match c.callee with
 | .value (.func f)=>(P.funcs[f]?).bind λ fn =>
  match fn.body with
  | some _=>some (c.args.toList,.eM f)
  | none=>CM P fn c.args.toList
 | .value f=>some (f::c.args.toList,.ec)
 | .invoke r m=>some (r::c.args.toList,.invoke m)
 | .builtin b=>Mw P b c.argTypes c.args.toList
def JG (P:Program) (op:Go.Op):Option (List Operand × dS) :=
 match op with
 | .move x=>some ([x],.pure Op.move)
 | .assign x=>some ([x],.pure Op.move)
 | .pick c a b=>some ([c,a,b],.pure Op.pick)
 | .alloc e=>(zeroOf P e).bind λ z=>some ([],.alloc (Op.alloc e z.cells))
 | .box e x=>some ([x],.alloc (Op.box e))
 | .build t parts=>(zeroOf P t).bind λ z =>
  match P.underlying t with
  | some (.struct fs)=>if fs.all (λ f=>(bF P f.type).isSome) then (ta (FT P fs) parts.toList).bind λ ps=>some (parts.toList.map (·.2),.pure (Op.build z.cells ps)) else none
  | some (.array _ e)=>(bF P e).bind λ n=>(ta (DO n) parts.toList).bind λ ps=>some (parts.toList.map (·.2),.pure (Op.build z.cells ps))
  | _=>none
 | .buildSlice t len parts =>
  match P.underlying t with
  | some (.slice e)=>(bF P e).bind λ n=>(zeroOf P e).bind λ z=>(ta (DO n) parts.toList).bind λ ps=>if z.cells.length=n/\len*n<=16777216 then some (parts.toList.map (·.2),.alloc (Op.buildSlice e len z.cells ps)) else none
  | _=>none
 | .load t a=>(jI P t).bind λ r=>match r with
  | none=>some ([a],.read Op.aa)
  | some n=>some ([a],.read (Op.au n))
 | .store t a x=>(bF P t).bind λ n=>some ([a,x],.bQ (Op.store n))
 | .nilCheck x=>some ([x],.pure Op.nilCheck)
 | .binOp op t x y _=>C9 P op t x y
 | .unOp op _ x=>some ([x],.pure (Op.un op))
 | .convert src dst x=>vA P src dst x
 | .makeInterface t x=>match P.underlying t with
  | some (.interface _)=>none
  | some _=>some ([x],.pure (Op.cM t))
  | none=>none
 | .makeFunc (.func f) a b=>some (a.toList++b.toList,.pure (Op.bm f a.size))
 | .makeMap _ none=>some ([],.alloc Op.mkMap)
 | .makeMap t (some (.const (.int _ _)))=>match P.underlying t with
  | some (.map _ _)=>some ([],.alloc Op.mkMap)
  | _=>none
 | .makeSlice t l c =>
  match P.underlying t with
  | some (.slice e)=>(gP P e).bind λ b=>(zeroOf P e).bind λ z=>(bF P e).bind λ n=>if z.cells.length=n then some ([l,c],.alloc (Op.mkSlice e b z.cells)) else none
  | _=>none
 | .slice t x lo hi mx =>
  match P.underlying t with
  | some .string=>match mx with
   | none=>some (x::fp [lo,hi],.pure (Op.cz (dw 0 [lo,hi])))
   | some _=>none
  | some (.slice e)=>(bF P e).bind λ n=>some (x::fp [lo,hi,mx],.pure (Op.bc n (dw 0 [lo,hi,mx])))
  | some (.array k e)=>(bF P e).bind λ n=>some (x::fp [lo,hi,mx],.pure (Op.eN k n (dw 0 [lo,hi,mx])))
  | _=>none
 | .fieldAddr t x i =>
  match P.underlying t with
  | some (.struct fs)=>(fs[i]?).bind λ f=>(bF P f.type).bind λ n=>if n == 0 then none else some ([x],.pure (Op.fieldAddr f.offset))
  | _=>none
 | .field _ _ _=>none
 | .indexAddr t x i =>
  match P.underlying t with
  | some (.slice e)=>(bF P e).bind λ n=>some ([x,i],.pure (Op.aJ n))
  | some (.array k e)=>(bF P e).bind λ n=>some ([x,i],.pure (Op.bp k n))
  | _=>none
 | .index t x i =>
  match P.underlying t with
  | some .string=>some ([x,i],.pure Op.aY)
  | some (.array k e)=>(bF P e).bind λ n=>(jI P e).bind λ a=>some ([x,i],.pure (Op.eH k n a))
  | _=>none
 | .lookup t m k ok =>
  match P.underlying t with
  | some (.map kt e)=>(jV P kt).bind λ key=>(zeroOf P e).bind λ z=>some ([m,k],.read (Op.lookup key z ok))
  | _=>none
 | .mapUpdate t m k v =>
  match P.underlying t with
  | some (.map kt _)=>(jV P kt).bind λ key=>some ([m,k,v],.bQ (Op.mapUpdate key))
  | _=>none
 | .insert t m k v =>
  match P.underlying t with
  | some (.map kt _)=>(jV P kt).bind λ key=>some ([m,k,v],.bQ (Op.mapUpdate key))
  | _=>none
 | .range t x=>match P.underlying t with
  | some .string=>some ([x],.alloc Op.fo)
  | _=>none
 | .next it true=>some ([it],.bQ Op.ez)
 | .typeAssert x _ t ok=>match P.underlying t with
  | some (.interface _)=>none
  | some _=>(zeroOf P t).bind λ z=>some ([x],.pure (Op.typeAssert t ok z))
  | none=>none
 | .extract x i=>some ([x],.pure (Op.extract i))
 | .call c=>sL P c
 | .defer c=>match c.callee with
  | .value f=>some (f::c.args.toList,.defer)
  | _=>none
 | .panic x=>some ([x],.panic)
 | _=>none
def eW (P:Program) (o:Oper):Option (List bP × dS) :=
 match (JG P o.op).bind λ r=>(jP P.globals.size r.1).bind λ args=>some (args,r.2) with
 | some r=>some r
 | none=>some ([],.pure Op.fail)
inductive D7 where
 | pure|read|alloc|bQ
 deriving DecidableEq
def lM:dS->D7
 | .pure _=>.pure
 | .read _=>.read
 | .alloc _=>.alloc
 | _=>.bQ
def jJ (cls:Nat->D7) (ej:Nat->Nat) (n:Nat):Nat->Nat->List (Bool × Nat)->List (Bool × Nat)
 | 0,_,acc=>acc.reverse
 | fuel+1,done,acc =>
  let ready (i:Nat):Bool:=!done.testBit i && (ej i &&& done) == ej i
  let todo:=(List.range n).filter λ i=>!done.testBit i
  match todo.find? (λ i=>ready i && (cls i == .pure || cls i == .read)) with
  | some i=>jJ cls ej n fuel (done ||| 2 ^ i) ((false,i)::acc)
  | none =>
   -- the next effect: the first one (effects are in a row)
   match todo.find? (λ i=>cls i == .bQ) with
   | some e =>
    if ready e then
     let again:=(acc.reverse.filter λ q=>!q.1 && cls q.2 == .read && !(ej e).testBit q.2).map λ q=>(true,q.2)
     jJ cls ej n fuel (done ||| 2 ^ e) (again.reverse++((false,e)::acc))
    else match todo.find? (λ i=>ready i && (ej e).testBit i) with
     | some i=>jJ cls ej n fuel (done ||| 2 ^ i) ((false,i)::acc)
     | none=>acc.reverse
   | none=>match todo.find? ready with
    | some i=>jJ cls ej n fuel (done ||| 2 ^ i) ((false,i)::acc)
    | none=>acc.reverse
def cV {α:Type}:List (Option α)->Option (List α)
 | []=>some []
 | x::xs=>x.bind λ a=>(cV xs).bind λ l=>some (a::l)
def guardOf (ops:Array Oper):Option (Nat × Bool)->Option (Option (Nat × Bool))
 | none=>some none
 | some g=>((ops[g.1]?).bind (·.dst)).bind λ t=>some (some (t,g.2))
def gA (ops:Array Oper) (l:List (List bP × dS)) (safe:Nat->Option (List Nat)) (q:Bool × Nat):Option aQ :=
 (ops[q.2]?).bind λ o=>(l[q.2]?).bind λ a=>(guardOf ops o.guard).bind λ g =>
  some { eY:=q.1,dst:=o.dst,guard:=g,args:=a.1,op:=a.2,cj:=safe q.2 }
def jQ (nt:Nat) (o:Oper):Bool :=
 match o.dst with
 | none=>true
 | some d=>Nat.blt d nt
def kE (a b:Nat):Bool:=Nat.beq (Nat.land a b) a
def bitsOf:List (Bool × Nat)->Nat->Nat
 | [],d=>d
 | (true,_)::l,d=>bitsOf l d
 | (false,i)::l,d=>bitsOf l (Nat.lor d (2 ^ i))
def iV:List (Bool × Nat)->Nat->Nat
 | (true,r)::l,d=>iV l (Nat.lor d (2 ^ r))
 | _,d=>d
def lC (c d:D7):Bool:=match c,d with
 | .pure,.pure=>true
 | .read,.read=>true
 | .alloc,.alloc=>true
 | .bQ,.bQ=>true
 | _,_=>false
def fT (p:Nat->Bool):Nat->Nat
 | 0=>0
 | n+1=>cond (p n) (Nat.lor (fT p n) (2 ^ n)) (fT p n)
structure iE where
 n:Nat
 ej:Nat->Nat
 cls:Nat->D7
 qP:Nat->Nat->Bool
 self:Nat->Bool
 made:Nat
 reads:Nat
def GN (I:iE) (done:Nat) (post:List (Bool × Nat)):Bool × Nat->Bool
 | (false,i)=>Nat.blt i I.n && (!done.testBit i && (kE (I.ej i) done && (match I.cls i with
  | .read=>kE (Nat.land done I.made) (I.ej i)
  | .bQ=>kE (Nat.land done I.made) (I.ej i) && kE (Nat.land done I.reads) (Nat.lor (I.ej i) (iV post 0))
  | _=>true)))
 | (true,r)=>lC (I.cls r) .read && (I.self r && (done.testBit r && kE (Nat.land done (fT (λ w=>!Nat.beq w r && I.qP r w) I.n)) (I.ej r)))
def D9 (I:iE):List (Bool × Nat)->Nat->Bool
 | [],done=>kE (2 ^ I.n-1) done
 | (false,i)::post,done=>GN I done post (false,i) && D9 I post (Nat.lor done (2 ^ i))
 | (true,r)::post,done=>GN I done post (true,r) && D9 I post done
def mL (p:Nat->Bool):Nat->Bool
 | 0=>true
 | n+1=>p n && mL p n
def pZ (I:iE):Bool:=mL (λ r=>mL (λ w=>Nat.beq r w || ((I.ej r).testBit w || ((I.ej w).testBit r || !I.qP r w))) I.n) I.n
def tmpsOf:List bP->List Nat
 | []=>[]
 | .tmp t::l=>t::tmpsOf l
 | _::l=>tmpsOf l
def jE (t:Nat):List Nat->Bool
 | []=>false
 | x::l=>Nat.beq x t || jE t l
def fQ (ops:Array Oper) (l:List (List bP × dS)) (r:Nat):List Nat :=
 match ops[r]?,l[r]? with
 | some o,some a=>(match guardOf ops o.guard with|some (some g)=>[g.1] | _=>[])++tmpsOf a.1
 | _,_=>[]
def eZ (ops:Array Oper) (w:Nat):Option Nat:=(ops[w]?).bind (·.dst)
def eA (ops:Array Oper) (l:List (List bP × dS)) (r:Nat):List Nat :=
 (match eZ ops r with|some d=>[d] | none=>[])++fQ ops l r
def xH (ops:Array Oper) (l:List (List bP × dS)) (r w:Nat):Bool :=
 match eZ ops w with
 | some t=>jE t (eA ops l r)
 | none=>false
def xF (ops:Array Oper) (l:List (List bP × dS)) (r:Nat):Bool :=
 match eZ ops r with
 | some t=>!jE t (fQ ops l r)
 | none=>true
def dN (l:List (List bP × dS)) (i:Nat):D7:=lM ((l[i]?.getD ([],.recover)).2)
def po (c:D7):Bool:=lC c .alloc || lC c .bQ
def ba (ops:Array Oper) (l:List (List bP × dS)):iE :=
 { n:=ops.size,ej:=λ i=>(Region.before ops).getD i 0,cls:=dN l,qP:=xH ops l,self:=xF ops l,made:=fT (λ i=>po (dN l i)) ops.size,reads:=fT (λ i=>lC (dN l i) .read) ops.size }
def ou (i:Nat):List (Bool × Nat)->List (Bool × Nat)
 | []=>[]
 | (c,j)::l=>cond (!c && Nat.beq j i) [] ((c,j)::ou i l)
def Ic (ops:Array Oper) (I:iE) (plan:List (Bool × Nat)) (i:Nat):Option (List Nat) :=
 let d:=bitsOf (ou i plan) 0
 cond (mL (λ j=>Nat.beq j i || (d.testBit j || (I.ej j).testBit i)) I.n) (some (ops.toList.filterMap (·.dst))) none
def fJ (P:Program) (nt:Nat) (ops:Array Oper) (draw:Bool):Option ab :=
 if ops.toList.all (jQ nt) then
 (cV (ops.toList.map (eW P))).bind λ l =>
  if draw then
   let I:=ba ops l
   let plan:=jJ I.cls I.ej ops.size (2*ops.size) 0 []
   cond (D9 I plan 0 && pZ I) ((cV (plan.map (gA ops l (Ic ops I plan)))).bind λ steps=>some (.region steps)) (some .stuck)
  else (cV ((List.range ops.size).map λ i=>gA ops l (λ _=>some []) (false,i))).bind λ steps=>some (.region steps)
 else none
def cn (P:Program) (nt:Nat):Nat->Code->Option (ab × List cP)
 | _,.skip=>some (.skip,[])
 | _,.region _ ops draw=>(fJ P nt ops draw).bind λ c=>some (c,[])
 | k,.seq a b=>(cn P nt k a).bind λ a=>(cn P nt (k+a.2.length) b).bind λ b=>some (.seq a.1 b.1,a.2++b.2)
 | k,.cond c a b=>(nG P.globals.size c).bind λ c=>(cn P nt k a).bind λ a=>(cn P nt (k+a.2.length) b).bind λ b=>some (.cond c a.1 b.1,a.2++b.2)
 | k,.block id b=>(cn P nt k b).bind λ b=>some (.block id b.1,b.2)
 | k,.loop b=>(cn P nt k b).bind λ b=>some (.loop none b.1,b.2)
 | k,.rangeFunc f ps a b=>(nG P.globals.size f).bind λ f=>(cn P nt (k+1) a).bind λ a=>(cn P nt (k+1+a.2.length) b).bind λ b =>
  if ps.toList.all λ p=>Nat.blt p nt then some (.rangeFunc f k,{ params:=ps.toList,assign:=a.1,body:=b.1 }::(a.2++b.2)) else none
 | _,.exit id=>some (.exit id,[])
 | k,.scope b=>(cn P nt k b).bind λ b=>some (.scope b.1,b.2)
 | _,.label l=>some (.label l,[])
 | _,.goto l=>some (.goto l,[])
 | _,.ret=>some (.ret,[])
 | _,.refuse _=>some (.stuck,[])
def kW (P:Program):List ResultVar->Option (List di)
 | []=>some []
 | .tmp t::r=>(kW P r).bind λ l=>some (.tmp t::l)
 | .cell a t::r=>(jI P t).bind λ n=>(kW P r).bind λ l=>some ((match n with|none=>.jL a|some n=>.dA n a)::l)
def oh (P:Program) (fn:Func):Option aq :=
 fn.body.bind λ b=>(cn P fn.ntmps 0 b).bind λ c=>(kW P fn.results.toList).bind λ r=>some { results:=r,body:=c.1,loops:=c.2 }
def pR (P:Program) (t:TypeId) (name:String):Option Nat :=
 (P.info? t).bind λ i=>(i.methods.find? (·.name == name)).bind λ m =>
  if !m.path.isEmpty then none else m.func.bind λ p =>
   match P.underlying t,p.2 with
   | none,_=>none
   | some (.pointer _),true=>some p.1
   | some (.pointer _),false=>none
   | some _,true=>none
   | some _,false=>some p.1
def ak (P:Program):gm:={ func:=λ f=>(P.funcs[f]?).bind (oh P),mC:=pR P }
end
end Go.Am
namespace Go.Am
namespace T
variable {α:Type}
theorem go_eq (f:Nat):∀ (g i:Nat),i<=f->i<=g->path.go f i=path.go g i:=by
 induction f with
 | zero=>intro g i hf hg;obtain rfl:i=0:=by omega
         cases g<;>simp [path.go]
 | succ f ih =>
  intro g i hf hg;cases i with
  | zero=>cases g<;>simp [path.go]
  | succ n =>
   cases g with
   | zero=>omega
   | succ g =>
    simp only [path.go];have h:n / 2<=n:=Gy n 2;congr 1;exact ih g (n / 2) (by omega) (by omega)
theorem q5w:path 0=[]:=rfl
theorem LR (n:Nat):path (n+1)=Nat.beq (n % 2) 0::path (n / 2):=by
 show path.go (n+1) (n+1)=_;simp only [path.go];have h:n / 2<=n:=Gy n 2;exact congrArg (Nat.beq (n % 2) 0 :: ·) (go_eq n (n / 2) (n / 2) h (qf _))
theorem vF:∀ (i j:Nat),path i=path j->i=j:=by
 intro i
 induction i using Nat.strongRecOn with
 | _ i ih =>
  intro j h;cases i with
  | zero=>cases j with
   | zero=>rfl
   | succ m=>rw [q5w,LR] at h;cases h
  | succ n=>cases j with
   | zero=>rw [q5w,LR] at h;cases h
   | succ m =>
    rw [LR,LR] at h;injection h with h1 h2
    have h3:=ih (n / 2) (by have:=Gy n 2;omega) (m / 2) h2;have h4:n % 2=m % 2:=by
     rcases Nat.mod_two_eq_zero_or_one n with a|a<;>rcases Nat.mod_two_eq_zero_or_one m with b|b<;>simp_all
    omega
theorem sX (p:List Bool):o0 p (.nil:T α)=none:=by
 induction p with
 | nil=>rfl
 | cons b p ih=>cases b<;>exact ih
theorem q0j (v:Option α):∀ (p:List Bool) (t:T α),o0 p (kH v p t)=v:=by
 intro p
 induction p with
 | nil=>intro t;rfl
 | cons b p ih=>intro t;cases b<;>exact ih _
theorem q4x (v:Option α):∀ (p q:List Bool) (t:T α),p ≠ q->o0 q (kH v p t)=o0 q t:=by
 intro p
 induction p with
 | nil =>
  intro q t h;cases q with
  | nil=>exact absurd rfl h
  | cons b q=>cases b<;>rfl
 | cons b p ih =>
  intro q t h;cases q with
  | nil=>cases b<;>rfl
  | cons c q =>
   cases b<;>cases c
   ·exact ih q _ (λ e=>h (by rw [e]))
   ·rfl
   ·rfl
   ·exact ih q _ (λ e=>h (by rw [e]))
theorem gy (t:T α) (i j:Nat) (v:Option α):(t.put i v).get j=if i=j then v else t.get j:=by
 unfold get put
 by_cases h:i=j
 ·subst h;simp [q0j]
 ·simp only [h,ve];exact q4x v _ _ t (λ e=>h (vF i j e))
theorem aI (t:T α) (i j:Nat) (v:α):(t.set i v).get j=if i=j then some v else t.get j:=gy t i j (some v)
theorem get_nil (j:Nat):(T.nil:T α).get j=none:=sX _
theorem fZ (p:List Bool) (t:T α):(jK p).run t=o0 p t:=by
 induction p generalizing t with
 | nil=>rfl
 | cons b p ih=>cases b<;>exact ih _
theorem uj (v:Option α) (p:List Bool) (t:T α):(rm p).run v t=kH v p t:=by
 induction p generalizing t with
 | nil=>rfl
 | cons b p ih =>
  cases b
  ·show T.node t.l t.val ((rm p).run v t.r)=T.node t.l t.val (kH v p t.r);rw [ih]
  ·show T.node ((rm p).run v t.l) t.val t.r=T.node (kH v p t.l) t.val t.r;rw [ih]
end T
section
variable {α:Type}
theorem gM (l:List α) (i:Nat):nth l i=l[i]?:=by
 induction l generalizing i with
 | nil=>rfl
 | cons x l ih=>cases i with
  | zero=>rfl
  | succ n=>exact ih n
theorem mb (a b:List α):gC a b=a++b:=by
 induction a with
 | nil=>rfl
 | cons x a ih=>exact congrArg (x :: ·) ih
theorem nU (l:List α):bW l=l.length:=by
 induction l with
 | nil=>rfl
 | cons x l ih=>exact congrArg (·+1) ih
theorem tu (n:Nat) (l:List α):BR n l=l.drop n:=by
 induction n generalizing l with
 | zero=>rfl
 | succ n ih=>cases l with
  | nil=>exact (ih []).trans (by simp)
  | cons x l=>exact ih l
theorem tZ (n:Nat) (l:List α):vC n l=if n<=l.length then some (l.take n) else none:=by
 induction n generalizing l with
 | zero=>rfl
 | succ n ih=>cases l with
  | nil=>rfl
  | cons x l =>
   show (vC n l).bind (λ r=>some (x::r))=_;rw [ih]
   by_cases h:n<=l.length<;>simp [h]
theorem tJ (new l:List α):qD new l=if new.length<=l.length then some (new++l.drop new.length) else none:=by
 induction new generalizing l with
 | nil=>rfl
 | cons x new ih=>cases l with
  | nil=>rfl
  | cons y l =>
   show (qD new l).bind (λ r=>some (x::r))=_;rw [ih]
   by_cases h:new.length<=l.length<;>simp [h]
theorem sd (o:Nat) (new l:List α):putAt o new l=if o+new.length<=l.length then some (l.take o++new++l.drop (o+new.length)) else none:=by
 induction o generalizing l with
 | zero=>show qD new l=_;rw [tJ];simp
 | succ o ih=>cases l with
  | nil =>
   show none=_;rw [qc (by simp only [qw];omega)]
  | cons x l =>
   show (putAt o new l).bind (λ r=>some (x::r))=_;rw [ih]
   by_cases h:o+new.length<=l.length
   ·rw [qk h,qk (by simp;omega)];simp [show o+1+new.length=(o+new.length)+1 from by omega]
   ·rw [qc h,qc (by simp;omega)];rfl
theorem mB (l:List α) (o n:Nat):dL l o n=if n<=l.length-o then some ((l.drop o).take n) else none:=by
 unfold dL;rw [tZ,tu,tY]
end
theorem pN (a b:Int):kB a b=decide (a<=b):=by
 cases a<;>cases b<;>rw [Bool.eq_iff_iff]<;>simp [kB,wq]<;>try omega
theorem p8 (a b:Int):oC a b=decide (a<b):=by
 unfold oC;rw [pN];rw [Bool.eq_iff_iff];simp
theorem rH (a b:Int):nJ a b=(a == b):=by
 rw [Bool.eq_iff_iff,beq_iff_eq];cases a<;>cases b<;>simp [nJ]<;>omega
theorem Lf (a b:IntKind):pE a b=decide (a=b):=by cases a<;>cases b<;>rfl
theorem Pk (a b:UInt8):yF a b=(a == b):=by
 unfold yF;rw [Bool.eq_iff_iff];simp only [zz,beq_iff_eq];exact ⟨λ h=>UInt8.toNat_inj.1 h,λ h=>by rw [h]⟩
theorem Di (a b:List UInt8):sx a b=(a == b):=by
 induction a generalizing b with
 | nil=>cases b<;>rfl
 | cons x a ih=>cases b with
  | nil=>rfl
  | cons y b =>
   show cond (yF x y) (sx a b) false=_;rw [ih,Pk];cases h:(x == y)<;>simp [h]
end Go.Am
namespace Go.Am
structure Th where
 aN:Nat->Nat
 off:Nat->Nat
 ext:Nat->Nat
def dU (θ:Th):fC->Fn
 | .func f=>.func f
 | .yield l=>.yield (θ.aN l)
def wI:Nat->Option Nat
 | 0=>none
 | n+1=>some n
mutual
def ao (θ:Th):AV->Value
 | .bool b=>.bool b
 | .int k n=>.int k n
 | .str s=>.string ⟨s.toArray⟩
 | .nilp=>.pointer none
 | .ptr b o=>.pointer (some ⟨θ.aN b,θ.off b+o,none⟩)
 | .nils=>.slice none 0 0
 | .slice b o n c=>.slice (some ⟨θ.aN b,θ.off b+o,none⟩) n c
 | .gslice b i m s alt n=>.slice (some ⟨θ.aN b,θ.off b+(if (m-i) + θ.ext b=0 then alt else i*s),none⟩) n ((m-i) + θ.ext b)
 | .eslice b=>.slice (some ⟨θ.aN b,θ.off b,wI (θ.ext b)⟩) 0 0
 | .iT=>.map none
 | .map b=>.map (some (θ.aN b))
 | .fn f a b=>.func (dU θ f) (bM θ a).toArray (bM θ b).toArray
 | .nilf=>.nilFunc
 | .iface t v=>.iface t (ao θ v)
 | .nili=>.nilIface
 | .agg l=>.agg (bM θ l).toArray
 | .tuple l=>.tuple (bM θ l).toArray
def bM (θ:Th):List AV->List Value
 | []=>[]
 | v::vs=>ao θ v::bM θ vs
end
theorem kT (θ:Th) (l:List AV):bM θ l=l.map (ao θ):=by
 induction l with
 | nil=>rfl
 | cons x l ih=>simp [bM,ih]
def Ag (D:Nat->Prop) (θ θ':Th):Prop:=∀ b,D b -> θ'.aN b = θ.aN b /\ θ'.off b = θ.off b /\ θ'.ext b = θ.ext b
theorem Ag.refl (D:Nat->Prop) (θ:Th):Ag D θ θ:=λ _ _=>⟨rfl,rfl,rfl⟩
theorem Ag.trans {D D':Nat->Prop} {θ θ' θ'':Th} (h:Ag D θ θ') (h':Ag D' θ' θ'') (hd:∀ b,D b->D' b):Ag D θ θ'':=λ b hb =>
 let ⟨a1,a2,a3⟩:=h b hb;let ⟨b1,b2,b3⟩:=h' b (hd b hb);⟨b1.trans a1,b2.trans a2,b3.trans a3⟩
theorem Ag.mono {D D':Nat->Prop} {θ θ':Th} (h:Ag D θ θ') (hd:∀ b,D' b->D b):Ag D' θ θ':=λ b hb=>h b (hd b hb)
def VR (D:Nat->Prop) (θ:Th) (v:AV) (c:Value):Prop:=∀ θ',Ag D θ θ'->ao θ' v=c
def bG (D:Nat->Prop) (θ:Th) (l:List AV) (cs:List Value):Prop:=∀ θ',Ag D θ θ'->bM θ' l=cs
section
variable {D D':Nat->Prop} {θ θ':Th}
theorem VR.now {v:AV} {c:Value} (h:VR D θ v c):ao θ v=c:=h θ (Ag.refl D θ)
theorem bG.now {l:List AV} {cs:List Value} (h:bG D θ l cs):bM θ l=cs:=h θ (Ag.refl D θ)
theorem VR.up {v:AV} {c:Value} (h:VR D θ v c) (ha:Ag D θ θ') (hd:∀ b,D b->D' b):VR D' θ' v c:=λ θ'' h'=>h θ'' (ha.trans h' hd)
theorem bG.up {l:List AV} {cs:List Value} (h:bG D θ l cs) (ha:Ag D θ θ') (hd:∀ b,D b->D' b):bG D' θ' l cs:=λ θ'' h'=>h θ'' (ha.trans h' hd)
theorem bG.nil:bG D θ [] []:=λ _ _=>rfl
theorem bG.cons {v:AV} {c:Value} {l:List AV} {cs:List Value} (h:VR D θ v c) (hl:bG D θ l cs):bG D θ (v::l) (c::cs) :=
 λ θ' ha=>by simp [bM,h θ' ha,hl θ' ha]
theorem bG.cT {v:AV} {l:List AV} {cs:List Value} (h:bG D θ (v::l) cs):∃ c cs',cs=c::cs'/\VR D θ v c/\bG D θ l cs':=by
 refine ⟨ao θ v,bM θ l,(by rw [<-h.now];rfl),λ θ' ha=>?_,λ θ' ha=>?_⟩
 ·have:=(h θ' ha).trans h.now.symm;simp only [bM] at this;injection this
 ·have:=(h θ' ha).trans h.now.symm;simp only [bM] at this;injection this
theorem bG.fK {cs:List Value} (h:bG D θ [] cs):cs=[]:=h.now.symm
theorem bG.length {l:List AV} {cs:List Value} (h:bG D θ l cs):cs.length=l.length:=by rw [<-h.now,kT];simp
theorem bG.app {l l':List AV} {cs cs':List Value} (h:bG D θ l cs) (h':bG D θ l' cs'):bG D θ (l++l') (cs++cs'):=by
 intro θ' ha;rw [kT,Ce,<-kT,<-kT,h θ' ha,h' θ' ha]
theorem bG.lB {l:List AV} {cs:List Value} (h:bG D θ l cs) {i:Nat} {v:AV} (hv:l[i]? = some v):∃ c,cs[i]? = some c/\VR D θ v c:=by
 refine ⟨ao θ v,?_,λ θ' ha=>?_⟩
 ·rw [<-h.now,kT,xj,hv];rfl
 ·have:=(h θ' ha).trans h.now.symm;rw [kT,kT] at this;have h2:=congrArg (λ l=>l[i]?) this;simp only [xj,hv,AM,qb] at h2;exact h2
theorem bG.drop {l:List AV} {cs:List Value} (h:bG D θ l cs) (n:Nat):bG D θ (l.drop n) (cs.drop n):=by
 intro θ' ha;rw [kT,List.map_drop,<-kT,h θ' ha]
theorem bG.take {l:List AV} {cs:List Value} (h:bG D θ l cs) (n:Nat):bG D θ (l.take n) (cs.take n):=by
 intro θ' ha;rw [kT,List.map_take,<-kT,h θ' ha]
theorem bG.one {v:AV} {c:Value} (h:VR D θ v c):bG D θ [v] [c]:=.cons h .nil
theorem VR.agg {l:List AV} {cs:List Value} (h:bG D θ l cs):VR D θ (.agg l) (.agg cs.toArray):=λ θ' ha=>by simp [ao,h θ' ha]
theorem VR.tuple {l:List AV} {cs:List Value} (h:bG D θ l cs):VR D θ (.tuple l) (.tuple cs.toArray):=λ θ' ha=>by simp [ao,h θ' ha]
theorem VR.dJ {l:List AV} {c:Value} (h:VR D θ (.agg l) c):∃ cs:List Value,c=.agg cs.toArray/\bG D θ l cs:=by
 refine ⟨bM θ l,h.now.symm,λ θ' ha=>?_⟩;have:=(h θ' ha).trans h.now.symm;simpa [ao] using this
theorem VR.re {l:List AV} {c:Value} (h:VR D θ (.tuple l) c):∃ cs:List Value,c=.tuple cs.toArray/\bG D θ l cs:=by
 refine ⟨bM θ l,h.now.symm,λ θ' ha=>?_⟩;have:=(h θ' ha).trans h.now.symm;simpa [ao] using this
theorem VR.iface {t:Nat} {v:AV} {c:Value} (h:VR D θ v c):VR D θ (.iface t v) (.iface t c):=λ θ' ha=>by simp [ao,h θ' ha]
theorem VR.gf {t:Nat} {v:AV} {c:Value} (h:VR D θ (.iface t v) c):∃ c',c=.iface t c'/\VR D θ v c':=by
 refine ⟨ao θ v,h.now.symm,λ θ' ha=>?_⟩;have:=(h θ' ha).trans h.now.symm;simpa [ao] using this
theorem VR.undef:VR D θ .undef Go.undef:=λ _ _=>rfl
theorem VR.bool (b:Bool):VR D θ (.bool b) (.bool b):=λ _ _=>rfl
theorem VR.int (k:IntKind) (n:Int):VR D θ (.int k n) (.int k n):=λ _ _=>rfl
theorem VR.str (s:List UInt8):VR D θ (.str s) (.string ⟨s.toArray⟩):=λ _ _=>rfl
theorem VR.ptr {b o:Nat} (hb:D b):VR D θ (.ptr b o) (.pointer (some ⟨θ.aN b,θ.off b+o,none⟩)):=λ θ' ha=>by obtain ⟨h1,h2,_⟩:=ha b hb;simp [ao,h1,h2]
theorem VR.map {b:Nat} (hb:D b):VR D θ (.map b) (.map (some (θ.aN b))):=λ θ' ha=>by obtain ⟨h1,_,_⟩:=ha b hb;simp [ao,h1]
theorem VR.slice {b o n c:Nat} (hb:D b):VR D θ (.slice b o n c) (ao θ (.slice b o n c)):=λ θ' ha=>by obtain ⟨h1,h2,_⟩:=ha b hb;simp [ao,h1,h2]
theorem VR.gslice {b i m s alt n:Nat} (hb:D b):VR D θ (.gslice b i m s alt n) (ao θ (.gslice b i m s alt n)):=λ θ' ha=>by
 obtain ⟨h1,h2,h3⟩:=ha b hb;simp [ao,h1,h2,h3]
end
def Bo (fz cfz:Nat × Nat) (off size:Nat):Prop:=cfz.1=cfz.2\/(cfz.1<cfz.2/\off+fz.1<=cfz.1/\cfz.2<=off+fz.2)\/(fz.2<fz.1/\(size<=cfz.1\/cfz.2<=off))
def Dn (fz cfz:Nat × Nat):Prop:=cfz.1=cfz.2\/(cfz.1<cfz.2/\fz.1<=cfz.1/\cfz.2<=fz.2)
def own:bg->Bool
 | .row _ _ _ o=>o
 | _=>true
def kF (D:Nat->Prop) (θ:Th) (tm:T AV) (a:Array Value):Prop:=∀ t v,tm.get t=some v -> ∃ c,a[t]? = some c/\VR D θ v c
def stR:iK->LoopState
 | .ready=>.ready | .busy=>.busy | .done=>.done | .exhausted=>.exhausted
def iA:gh->Code
 | .exit id=>.exit id
 | .goto l=>.goto l
 | .ret=>.ret
def JZ (D:Nat->Prop) (θ:Th) (e:AV × AV × Nat) (m:MapEntry):Prop:=VR D θ e.1 m.key/\VR D θ e.2.1 m.val/\m.born=e.2.2
def cJ (D:Nat->Prop) (θ:Th):List (AV × AV × Nat)->List MapEntry->Prop
 | [],[]=>True
 | e::es,m::ms=>JZ D θ e m/\cJ D θ es ms
 | _,_=>False
def pD (P:Program) (f k n:Nat) (params:Array Tmp) (assign body:Code):Prop :=
 ∃ fn af lp ka kb L1 L2,P.funcs[f]? = some fn/\oh P fn=some af/\nth af.loops k=some lp/\lp.params=params.toList/\(∀ p ∈ params.toList,p<fn.ntmps)/\fn.ntmps<=n /\
  cn P fn.ntmps ka assign=some (lp.assign,L1)/\(∀ i l,nth L1 i=some l->nth af.loops (ka+i)=some l) /\
  cn P fn.ntmps kb body=some (lp.body,L2)/\(∀ i l,nth L2 i=some l->nth af.loops (kb+i)=some l)
def Oe (D:Nat->Prop) (θ:Th):aC->Deferred->Prop
 | .ic b,d=>D b/\d = { target:=.collected (θ.aN b),args:=#[] }
 | .fn f args,d=>∃ c cap:Array Value,d = { target:=.fn (dU θ f) cap,args:=c }/\(∀ θ',Ag D θ θ'->dU θ' f=dU θ f)/\bG D θ args (c++cap).toList
def iZ (P:Program) (D:Nat->Prop) (θ:Th) (b:Nat):bg->Obj->Prop
 | .row cells e fz ow,o=>∃ pre cs post cfz e',o=.cells (pre++cs++post).toArray e' cfz/\pre.length = θ.off b/\bG D θ cells cs /\
  (ow=true->e'=e/\pre=[]/\post=[]/\Dn fz cfz)
 | .grown m size cells e fz,o=>∃ pre cs post cfz,o=.cells (pre++cs++post).toArray e cfz/\pre.length = θ.off b/\bG D θ cells cs /\
  cells.length=m*size/\post.length = θ.ext b*size/\0<size/\m + θ.ext b<=maxLen/\Bo fz cfz (θ.off b) (pre.length+cs.length+post.length)
 | .map es clock,o=>∃ ms:List MapEntry,o=.map ms.toArray clock/\cJ D θ es ms
 | .cW s pos,o=>o=.stringIter ⟨s.toArray⟩ pos /\ θ.off b=0
 | .loop st pend f k tm d,o=>∃ r:Loop,o=.loop r/\r.state=stR st/\r.pending=pend.map iA/\r.fn=f/\kF D θ tm r.tmps/\pD P f k r.tmps.size r.params r.assign r.body /\
  D d/\r.defers = θ.aN d
 | .deferred calls,o=>∃ ds,o=.deferred ds/\(match calls,ds with
  | none,none=>True
  | some l,some l'=>l=[]/\l'=[]
  | _,_=>False)
structure HR (P:Program) (base:Nat) (D:Nat->Prop) (θ:Th) (H:AHeap) (w:World):Prop where
 obj:∀ b o,H.get b=some o->D b /\ ∃ co,w.heap[θ.aN b]? = some co/\iZ P D θ b o co
 inj:∀ b b' o o',H.get b=some o->H.get b'=some o'->own o=true->b ≠ b' -> θ.aN b ≠ θ.aN b'
 gZ:∀ b o,H.get b=some o->own o=true->base <= θ.aN b
 dx:∀ g,g<P.globals.size->D g /\ θ.aN g=g /\ θ.off g=0
 low:base<=w.heap.size
def Lt (n:Nat):Nat->Prop:=λ b=>b<n
end Go.Am
namespace Go.Am
theorem o7 (k o i:Nat):(⟨k,o,none⟩:Addr).add i=⟨k,o+i,none⟩:=by unfold Addr.add;split<;>simp_all
def dp (w:World) (k:Nat) (o:Obj):World:={ w with heap:=w.heap.setIfInBounds k o }
theorem Kw (w:World) (k:Nat) (o:Obj):(dp w k o).heap.size=w.heap.size:=by simp [dp]
theorem DB (w:World) (k j:Nat) (o:Obj) (h:k<w.heap.size):(dp w k o).heap[j]? = if k=j then some o else w.heap[j]?:=by
 simp only [dp,yu];split<;>simp_all
theorem xfm (w:World) (k:Nat) (o o':Obj):dp (dp w k o) k o'=dp w k o':=by
 simp [dp]
theorem xfl (w:World) (k:Nat) (o:Obj) (h:w.heap[k]? = some o):dp w k o=w:=by
 have:w.heap.setIfInBounds k o=w.heap:=by
  apply Array.ext_getElem?;intro j;rw [yu]
  by_cases hj:k=j
  ·subst hj;obtain ⟨hk,h2⟩:=js.1 h;simp [hk,h2]
  ·simp [hj]
 simp only [dp,this]
theorem uv (w:World) (o:Obj) (j:Nat):(w.alloc o).heap[j]? = if j=w.heap.size then some o else w.heap[j]?:=by
 simp only [World.alloc,Array.getElem?_push]
section
variable {P:Program} {w:World} {k:Nat} {arr:Array Value} {e:TypeId} {fz:Nat × Nat}
theorem FG (h:w.heap[k]? = some (.cells arr e fz)) (o:Nat):w.cell? ⟨k,o,none⟩=arr[o]?:=by simp [World.cell?,h]
theorem xet (h:w.heap[k]? = some (.cells arr e fz)) {o:Nat} {v:Value} (hv:arr[o]? = some v):(load ⟨k,o,none⟩).run P w=.ok v w:=by
 rw [run_load,FG h,hv]
theorem q57 (h:w.heap[k]? = some (.cells arr e fz)) (o n:Nat) (hn:n<=arr.size-o) :
 (loadCells ⟨k,o,none⟩ n).run P w=.ok ((arr.toList.drop o).take n).toArray w:=by
 have hl:((arr.toList.drop o).take n).length=n:=by simp;omega
 have:=run_loadCells_list (P:=P) w ⟨k,o,none⟩ ((arr.toList.drop o).take n) (λ j v hv=>by
  rw [o7,FG h];rw [vx] at hv;split at hv
  ·simpa using hv
  ·cases hv)
 rwa [hl] at this
theorem Ku (hlo:Nat):∀ (vs:List Value) (i:Nat) (arr:Array Value) (w:World),w.heap[k]? = some (.cells arr e fz) ->
 hlo+i+vs.length<=arr.size->(∀ j,j<vs.length -> ¬ (fz.1<=hlo+i+j/\hlo+i+j<fz.2))->(∀ v ∈ vs,v.oneCell'=true) ->
 (storeCells ⟨k,hlo,none⟩ vs i).run P w=.ok () (dp w k (.cells (arr.toList.take (hlo+i)++vs++arr.toList.drop (hlo+i+vs.length)).toArray e fz))
 | [],i,arr,w,hg,_,_,_=>by
  simp only [storeCells,kh,qw,jv,BC,Ji];rw [xfl w k _ hg];rfl
 | v::rest,i,arr,w,hg,hl,hf,h1=>by
  have hi:hlo+i<arr.size:=by simp at hl;omega
  have hk:k<w.heap.size:=(js.1 hg).1;have hcell:w.cell? ⟨k,hlo+i,none⟩=some arr[hlo+i]:=by rw [FG hg];simp [hi]
  have hfro:w.frozen? ⟨k,hlo+i,none⟩=false:=by
   have:=hf 0 (by simp);simp only [World.frozen?,hg];simp at this ⊢;omega
  have hset:w.setCell ⟨k,hlo+i,none⟩ v=dp w k (.cells (arr.setIfInBounds (hlo+i) v) e fz):=by
   simp only [World.setCell,dp];congr 1;apply Array.ext_getElem?;intro j;rw [Array.getElem?_modify,yu]
   by_cases hj:k=j
   ·subst hj;have h2:=(js.1 hg).2;simp [hk,h2]
   ·simp [hj]
  have hst:(store ((⟨k,hlo,none⟩:Addr).add i) v).run P w=.ok () (dp w k (.cells (arr.setIfInBounds (hlo+i) v) e fz)):=by
   rw [o7,run_store P w _ v _ (h1 v (by simp)),hcell];simp [hfro,hset]
  have ih:=Ku hlo rest (i+1) (arr.setIfInBounds (hlo+i) v) (dp w k (.cells (arr.setIfInBounds (hlo+i) v) e fz))
   (by rw [DB _ _ _ _ hk];simp) (by simp at hl ⊢;omega)
   (λ j hj=>by have:=hf (j+1) (by simpa using hj);rwa [show hlo+i+(j+1)=hlo+(i+1)+j from by omega] at this)
   (λ x hx=>h1 x (by simp [hx]))
  simp only [storeCells,Sem.run_bind,hst,Result.andThen_ok,ih,xfm];congr 3;have ee:=list_seg_step arr.toList (hlo+i) v rest (by simp at hl ⊢;omega)
  simpa [Array.toList_setIfInBounds,vj] using ee
end
def Up (D:Nat->Prop) (n m:Nat):Nat->Prop:=λ b=>D b\/(n<=b/\b<m)
theorem Up.of {D:Nat->Prop} {n m:Nat}:∀ b,D b->Up D n m b:=λ _ h=>.inl h
def dh (D:Nat->Prop) (n m:Nat):Prop:=∀ b,n<=b->b<m -> ¬ D b
theorem Up.up {D:Nat->Prop} {n m k:Nat} (h:n<=m) (h':m<=k):Up (Up D n m) m k=Up D n k:=by
 funext b;simp only [Up,eq_iff_iff];constructor
 ·rintro ((h1|⟨h1,h2⟩) | ⟨h1,h2⟩)
  ·exact .inl h1
  ·exact .inr ⟨h1,by omega⟩
  ·exact .inr ⟨by omega,h2⟩
 ·rintro (h1|⟨h1,h2⟩)
  ·exact .inl (.inl h1)
  ·by_cases hb:b<m
   ·exact .inl (.inr ⟨h1,hb⟩)
   ·exact .inr ⟨by omega,h2⟩
theorem Up.none {D:Nat->Prop} {n:Nat}:Up D n n=D:=by
 funext b;simp only [Up,eq_iff_iff];constructor
 ·rintro (h|⟨h1,h2⟩)
  ·exact h
  ·omega
 ·exact .inl
theorem dh.left {D:Nat->Prop} {n m k:Nat} (h:dh D n k) (hk:m<=k):dh D n m:=λ b h1 h2=>h b h1 (by omega)
theorem dh.right {D:Nat->Prop} {n m k:Nat} (h:dh D n k) (hm:n<=m):dh (Up D n m) m k:=λ b h1 h2 h3=>by
 rcases h3 with h3|⟨_,h4⟩
 ·exact h b (by omega) h2 h3
 ·omega
structure bt (D:Nat->Prop) (H:AHeap) (θ:Th) (w:World) (H':AHeap) (θ':Th) (w':World):Prop where
 next:H.next<=H'.next
 ag:Ag D θ θ'
 size:w.heap.size<=w'.heap.size
 os:w'.os=w.os
 tape:w'.tape=w.tape
 output:w'.output=w.output
 aj:∀ k,k<w.heap.size->(∀ b o,H.get b=some o->own o=true -> θ.aN b ≠ k)->w'.heap[k]? = w.heap[k]?
 news:∀ b o,H'.get b=some o->own o=true -> θ'.aN b<w.heap.size -> ∃ b' o',H.get b'=some o'/\own o'=true /\ θ.aN b' = θ'.aN b
theorem bt.refl (D:Nat->Prop) (H:AHeap) (θ:Th) (w:World):bt D H θ w H θ w :=
 ⟨qf _,Ag.refl _ _,qf _,rfl,rfl,rfl,λ _ _ _=>rfl,λ b o h ho _=>⟨b,o,h,ho,rfl⟩⟩
theorem bt.trans {D D':Nat->Prop} {H H' H'':AHeap} {θ θ' θ'':Th} {w w' w'':World} (a:bt D H θ w H' θ' w') (b:bt D' H' θ' w' H'' θ'' w'') (hd:∀ b,D b->D' b):bt D H θ w H'' θ'' w'':=by
 refine ⟨xz a.next b.next,a.ag.trans b.ag hd,xz a.size b.size,b.os.trans a.os,b.tape.trans a.tape,b.output.trans a.output,?_,?_⟩
 ·intro k hk hno;refine (b.aj k (qe hk a.size) ?_).trans (a.aj k hk hno);intro x o hx ho he;obtain ⟨b',o',h1,h2,h3⟩:=a.news x o hx ho (by omega);exact hno b' o' h1 h2 (by omega)
 ·intro x o hx ho aT;obtain ⟨b',o',h1,h2,h3⟩:=b.news x o hx ho (qe aT a.size);obtain ⟨b'',o'',g1,g2,g3⟩:=a.news b' o' h1 h2 (by omega);exact ⟨b'',o'',g1,g2,by omega⟩
theorem bt.draw {D:Nat->Prop} {H:AHeap} {θ:Th} {w w':World} (hh:w'.heap=w.heap) (ho:w'.os=w.os) (ht:w'.tape=w.tape) (hp:w'.output=w.output):bt D H θ w H θ w' :=
 ⟨qf _,Ag.refl _ _,by rw [hh];exact qf _,ho,ht,hp,λ _ _ _=>by rw [hh],λ b o h hw _=>⟨b,o,h,hw,rfl⟩⟩
theorem HR.draw {P:Program} {base:Nat} {D:Nat->Prop} {θ:Th} {H:AHeap} {w w':World} (h:HR P base D θ H w) (hh:w'.heap=w.heap):HR P base D θ H w' :=
 ⟨λ b o hb=>by rw [hh];exact h.obj b o hb,h.inj,h.gZ,h.dx,by rw [hh];exact h.low⟩
theorem cJ.up {D D':Nat->Prop} {θ θ':Th} (ha:Ag D θ θ') (hd:∀ b,D b->D' b):∀ (es:List (AV × AV × Nat)) (ms:List MapEntry),cJ D θ es ms->cJ D' θ' es ms
 | [],[],_=>trivial
 | e::es,m::ms,⟨⟨h1,h2,h3⟩,h⟩=>⟨⟨h1.up ha hd,h2.up ha hd,h3⟩,cJ.up ha hd es ms h⟩
 | [],_::_,h=>h.elim
 | _::_,[],h=>h.elim
theorem iZ.up {P:Program} {D D':Nat->Prop} {θ θ':Th} {b:Nat} {o:bg} {co:Obj} (h:iZ P D θ b o co) (hb:D b) (ha:Ag D θ θ') (hd:∀ b,D b->D' b):iZ P D' θ' b o co:=by
 obtain ⟨e1,e2,e3⟩:=ha b hb;cases o with
 | row cells e fz ow =>
  obtain ⟨pre,cs,post,cfz,et,h1,h2,h3,h4⟩:=h;exact ⟨pre,cs,post,cfz,et,h1,by rw [e2];exact h2,h3.up ha hd,h4⟩
 | grown m size cells e fz =>
  obtain ⟨pre,cs,post,cfz,h1,h2,h3,h4,h5,h6,h7,h8⟩:=h;exact ⟨pre,cs,post,cfz,h1,by rw [e2];exact h2,h3.up ha hd,h4,by rw [e3];exact h5,h6,by rw [e3];exact h7,by rw [e2];exact h8⟩
 | map es clock =>
  obtain ⟨ms,h1,h2⟩:=h;exact ⟨ms,h1,cJ.up ha hd _ _ h2⟩
 | cW s pos=>exact ⟨h.1,e2.trans h.2⟩
 | loop st pend f k tm d =>
  obtain ⟨r,h1,h2,h3,h4,h5,h6,h7,h8⟩:=h;exact ⟨r,h1,h2,h3,h4,λ t v hv=>let ⟨c,hc,hr⟩:=h5 t v hv;⟨c,hc,hr.up ha hd⟩,h6,hd d h7,by rw [(ha d h7).1];exact h8⟩
 | deferred calls=>exact h
theorem HR.up {P:Program} {base:Nat} {D D':Nat->Prop} {θ:Th} {H:AHeap} {w:World} (h:HR P base D θ H w) (hd:∀ b,D b->D' b):HR P base D' θ H w :=
 ⟨λ b o hb=>let ⟨h1,co,h2,h3⟩:=h.obj b o hb;⟨hd b h1,co,h2,h3.up h1 (Ag.refl _ _) hd⟩,h.inj,h.gZ,λ g hg=>⟨hd g (h.dx g hg).1,(h.dx g hg).2⟩,h.low⟩
section
variable {P:Program} {base:Nat} {D:Nat->Prop} {θ:Th} {H:AHeap} {w:World}
theorem HR.lt (h:HR P base D θ H w) {b:Nat} {o:bg} (hb:H.get b=some o):θ.aN b<w.heap.size:=by
 obtain ⟨_,co,hc,_⟩:=h.obj b o hb;exact (js.1 hc).1
theorem AHeap.aI (H:AHeap) (b b':Nat) (o:bg):(H.set b o).get b'=if b=b' then some o else H.get b':=T.aI _ _ _ _
theorem AHeap.bR (H:AHeap) (b':Nat) (o:bg):(H.alloc o).get b'=if H.next=b' then some o else H.get b':=T.aI _ _ _ _
theorem AHeap.lR (H:AHeap) (b b':Nat):(H.kill b).get b'=if b=b' then none else H.get b':=T.gy _ _ _ _
theorem HR.set (h:HR P base D θ H w) {b:Nat} {o o':bg} {co':Obj} (hb:H.get b=some o) (ho:own o=true) (ho':own o'=true) (hr:iZ P D θ b o' co') :
 HR P base D θ (H.set b o') (dp w (θ.aN b) co'):=by
 have aT:=h.lt hb;refine ⟨λ x ox hx=>?_,λ x y ox oy hx hy hox hne=>?_,λ x ox hx hox=>?_,h.dx,by rw [Kw];exact h.low⟩
 ·rw [AHeap.aI] at hx
  by_cases e:b=x
  ·subst e;simp only [iW,qb] at hx;subst hx;exact ⟨(h.obj b o hb).1,co',by rw [DB _ _ _ _ aT];simp,hr⟩
  ·simp only [e,ve] at hx;obtain ⟨h1,co,h2,h3⟩:=h.obj x ox hx;exact ⟨h1,co,by rw [DB _ _ _ _ aT,qc (h.inj b x o ox hb hx ho e)];exact h2,h3⟩
 ·rw [AHeap.aI] at hx hy
  by_cases e:b=x<;>by_cases e':b=y
  ·exact absurd (e.symm.trans e') hne
  ·subst e;simp only [e',ve] at hy;exact h.inj b y o oy hb hy ho hne
  ·subst e';simp only [e,ve] at hx;exact h.inj x b ox o hx hb hox hne
  ·simp only [e,e',ve] at hx hy;exact h.inj x y ox oy hx hy hox hne
 ·rw [AHeap.aI] at hx
  by_cases e:b=x
  ·subst e;exact h.gZ b o hb ho
  ·simp only [e,ve] at hx;exact h.gZ x ox hx hox
theorem bt.set {b:Nat} {o o':bg} {co':Obj} (hb:H.get b=some o) (ho:own o=true) (aT:θ.aN b<w.heap.size) :
 bt D H θ w (H.set b o') θ (dp w (θ.aN b) co'):=by
 refine ⟨qf _,Ag.refl _ _,by rw [Kw];exact qf _,rfl,rfl,rfl,λ k hk hno=>?_,λ x ox hx hox _=>?_⟩
 ·rw [DB _ _ _ _ aT,qc (hno b o hb ho)]
 ·rw [AHeap.aI] at hx
  by_cases e:b=x
  ·subst e;exact ⟨b,o,hb,ho,rfl⟩
  ·simp only [e,ve] at hx;exact ⟨x,ox,hx,hox,rfl⟩
def Th.add (θ:Th) (n aN off ext:Nat):Th:={ aN:=λ b=>if b=n then aN else θ.aN b,off:=λ b=>if b=n then off else θ.off b,ext:=λ b=>if b=n then ext else θ.ext b }
theorem Th.dy (θ:Th) (n aN off ext:Nat):(θ.add n aN off ext).aN n=aN/\(θ.add n aN off ext).off n=off/\(θ.add n aN off ext).ext n=ext:=by simp [Th.add]
theorem Th.eR (θ:Th) (n aN off ext:Nat) {D:Nat->Prop} (hn:¬ D n):Ag D θ (θ.add n aN off ext):=λ b hb=>by
 have:b ≠ n:=λ e=>hn (e ▸ hb);simp [Th.add,this]
end
section
variable {P:Program} {base:Nat} {D:Nat->Prop} {θ:Th} {H:AHeap} {w:World}
theorem HR.alloc (h:HR P base D θ H w) (hn:¬ D H.next) {o:bg} {co:Obj} {k off ext:Nat} {w':World} (hk:w'.heap[k]? = some co) (hkeep:∀ j,j<w.heap.size->w'.heap[j]? = w.heap[j]?) (hks:w.heap.size<=k)
 (hs:w.heap.size<=w'.heap.size) (hr:iZ P (Up D H.next (H.next+1)) (θ.add H.next k off ext) H.next o co) :
 HR P base (Up D H.next (H.next+1)) (θ.add H.next k off ext) (H.alloc o) w':=by
 have hag:=Th.eR θ H.next k off ext hn
 obtain ⟨e1,e2,e3⟩:=Th.dy θ H.next k off ext
 have old:∀ x ox,H.get x=some ox->(θ.add H.next k off ext).aN x = θ.aN x:=λ x ox hx=>(hag x (h.obj x ox hx).1).1;refine ⟨λ x ox hx=>?_,λ x y ox oy hx hy hox hne=>?_,λ x ox hx hox=>?_,λ g hg=>?_,by have:=h.low;omega⟩
 ·rw [AHeap.bR] at hx
  by_cases e:H.next=x
  ·subst e;simp only [iW,qb] at hx;subst hx;exact ⟨.inr ⟨qf _,x9 _⟩,co,by rw [e1];exact hk,hr⟩
  ·simp only [e,ve] at hx;obtain ⟨h1,c,h2,h3⟩:=h.obj x ox hx;refine ⟨.inl h1,c,?_,h3.up h1 hag Up.of⟩;rw [old x ox hx,hkeep _ (h.lt hx)];exact h2
 ·rw [AHeap.bR] at hx hy
  by_cases e:H.next=x<;>by_cases e':H.next=y
  ·exact absurd (e.symm.trans e') hne
  ·subst e;simp only [e',ve] at hy;rw [e1,old y oy hy];have:=h.lt hy;omega
  ·subst e';simp only [e,ve] at hx;rw [e1,old x ox hx];have:=h.lt hx;omega
  ·simp only [e,e',ve] at hx hy;rw [old x ox hx,old y oy hy];exact h.inj x y ox oy hx hy hox hne
 ·rw [AHeap.bR] at hx
  by_cases e:H.next=x
  ·subst e;rw [e1];have:=h.low;omega
  ·simp only [e,ve] at hx;rw [old x ox hx];exact h.gZ x ox hx hox
 ·obtain ⟨h1,h2,h3⟩:=h.dx g hg;obtain ⟨a1,a2,_⟩:=hag g h1;exact ⟨.inl h1,a1.trans h2,a2.trans h3⟩
theorem bt.alloc (h:HR P base D θ H w) (hn:¬ D H.next) (o:bg) (co:Obj) (off ext:Nat):bt D H θ w (H.alloc o) (θ.add H.next w.heap.size off ext) (w.alloc co):=by
 have hag:=Th.eR θ H.next w.heap.size off ext hn
 obtain ⟨e1,e2,e3⟩:=Th.dy θ H.next w.heap.size off ext
 refine ⟨AR _,hag,by simp,rfl,rfl,rfl,λ k hk _=>?_,λ x ox hx hox aT=>?_⟩
 ·rw [uv,qc (E8 hk)]
 ·rw [AHeap.bR] at hx
  by_cases e:H.next=x
  ·subst e;rw [e1] at aT;omega
  ·simp only [e,ve] at hx;have:=(hag x (h.obj x ox hx).1).1;exact ⟨x,ox,hx,hox,this.symm⟩
end
section
variable {P:Program} {base:Nat} {D:Nat->Prop} {θ:Th} {H:AHeap} {w:World}
theorem HR.cells (h:HR P base D θ H w) {b:Nat} {l:List AV} (hb:H.bz b=some l) :
 ∃ pre cs post e fz,w.heap[θ.aN b]? = some (.cells (pre++cs++post).toArray e fz)/\pre.length = θ.off b/\bG D θ l cs:=by
 unfold AHeap.bz at hb;cases hg:H.get b with
 | none=>rw [hg] at hb;cases hb
 | some o =>
  rw [hg] at hb;obtain ⟨_,co,hc,hr⟩:=h.obj b o hg;cases o with
  | row cells e fz ow =>
   obtain ⟨pre,cs,post,cfz,et,h1,h2,h3,_⟩:=hr;injection hb with hb;subst hb
   exact ⟨pre,cs,post,et,cfz,by rw [hc,h1],h2,h3⟩
  | grown m size cells e fz =>
   obtain ⟨pre,cs,post,cfz,h1,h2,h3,_⟩:=hr;injection hb with hb;subst hb
   exact ⟨pre,cs,post,e,cfz,by rw [hc,h1],h2,h3⟩
  | map _ _=>cases hb
  | cW _ _=>cases hb
  | loop _ _ _ _ _ _=>cases hb
  | deferred _=>cases hb
theorem xea (pre cs post:List Value) (o:Nat) {c:Value} (h:cs[o]? = some c):(pre++cs++post).toArray[pre.length+o]? = some c:=by
 have aT:=(qv.1 h).1;simp only [List.getElem?_toArray,qt];rw [xn (by omega),show pre.length+o-pre.length=o from by omega,xi aT];exact h
theorem q9d (pre cs post:List Value) (o n:Nat) (h:n<=cs.length-o):(((pre++cs++post).toArray.toList.drop (pre.length+o)).take n)=(cs.drop o).take n:=by
 simp only [qt];rw [Cr,show pre.length+o-pre.length=o from by omega,List.drop_of_length_le (l:=pre) (by omega),zn,Cr]
 by_cases ho:o<=cs.length
 ·rw [IK,show n-(cs.drop o).length=0 from by simp;omega];simp
 ·have:n=0:=by omega
  subst this;simp
theorem HR.aa (h:HR P base D θ H w) {b o:Nat} {v:AV} (hl:H.aa b o=some v) :
 ∃ c,(load ⟨θ.aN b,θ.off b+o,none⟩).run P w=.ok c w/\VR D θ v c:=by
 unfold AHeap.aa at hl;cases hc:H.bz b with
 | none=>rw [hc] at hl;cases hl
 | some l =>
  rw [hc] at hl;obtain ⟨pre,cs,post,e,fz,h1,h2,h3⟩:=h.cells hc;simp only [qd,gM] at hl;obtain ⟨c,hc1,hc2⟩:=h3.lB hl;exact ⟨c,xet h1 (by rw [<-h2];exact xea pre cs post o hc1),hc2⟩
theorem HR.au (h:HR P base D θ H w) {b o n:Nat} {l:List AV} (hl:H.au b o n=some l) :
 ∃ cs:List Value,(loadCells ⟨θ.aN b,θ.off b+o,none⟩ n).run P w=.ok cs.toArray w/\bG D θ l cs/\l.length=n:=by
 unfold AHeap.au at hl;cases hc:H.bz b with
 | none=>rw [hc] at hl;cases hl
 | some l0 =>
  rw [hc] at hl;obtain ⟨pre,cs,post,e,fz,h1,h2,h3⟩:=h.cells hc;simp only [qd,mB] at hl;split at hl
  ·rename_i hn;injection hl with hl;subst hl
   have hlen:=h3.length;refine ⟨(cs.drop o).take n,?_,(h3.drop o).take n,by simp;omega⟩;rw [<-h2,q57 h1 (pre.length+o) n (by simp;omega),q9d pre cs post o n (by omega)]
  ·cases hl
theorem q5p {v:AV} {c:Value} (h:VR D θ v c) (h1:aD v=true):c.oneCell'=true:=by
 rw [<-h.now];cases v<;>simp_all [aD,ao,Value.oneCell']
theorem mU (l:List AV):bh l=l.all aD:=by
 induction l with
 | nil=>rfl
 | cons x l ih =>
  show cond (aD x) (bh l) false=_;rw [ih];cases h:aD x<;>simp [h]
theorem qya {l:List AV} {cs:List Value} (h:bG D θ l cs) (h1:bh l=true):∀ c ∈ cs,c.oneCell'=true:=by
 intro c hc;obtain ⟨i,hi⟩:=List.getElem?_of_mem hc;rw [mU,yP] at h1;have aT:i<l.length:=by rw [<-h.length];exact (qv.1 hi).1
 obtain ⟨c',h2,h3⟩:=h.lB (za aT);rw [hi] at h2;injection h2 with h2;subst h2
 exact q5p h3 (h1 _ (List.getElem_mem aT))
end
end Go.Am
namespace Go.Am
def kQ (P:Program) (s:Sem Next) (w:World) (c:Value) (w':World):Prop:=s.run P w=.ok (.value c) w'\/(s.run P w=.ok .skip w'/\c=Go.undef)
def bT (P:Program) (o:Oper) (xs:List Operand) (f:List AV->Option AV):Prop :=
 ∀ (D:Nat->Prop) θ (ρ:Operand->Value) w vs v,bG D θ vs (xs.map ρ)->f vs=some v -> ∃ c,kQ P (execOp ρ o) w c w/\VR D θ v c
section
variable {P:Program} {w:World}
theorem zw {t:TypeId} {d:TypeDesc} (h:P.underlying t=some d):(underlying t).run P w=.ok d w:=run_underlying h w
theorem mr {t:TypeId} {n:Nat} (h:bF P t=some n):(sizeOf t).run P w=.ok n w:=by
 unfold bF at h;cases hi:P.info? t with
 | none=>rw [hi] at h;cases h
 | some i=>rw [hi] at h;injection h with h;subst h;simp [sizeOf,typeInfo,hi]
theorem OB {t:TypeId} {n:Nat} (h:bF P t=some n):∃ i,P.info? t=some i/\i.size=n:=by
 unfold bF at h;cases hi:P.info? t with
 | none=>rw [hi] at h;cases h
 | some i=>rw [hi] at h;injection h with h;exact ⟨i,rfl,h⟩
theorem LW {t:TypeId} {n:Option Nat} (h:jI P t=some n):(isAgg t).run P w=.ok n.isSome w /\ ∀ k,n=some k->(sizeOf t).run P w=.ok k w:=by
 unfold jI at h;cases hu:P.underlying t with
 | none=>rw [hu] at h;cases h
 | some d =>
  rw [hu] at h;cases d
  case struct fs =>
   simp only at h;cases hs:bF P t with
   | none=>rw [hs] at h;cases h
   | some m =>
    rw [hs] at h;injection h with h;subst h
    exact ⟨by simp [isAgg,zw hu],λ k hk=>by injection hk with hk;subst hk;exact mr hs⟩
  case array m e =>
   simp only at h;cases hs:bF P t with
   | none=>rw [hs] at h;cases h
   | some m =>
    rw [hs] at h;injection h with h;subst h
    exact ⟨by simp [isAgg,zw hu],λ k hk=>by injection hk with hk;subst hk;exact mr hs⟩
  all_goals
   (injection h with h;subst h
    exact ⟨by simp [isAgg,zw hu],λ k hk=>by cases hk⟩)
mutual
theorem Po (θ:Th):∀ (c:Value) (v:AV),d9 c=some v->ao θ v=c
 | .bool b,v,h=>by simp [d9] at h;subst h;rfl
 | .int k n,v,h=>by simp [d9] at h;subst h;rfl
 | .string s,v,h=>by simp [d9] at h;subst h;simp [ao]
 | .pointer none,v,h=>by simp [d9] at h;subst h;rfl
 | .pointer (some a),v,h=>by simp [d9] at h
 | .slice none 0 0,v,h=>by simp [d9] at h;subst h;rfl
 | .slice none 0 (n+1),v,h=>by simp [d9] at h
 | .slice none (n+1) c,v,h=>by simp [d9] at h
 | .slice (some a) n c,v,h=>by simp [d9] at h
 | .map none,v,h=>by simp [d9] at h;subst h;rfl
 | .map (some r),v,h=>by simp [d9] at h
 | .nilFunc,v,h=>by simp [d9] at h;subst h;rfl
 | .nilIface,v,h=>by simp [d9] at h;subst h;rfl
 | .iface t x,v,h=>by
  simp only [d9] at h;cases hx:d9 x with
  | none=>rw [hx] at h;cases h
  | some y=>rw [hx] at h;injection h with h;subst h;simp [ao,Po θ x y hx]
 | .agg cs,v,h=>by
  simp only [d9] at h;cases hx:iQ cs.toList with
  | none=>rw [hx] at h;cases h
  | some l=>rw [hx] at h;injection h with h;subst h;simp [ao,NX θ cs.toList l hx]
 | .tuple cs,v,h=>by
  simp only [d9] at h;cases hx:iQ cs.toList with
  | none=>rw [hx] at h;cases h
  | some l=>rw [hx] at h;injection h with h;subst h;simp [ao,NX θ cs.toList l hx]
 | .float _ _,v,h=>by simp [d9] at h
 | .complex _ _ _,v,h=>by simp [d9] at h
 | .chan _,v,h=>by simp [d9] at h
 | .func _ _ _,v,h=>by simp [d9] at h
theorem NX (θ:Th):∀ (cs:List Value) (l:List AV),iQ cs=some l->bM θ l=cs
 | [],l,h=>by simp [iQ] at h;subst h;rfl
 | c::cs,l,h=>by
  simp only [iQ] at h;cases hx:d9 c with
  | none=>rw [hx] at h;cases h
  | some y =>
   rw [hx] at h;simp only [qd] at h;cases hy:iQ cs with
   | none=>rw [hy] at h;cases h
   | some ys=>rw [hy] at h;injection h with h;subst h;simp [bM,Po θ c y hx,NX θ cs ys hy]
end
theorem LZ {D:Nat->Prop} {θ:Th} {c:Value} {v:AV} (h:d9 c=some v):VR D θ v c:=λ θ' _=>Po θ' c v h
theorem Ez {t:TypeId} {z:AV} (h:zeroOf P t=some z):∃ c,(zeroValue t).run P w=.ok c w /\ ∀ D θ,VR D θ z c:=by
 unfold zeroOf at h;cases hi:P.info? t with
 | none=>rw [hi] at h;cases h
 | some i =>
  rw [hi] at h;simp only [qd] at h;cases hz:i.zero with
  | none=>rw [hz] at h;cases h
  | some c=>rw [hz] at h;exact ⟨c,by simp [zeroValue,typeInfo,hi,hz],λ D θ=>LZ h⟩
end
section
variable {D:Nat->Prop} {θ:Th}
theorem VR.cells {v:AV} {c:Value} (h:VR D θ v c):bG D θ v.cells c.cells.toList:=by
 intro θ' ha;have h1:=h θ' ha;subst h1;cases v<;>simp [AV.cells,ao,Value.cells,bM]
end
section
variable {P:Program} {D:Nat->Prop} {θ:Th} {ρ:Operand->Value} {w:World}
theorem bG.fM {x:Operand} {vs:List AV} (h:bG D θ vs ([x].map ρ)):∃ v,vs=[v]/\VR D θ v (ρ x):=by
 cases vs with
 | nil=>have:=h.length;simp at this
 | cons v vs =>
  obtain ⟨c,cs,h1,h2,h3⟩:=h.cT;simp only [xx,kw,xc] at h1;obtain ⟨rfl,rfl⟩:=h1;have:=h3.length;cases vs with
  | nil=>exact ⟨v,rfl,h2⟩
  | cons _ _=>simp at this
theorem bG.nP {x y:Operand} {vs:List AV} (h:bG D θ vs ([x,y].map ρ)):∃ a b,vs=[a,b]/\VR D θ a (ρ x)/\VR D θ b (ρ y):=by
 cases vs with
 | nil=>have:=h.length;simp at this
 | cons v vs =>
  obtain ⟨c,cs,h1,h2,h3⟩:=h.cT;simp only [xx,kw,xc] at h1;obtain ⟨rfl,rfl⟩:=h1;obtain ⟨b,rfl,hb⟩:=bG.fM (ρ:=ρ) (x:=y) h3;exact ⟨v,b,rfl,h2,hb⟩
theorem bG.mS {x y z:Operand} {vs:List AV} (h:bG D θ vs ([x,y,z].map ρ)):∃ a b c,vs=[a,b,c]/\VR D θ a (ρ x)/\VR D θ b (ρ y)/\VR D θ c (ρ z):=by
 cases vs with
 | nil=>have:=h.length;simp at this
 | cons v vs =>
  obtain ⟨c,cs,h1,h2,h3⟩:=h.cT;simp only [xx,kw,xc] at h1;obtain ⟨rfl,rfl⟩:=h1;obtain ⟨a,b,rfl,ha,hb⟩:=bG.nP (ρ:=ρ) (x:=y) (y:=z) h3;exact ⟨v,a,b,rfl,h2,ha,hb⟩
theorem q50 {o:Oper} {x:Operand} (ho:o.op=.move x\/o.op=.assign x):bT P o [x] Op.move:=by
 intro D θ ρ w vs v h hf;obtain ⟨a,rfl,ha⟩:=bG.fM h;simp only [Op.move,qb] at hf;subst hf;refine ⟨ρ x,.inl ?_,ha⟩;rcases ho with ho|ho<;>simp [execOp,ho]
theorem xen {o:Oper} {c a b:Operand} (ho:o.op=.pick c a b):bT P o [c,a,b] Op.pick:=by
 intro D θ ρ w vs v h hf;obtain ⟨q,x,y,rfl,hq,hx,hy⟩:=bG.mS h;unfold Op.pick at hf;split at hf
 ·rename_i b' x' y' heq;injection heq with h1 h2;subst h1;injection h2 with h2 h3;subst h2;injection h3 with h3 _;subst h3
  injection hf with hf;subst hf
  have hb:ρ c=.bool b':=hq.now.symm;cases b'
  ·exact ⟨ρ b,.inl (by simp [execOp,ho,hb,asBool]),hy⟩
  ·exact ⟨ρ a,.inl (by simp [execOp,ho,hb,asBool]),hx⟩
 ·cases hf
theorem zV {o:Oper} {op:UnOp} {t:TypeId} {x:Operand} (ho:o.op=.unOp op t x):bT P o [x] (Op.un op):=by
 intro D θ ρ w vs v h hf;obtain ⟨a,rfl,ha⟩:=bG.fM h;simp only [Op.un,unV] at hf;have hr:=ha.now;split at hf
 ·rename_i k n;injection hf with hf;subst hf
  exact ⟨_,.inl (by simp [execOp,ho,<-hr,ao,Go.Op.unary,Go.Op.intArith]<;>rfl),.int _ _⟩
 ·rename_i k n;simp only [ef] at hf;injection hf with hf;subst hf
  exact ⟨_,.inl (by simp [execOp,ho,<-hr,ao,Go.Op.unary,Go.Op.intBits]<;>rfl),.int _ _⟩
 ·injection hf with hf;subst hf
  exact ⟨_,.inl (by simp [execOp,ho,<-hr,ao,Go.Op.unary]),.bool _⟩
 ·cases hf
theorem xeo {o:Oper} {src dst:TypeId} {x:Operand} {k j:IntKind} (ho:o.op=.convert src dst x) (h1:P.underlying src=some (.int j)) (h2:P.underlying dst=some (.int k)):bT P o [x] (Op.wrap k):=by
 intro D θ ρ w vs v h hf;obtain ⟨a,rfl,ha⟩:=bG.fM h;have hr:=ha.now;unfold Op.wrap at hf;split at hf
 ·rename_i k' n heq;injection heq with heq;subst heq
  injection hf with hf;subst hf
  exact ⟨_,.inl (by simp [execOp,ho,<-hr,ao,convert,zw h1,zw h2,Conv.intToInt]<;>rfl),.int _ _⟩
 ·cases hf
theorem q5z {o:Oper} {t:TypeId} {x:Operand} (ho:o.op=.makeInterface t x) (ht:∃ d,P.underlying t=some d/\(match d with | .interface _=>false|_=>true)=true):bT P o [x] (Op.cM t):=by
 intro D θ ρ w vs v h hf;obtain ⟨a,rfl,ha⟩:=bG.fM h;simp only [Op.cM,qb] at hf;subst hf;obtain ⟨d,hd,hd2⟩:=ht;refine ⟨.iface t (ρ x),.inl ?_,ha.iface⟩;cases d<;>simp_all [execOp,Instr.makeInterface,zw hd]
theorem q7s {o:Oper} {f:FuncId} {a b:Array Operand} (ho:o.op=.makeFunc (.func f) a b):bT P o (a.toList++b.toList) (Op.bm f a.size):=by
 intro D θ ρ w vs v h hf;simp only [Op.bm,qb] at hf;subst hf;refine ⟨.func (.func f) (a.map ρ) (b.map ρ),.inl (by simp [execOp,ho,Instr.makeFunc]),λ θ' hg=>?_⟩;have h1:=(h.take a.size) θ' hg;have h2:=(h.drop a.size) θ' hg;simp only [ao,dU,h1,h2];congr 1
 ·rw [Ce,Jh (by simp)];apply yL;simp [xo]
 ·rw [Ce,LC (by simp)];apply yL;simp [List.drop_of_length_le]
theorem q5x {o:Oper} {x:Operand} {i:Nat} (ho:o.op=.extract x i):bT P o [x] (Op.extract i):=by
 intro D θ ρ w vs v h hf;obtain ⟨a,rfl,ha⟩:=bG.fM h;unfold Op.extract at hf;split at hf
 ·rename_i l heq;injection heq with heq;subst heq
  obtain ⟨cs,hc,hl⟩:=ha.re;rw [gM] at hf;obtain ⟨c,hc1,hc2⟩:=hl.lB hf;exact ⟨c,.inl (by simp [execOp,ho,hc,Instr.extract,hc1]),hc2⟩
 ·cases hf
theorem uZ {x:AV} {n:Nat} {c:Value} (h:VR D θ x c) (hl:dE x=some n):(Builtin.lenOf c).run P w=.ok n w/\(match c with | .string s=>s.size=n | .slice _ m _=>m=n|_=>False):=by
 have hr:=h.now;subst hr;cases x<;>simp_all [dE,ao,Builtin.lenOf,nU,ByteArray.size]
theorem xY {o:Oper} {c:Call} {b:Builtin} (ho:o.op=.call c) (hc:c.callee=.builtin b) :
 ∃ consts,execOp ρ o=builtin b c.argTypes o.type consts (c.args.map ρ):=by
 refine ⟨c.args.map λ | .const _=>true|_=>false,?_⟩;simp only [execOp,ho,resolve,hc,invoke];rfl
theorem mh {c:Call} {xs:List Operand} (hx:c.args.toList=xs):c.args.map ρ = (xs.map ρ).toArray:=by
 subst hx;apply yL;simp
theorem bG.eI {xs:List Operand} {a:AV} (h:bG D θ [a] (xs.map ρ)):∃ x,xs=[x]/\VR D θ a (ρ x):=by
 have:=h.length
 match xs,this,h with
 | [x],_,h=>obtain ⟨_,heq,ha⟩:=bG.fM h;injection heq with heq _;subst heq;exact ⟨x,rfl,ha⟩
theorem bG.gu {xs:List Operand} {a b:AV} (h:bG D θ [a,b] (xs.map ρ)):∃ x y,xs=[x,y]/\VR D θ a (ρ x)/\VR D θ b (ρ y):=by
 have:=h.length
 match xs,this,h with
 | [x,y],_,h =>
  obtain ⟨_,_,heq,ha,hb⟩:=bG.nP h;injection heq with h1 h2;injection h2 with h2 _;subst h1;subst h2;exact ⟨x,y,rfl,ha,hb⟩
theorem qN (s:List UInt8):(⟨s.toArray⟩:ByteArray).size=s.length:=by simp [ByteArray.size]
theorem q7r {o:Oper} {c:Call} {xs:List Operand} {t:TypeId} (ho:o.op=.call c) (hc:c.callee=.builtin .len) (hx:c.args.toList=xs) (ht:c.argTypes[0]? = some t)
 (hu:P.underlying t=some .string):bT P o xs Op.dj:=by
 intro D θ ρ w vs v h hf;unfold Op.dj at hf;split at hf
 ·rename_i s;obtain ⟨x,rfl,ha⟩:=h.eI;injection hf with hf;subst hf
  obtain ⟨consts,he⟩:=xY (ρ:=ρ) ho hc;refine ⟨_,.inl ?_,.int _ _⟩;rw [he,mh hx];simp [builtin,Builtin.len_,zw hu,ht,<-ha.now,ao,goInt,qN,nU]<;>rfl
 ·cases hf
theorem xbr {o:Oper} {c:Call} {xs:List Operand} {t e:TypeId} (ho:o.op=.call c) (hc:c.callee=.builtin .len) (hx:c.args.toList=xs) (ht:c.argTypes[0]? = some t)
 (hu:P.underlying t=some (.slice e)):bT P o xs Op.aS:=by
 intro D θ ρ w vs v h hf;obtain ⟨consts,he⟩:=xY (ρ:=ρ) ho hc;unfold Op.aS at hf;split at hf
 ·obtain ⟨x,rfl,ha⟩:=h.eI;injection hf with hf;subst hf
  refine ⟨_,.inl ?_,.int _ _⟩;rw [he,mh hx];simp [builtin,Builtin.len_,zw hu,ht,<-ha.now,ao,goInt]<;>rfl
 ·obtain ⟨x,rfl,ha⟩:=h.eI;injection hf with hf;subst hf
  refine ⟨_,.inl ?_,.int _ _⟩;rw [he,mh hx];simp [builtin,Builtin.len_,zw hu,ht,<-ha.now,ao,goInt]<;>rfl
 ·obtain ⟨x,rfl,ha⟩:=h.eI;injection hf with hf;subst hf
  refine ⟨_,.inl ?_,.int _ _⟩;rw [he,mh hx];simp [builtin,Builtin.len_,zw hu,ht,<-ha.now,ao,goInt]<;>rfl
 ·obtain ⟨x,rfl,ha⟩:=h.eI;injection hf with hf;subst hf
  refine ⟨_,.inl ?_,.int _ _⟩;rw [he,mh hx];simp [builtin,Builtin.len_,zw hu,ht,<-ha.now,ao,goInt]<;>rfl
 ·cases hf
theorem wD {o:Oper} {c:Call} {xs:List Operand} {t e:TypeId} (ho:o.op=.call c) (hc:c.callee=.builtin .cap) (hx:c.args.toList=xs) (ht:c.argTypes[0]? = some t)
 (hu:P.underlying t=some (.slice e)):bT P o xs Op.cap:=by
 intro D θ ρ w vs v h hf;obtain ⟨consts,he⟩:=xY (ρ:=ρ) ho hc;unfold Op.cap at hf;split at hf
 ·obtain ⟨x,rfl,ha⟩:=h.eI;injection hf with hf;subst hf
  refine ⟨_,.inl ?_,.int _ _⟩;rw [he,mh hx];simp [builtin,Builtin.cap_,zw hu,ht,<-ha.now,ao,goInt]<;>rfl
 ·obtain ⟨x,rfl,ha⟩:=h.eI;injection hf with hf;subst hf
  refine ⟨_,.inl ?_,.int _ _⟩;rw [he,mh hx];simp [builtin,Builtin.cap_,zw hu,ht,<-ha.now,ao,goInt]<;>rfl
 ·cases hf
theorem xav {op:BinOp} {k:IntKind} {a b:Int} {v:AV} (hs:df op=false) (h:ef op k a b=some v) (t:TypeId) :
 ∃ c,(binOp op t (.int k a) (.int k b)).run P w=.ok c w/\VR D θ v c:=by
 cases op<;>simp only [ef,df,qb,rH,p8,pN,Bool.true_eq_false] at h hs
 case quo =>
  cases hb:(b == 0)<;>rw [hb] at h<;>simp at h;subst h;exact ⟨_,by simp [binOp,Go.Op.intDiv,by simpa using hb]<;>rfl,.int _ _⟩
 case rem =>
  cases hb:(b == 0)<;>rw [hb] at h<;>simp at h;subst h;exact ⟨_,by simp [binOp,Go.Op.intDiv,by simpa using hb]<;>rfl,.int _ _⟩
 all_goals
  subst h
  first|refine ⟨_,?_,VR.int _ _⟩|refine ⟨_,?_,VR.bool _⟩
  simp only [binOp,ne_eq,zG,ve,Go.Op.intBits,Go.Op.intArith,Go.Op.intCmp];rfl
theorem q4g (a b:List UInt8):bytesLess a b=Go.Op.bytesLess a b:=by
 induction a generalizing b with
 | nil=>cases b<;>rfl
 | cons x a ih=>cases b with
  | nil=>rfl
  | cons y b =>
   simp only [bytesLess,Go.Op.bytesLess,ih,Pk];congr 1;rw [Bool.eq_iff_iff];simp [UInt8.lt_iff_toNat_lt]
theorem Ml (s:List UInt8):(⟨s.toArray⟩:ByteArray).toList=s:=by rw [ByteArray.toList_eq]
theorem xcc {op:BinOp} {a b:List UInt8} {v:AV} (h:jD op a b=some v) (t:TypeId) :
 ∃ c,(binOp op t (.string ⟨a.toArray⟩) (.string ⟨b.toArray⟩)).run P w=.ok c w/\VR D θ v c:=by
 cases op<;>simp only [jD,qb,reduceCtorEq,Di,q4g] at h
 case add =>
  cases hb:Nat.ble (a.length+b.length) 140737488355328<;>rw [hb] at h<;>simp at h;subst h;have hle:a.length+b.length<=140737488355328:=by simpa [wq] using hb
  refine ⟨.string (⟨a.toArray⟩++⟨b.toArray⟩),?_,λ θ' _=>?_⟩
  ·simp only [binOp,Go.Op.stringOp,qN,Sem.run_ite];rw [qc (by simp [IntKind.max,IntKind.bits,IntKind.signed];omega)];rfl
  ·show Value.string ⟨(a++b).toArray⟩=_;congr 1
 all_goals
  subst h;exact ⟨_,by simp [binOp,Go.Op.stringOp,Ml]<;>rfl,.bool _⟩
theorem q9i {o:Oper} {op:BinOp} {t t':TypeId} {x y:Operand} (ho:o.op=.binOp op t x y t'):bT P o [x,y] (Op.bin op):=by
 intro D θ ρ w vs v h hf;obtain ⟨a,b,rfl,ha,hb⟩:=bG.nP h;simp only [Op.bin,iH] at hf;have hra:=ha.now;have hrb:=hb.now;have guard:∀ (u u':Value),(∀ l,u ≠ .agg l)->u ≠ .nilIface->(eqGuard op t x y u u').run P w=.ok () w:=by
  intro u u' h1 h2;unfold eqGuard;cases u<;>cases op<;>simp_all
 split at hf
 ·rename_i k a k' b;cases hs:df op
  ·rw [hs] at hf;simp only [xa,Lf] at hf
   by_cases hk:k=k'
   ·subst hk;simp only [rW,ql] at hf;obtain ⟨c,hc,hv⟩:=xav (P:=P) (w:=w) (D:=D) (θ:=θ) hs hf t;refine ⟨c,.inl ?_,hv⟩;have hg:=guard (.int k a) (.int k b) (λ _=>by simp) (by simp);simp [execOp,ho,<-hra,<-hrb,ao,hg,hc]
   ·simp [hk] at hf
  ·rw [hs] at hf;simp only [ql,nL,p8] at hf
   by_cases hb0:b<0
   ·simp [hb0] at hf
   ·simp only [hb0,rP,xa] at hf;have hg:=guard (.int k a) (.int k' b) (λ _=>by simp) (by simp);cases op<;>simp only [df,jc,Bool.true_eq_false] at hs
    all_goals
     injection hf with hf;subst hf
     exact ⟨_,.inl (by simp [execOp,ho,<-hra,<-hrb,ao,hg,binOp,Go.Op.shift,hb0]<;>rfl),.int _ _⟩
 ·rename_i a b;obtain ⟨c,hc,hv⟩:=xcc (P:=P) (w:=w) (D:=D) (θ:=θ) hf t;have hg:=guard (.string ⟨a.toArray⟩) (.string ⟨b.toArray⟩) (λ _=>by simp) (by simp);exact ⟨c,.inl (by simp [execOp,ho,<-hra,<-hrb,ao,hg,hc]),hv⟩
 ·cases hf
end
end Go.Am
namespace Go.Am
section
variable {P:Program} {D:Nat->Prop} {θ:Th} {ρ:Operand->Value} {w:World}
theorem E4 {t:TypeId} {l:List AV} {cs:List Value} {off:Nat} {n:Option Nat} {v:AV} (hn:jI P t=some n) (hl:bG D θ l cs) (h:partAt l off n=some v) :
 ∃ c,(part t cs.toArray off).run P w=.ok c w/\VR D θ v c:=by
 obtain ⟨h1,h2⟩:=LW (w:=w) hn;cases n with
 | none =>
  simp only [partAt,gM] at h;obtain ⟨c,hc,hv⟩:=hl.lB h;exact ⟨c,by simp [part,h1,hc],hv⟩
 | some k =>
  simp only [partAt,mB] at h;split at h
  ·rename_i hk;injection h with h;subst h
   refine ⟨.agg ((cs.drop off).take k).toArray,?_,VR.agg ((hl.drop off).take k)⟩;have hlen:=hl.length;simp only [part,Sem.run_bind,h1,Result.andThen_ok,Option.isSome_some,iW,h2 k rfl];simp only [Sem.run_pure,Result.ok.injEq,Value.agg.injEq,kr];apply yL;simp [Array.toList_extract,List.extract,List.drop_take,CH]
  ·cases h
theorem KI {i:Int} {n k:Nat} (h:within i n=some k):i=(k:Int)/\k<n:=by
 unfold within at h;cases i with
 | ofNat m =>
  simp only at h;cases hb:Nat.blt m n<;>rw [hb] at h
  ·cases h
  ·injection h with h;subst h;exact ⟨rfl,by simpa [mW] using hb⟩
 | negSucc m=>cases h
theorem q0n {o:Oper} {t:TypeId} {x:Operand} {i:Nat} {fs:Array Field} {f:Field} {n:Nat} (ho:o.op=.fieldAddr t x i) (ht:P.underlying t=some (.struct fs)) (hf:fs[i]? = some f) (hn:bF P f.type=some n) (hn0:n ≠ 0) :
 bT P o [x] (Op.fieldAddr f.offset):=by
 intro D θ ρ w vs v h hv;unfold Op.fieldAddr at hv;split at hv
 ·rename_i b ofs;obtain ⟨y,heq,ha⟩:=h.eI;injection heq with heq _;subst heq
  injection hv with hv;subst hv
  have hr:=ha.now;refine ⟨.pointer (some ⟨θ.aN b,θ.off b+ofs+f.offset,none⟩),.inl ?_,λ θ' hg=>?_⟩
  ·simp [execOp,ho,Instr.fieldAt,zw ht,hf,<-hr,ao,Instr.sureAddr,fieldPlace,mr hn,hn0,o7]
  ·have:=ha θ' hg;rw [<-hr] at this;simp [ao] at this ⊢;omega
 ·cases hv
theorem q3m {o:Oper} {t e:TypeId} {x i:Operand} {len size:Nat} {n:Option Nat} (ho:o.op=.index t x i) (ht:P.underlying t=some (.array len e)) (hs:bF P e=some size) (hn:jI P e=some n) :
 bT P o [x,i] (Op.eH len size n):=by
 intro D θ ρ w vs v h hv;unfold Op.eH at hv;split at hv
 ·rename_i l k j;obtain ⟨y,z,heq,ha,hb⟩:=h.gu;injection heq with h1 h2;injection h2 with h2 _;subst h1;subst h2
  cases hw:within j len with
  | none=>rw [hw] at hv;cases hv
  | some m =>
   rw [hw] at hv;obtain ⟨rfl,aT⟩:=KI hw;obtain ⟨cs,hc,hl⟩:=ha.dJ;obtain ⟨c,h1,h2⟩:=E4 (w:=w) hn hl hv;refine ⟨c,.inl ?_,h2⟩;have hi:(0:Int)<=(m:Int)/\(m:Int)<(len:Int):=by omega
   simp [execOp,ho,Instr.index,zw ht,hc,<-hb.now,ao,asIntOf,hi,mr hs,h1];intro hh;omega
 ·cases hv
theorem q3o {o:Oper} {t:TypeId} {x i:Operand} (ho:o.op=.index t x i) (ht:P.underlying t=some .string):bT P o [x,i] Op.aY:=by
 intro D θ ρ w vs v h hv;unfold Op.aY at hv;split at hv
 ·rename_i s k j;obtain ⟨y,z,heq,ha,hb⟩:=h.gu;injection heq with h1 h2;injection h2 with h2 _;subst h1;subst h2
  cases hw:within j s.length with
  | none=>rw [hw] at hv;cases hv
  | some m =>
   rw [hw] at hv;obtain ⟨rfl,aT⟩:=KI hw;simp only [qd,gM] at hv;obtain ⟨u,hu⟩:∃ u,s[m]? = some u:=⟨_,za aT⟩
   rw [hu] at hv;injection hv with hv;subst hv
   refine ⟨.int .u8 u.toNat,.inl ?_,.int _ _⟩;have h0:(0:Int)<=(m:Int):=by omega
   have hg:getElem? (⟨s.toArray⟩:ByteArray) m=some u:=by
    have hz:m<(⟨s.toArray⟩:ByteArray).size:=by rw [qN];exact aT
    rw [getElem?_pos (⟨s.toArray⟩:ByteArray) m hz];have h9:=(qv.1 hu).2;simp only [qb];exact h9
   simp [execOp,ho,Instr.index,zw ht,<-ha.now,<-hb.now,ao,asIntOf,h0,hg]
 ·cases hv
theorem qyo {x:AV} {c:Value} {size j b o:Nat} (h:VR D θ x c) (he:elemAt size x j=some (b,o)) :
 ∃ n m,c=.slice (some ⟨θ.aN b,θ.off b+o-j*size,none⟩) n m/\j<n/\j*size<=o/\(∀ θ',Ag D θ θ' -> θ'.aN b = θ.aN b /\ θ'.off b+o = θ.off b+o):=by
 have hr:=h.now;unfold elemAt at he;split at he
 ·rename_i b' o' n' c';cases hb:Nat.blt j n'<;>rw [hb] at he
  ·cases he
  ·simp only [ql,qb,qu] at he;obtain ⟨rfl,rfl⟩:=he;refine ⟨n',c',?_,by simpa [mW] using hb,by omega,λ θ' ha=>?_⟩
   ·rw [<-hr];simp only [ao];congr 3;omega
   ·have:=h θ' ha;rw [<-hr] at this;simp only [ao,Value.slice.injEq,qb,Addr.mk.injEq] at this;omega
 ·rename_i b' i' m' s' alt' n';cases hb:(Nat.blt j n' && Nat.beq s' size && Nat.blt (i'+j) m')<;>rw [hb] at he
  ·cases he
  ·simp only [ql,qb,qu] at he;obtain ⟨rfl,rfl⟩:=he;simp only [qx,mW,zz] at hb;obtain ⟨⟨h1,rfl⟩,h3⟩:=hb;refine ⟨n',m'-i' + θ.ext b',?_,h1,by omega,λ θ' ha=>?_⟩
   ·rw [<-hr];simp only [ao];rw [qc (by omega)];congr 3;omega
   ·have:=h θ' ha;rw [<-hr] at this;simp only [ao,Value.slice.injEq,qb,Addr.mk.injEq] at this;rw [qc (by omega),qc (by omega)] at this;omega
 ·cases he
theorem q5y {o:Oper} {t e:TypeId} {x i:Operand} {size:Nat} (ho:o.op=.indexAddr t x i) (ht:P.underlying t=some (.slice e)) (hs:bF P e=some size) :
 bT P o [x,i] (Op.aJ size):=by
 intro D θ ρ w vs v h hv;unfold Op.aJ at hv;split at hv
 ·rename_i a k j;obtain ⟨y,z,heq,ha,hb⟩:=h.gu;injection heq with h1 h2;injection h2 with h2 _;subst h1;subst h2
  cases hl:dE a with
  | none=>rw [hl] at hv;cases hv
  | some n0 =>
   rw [hl] at hv;simp only [qd] at hv;cases hw:within j n0 with
   | none=>rw [hw] at hv;cases hv
   | some m =>
    rw [hw] at hv;simp only [qd] at hv;obtain ⟨rfl,aT⟩:=KI hw;cases he:elemAt size a m with
    | none=>rw [he] at hv;cases hv
    | some p =>
     obtain ⟨b,ofs⟩:=p;rw [he] at hv;injection hv with hv;subst hv
     obtain ⟨n,c,hc,hjn,hle,hst⟩:=qyo ha he;refine ⟨.pointer (some ⟨θ.aN b,θ.off b+ofs,none⟩),.inl ?_,λ θ' hg=>?_⟩
     ·have hi:(0:Int)<=(m:Int)/\(m:Int)<(n:Int):=by omega
      have heq:θ.off b+ofs-m*size+m*size = θ.off b+ofs:=by omega
      simp [execOp,ho,Instr.indexAt,zw ht,hc,<-hb.now,ao,asIntOf,hi,mr hs,o7,heq];intro hh;omega
     ·obtain ⟨h1,h2⟩:=hst θ' hg;simp only [ao,h1,h2]
 ·cases hv
theorem q3n {o:Oper} {t e:TypeId} {x i:Operand} {len size:Nat} (ho:o.op=.indexAddr t x i) (ht:P.underlying t=some (.array len e)) (hs:bF P e=some size) :
 bT P o [x,i] (Op.bp len size):=by
 intro D θ ρ w vs v h hv;unfold Op.bp at hv;split at hv
 ·rename_i b ofs k j;obtain ⟨y,z,heq,ha,hb⟩:=h.gu;injection heq with h1 h2;injection h2 with h2 _;subst h1;subst h2
  cases hw:within j len with
  | none=>rw [hw] at hv;cases hv
  | some m =>
   rw [hw] at hv;injection hv with hv;subst hv
   obtain ⟨rfl,aT⟩:=KI hw;have hi:(0:Int)<=(m:Int)/\(m:Int)<(len:Int):=by omega
   refine ⟨.pointer (some ⟨θ.aN b,θ.off b+ofs+m*size,none⟩),.inl ?_,λ θ' hg=>?_⟩
   ·simp [execOp,ho,Instr.indexAt,zw ht,<-ha.now,<-hb.now,ao,asIntOf,Instr.sureAddr,hi,mr hs,o7];intro hh;omega
   ·have:=ha θ' hg;rw [<-ha.now] at this;simp [ao] at this ⊢;omega
 ·cases hv
theorem q3p {o:Oper} {x:Operand} (ho:o.op=.nilCheck x):bT P o [x] Op.nilCheck:=by
 intro D θ ρ w vs v h hv;obtain ⟨a,rfl,ha⟩:=bG.fM h;have hr:=ha.now;unfold Op.nilCheck at hv;split at hv
 ·cases hv
 ·cases hv
 ·cases hv
 ·rename_i f a1 b1 heq;injection heq with heq;subst heq
  injection hv with hv;subst hv
  exact ⟨ρ x,.inl (by simp [execOp,ho,<-hr,ao,dU]),ha⟩
 ·cases hv
 ·rename_i a' h1 h2 h3 h4 h5 heq;injection heq with heq;subst heq
  injection hv with hv;subst hv
  refine ⟨ρ x,.inl ?_,ha⟩;have hρ:=hr.symm;clear hr ha h;cases a
  case nilp=>exact absurd rfl h1
  case nili=>exact absurd rfl h2
  case nilf=>exact absurd rfl h3
  case fn f' a' b'=>exact absurd rfl (h5 f' a' b')
  all_goals (simp only [ao] at hρ;simp [execOp,ho,hρ])
 ·cases hv
theorem qzv {o:Oper} {x:Operand} {t xt:TypeId} {ok:Bool} {z:AV} {d:TypeDesc} (ho:o.op=.typeAssert x xt t ok) (ht:P.underlying t=some d) (hd:(match d with | .interface _=>false|_=>true)=true) (hz:zeroOf P t=some z) :
 bT P o [x] (Op.typeAssert t ok z):=by
 intro D θ ρ w vs v h hv;obtain ⟨zc,hz1,hz2⟩:=Ez (w:=w) hz;unfold Op.typeAssert at hv;split at hv
 ·obtain ⟨y,heq,ha⟩:=h.eI;injection heq with heq _;subst heq
  cases ok
  ·cases hv
  ·injection hv with hv;subst hv
   refine ⟨.tuple #[zc,.bool false],.inl ?_,VR.tuple (bG.cons (hz2 D θ) (.one (.bool false)))⟩;cases d<;>simp_all [execOp,Instr.typeAssert,zw ht,<-ha.now,ao]
 ·rename_i u a;obtain ⟨y,heq,ha⟩:=h.eI;injection heq with heq _;subst heq
  obtain ⟨ac,hac,hav⟩:=ha.gf;cases hb:Nat.beq u t
  ·rw [hb] at hv;cases ok
   ·cases hv
   ·injection hv with hv;subst hv
    have hne:¬ u=t:=by intro e;subst e;simp at hb
    refine ⟨.tuple #[zc,.bool false],.inl ?_,VR.tuple (bG.cons (hz2 D θ) (.one (.bool false)))⟩;cases d<;>simp_all [execOp,Instr.typeAssert,zw ht,ao]
  ·rw [hb] at hv;have he:u=t:=by simpa [zz] using hb
   injection hv with hv;subst hv
   cases ok
   ·refine ⟨ac,.inl ?_,hav⟩;cases d<;>simp_all [execOp,Instr.typeAssert,zw ht,ao]
   ·refine ⟨.tuple #[ac,.bool true],.inl ?_,VR.tuple (bG.cons hav (.one (.bool true)))⟩;cases d<;>simp_all [execOp,Instr.typeAssert,zw ht,ao]
 ·cases hv
theorem q86 (off:Nat):∀ (cs:List Value) (j:Nat) (arr:List Value),off+j+cs.length<=arr.length ->
 ((cs.zipIdx j).foldl (λ acc (p:Value × Nat)=>acc.setIfInBounds (off+p.2) p.1) arr.toArray)=(arr.take (off+j)++cs++arr.drop (off+j+cs.length)).toArray
 | [],j,arr,_=>by simp
 | c::cs,j,arr,h=>by
  simp only [List.zipIdx_cons,EO,List.setIfInBounds_toArray];rw [q86 off cs (j+1) (arr.set (off+j) c) (by simp at h ⊢;omega)];congr 1;have ee:=list_seg_step arr (off+j) c cs (by simp at h ⊢;omega)
  simpa [vj] using ee
theorem xdu (off:Nat) (cs:Array Value) (arr:List Value) (h:off+cs.size<=arr.length) :
 (cs.zipIdx.foldl (λ acc (p:Value × Nat)=>acc.setIfInBounds (off+p.2) p.1) arr.toArray)=(arr.take off++cs.toList++arr.drop (off+cs.size)).toArray:=by
 have:=q86 off cs.toList 0 arr (by simpa using h);rw [<-Array.foldl_toList]
 simpa using this
theorem MM:∀ (places:List (Nat × Nat)) (vs:List AV) (parts:List (Nat × Operand)) (pl:Nat->Option (Nat × Nat)) (out:List AV),
 ta pl parts=some places->bG D θ vs (parts.map λ p=>ρ p.2) -> ∀ (cells:List AV) (ccells:List Value),bG D θ cells ccells->cY cells places vs=some out ->
 ∃ cout:List Value,Instr.fill pl ccells.toArray (parts.map λ p=>(p.1,ρ p.2))=some cout.toArray/\bG D θ out cout:=by
 intro places vs parts
 induction parts generalizing places vs with
 | nil =>
  intro pl out hp hv cells ccells hc hf;simp only [ta,qb] at hp;subst hp;have:vs=[]:=by have:=hv.length;simp at this;exact List.eq_nil_of_length_eq_zero (by omega)
  subst this;simp only [cY,qb] at hf;subst hf;exact ⟨ccells,rfl,hc⟩
 | cons p parts ih =>
  intro pl out hp hv cells ccells hc hf;obtain ⟨i,x⟩:=p;simp only [ta] at hp;cases hpl:pl i with
  | none=>rw [hpl] at hp;cases hp
  | some q =>
   obtain ⟨off,size⟩:=q;rw [hpl] at hp;simp only [qd] at hp;cases hr:ta pl parts with
   | none=>rw [hr] at hp;cases hp
   | some l =>
    rw [hr] at hp;injection hp with hp;subst hp
    cases vs with
    | nil=>simp only [cY] at hf;cases hf
    | cons v vs =>
     obtain ⟨c,cs',h1,h2,h3⟩:=hv.cT;simp only [xx,xc] at h1;obtain ⟨rfl,rfl⟩:=h1;simp only [cY,nU] at hf;cases hb:Nat.beq v.cells.length size
     ·rw [hb] at hf;cases hf
     ·rw [hb] at hf;simp only [ql,sd] at hf;have hcells:=h2.cells;have hlen:=hcells.length;have hsz:(ρ x).cells.size=size:=by rw [<-wx,hlen];simpa [zz] using hb
      split at hf
      ·rename_i hle;simp only [qd] at hf;have hcl:=hc.length;have hnew:bG D θ (cells.take off++v.cells++cells.drop (off+v.cells.length)) (ccells.take off++(ρ x).cells.toList++ccells.drop (off+v.cells.length)) :=
        ((hc.take off).app hcells).app (hc.drop _)
       obtain ⟨cout,h5,h6⟩:=ih l vs pl out hr h3 _ _ hnew hf;refine ⟨cout,?_,h6⟩;simp only [xx,Instr.fill,hpl];rw [qc (by simp only [Ia];rw [hsz];rw [<-wx] at hsz;simp;omega)];rw [<-h5];congr 1;have hla:=xdu off (ρ x).cells ccells (by rw [<-wx];omega);rw [show v.cells.length=(ρ x).cells.size from by rw [<-wx];omega];exact hla
      ·cases hf
theorem xej (parts:Array (Nat × Operand)):(parts.map λ (p:Nat × Operand)=>(p.1,ρ p.2)).toList=parts.toList.map λ p=>(p.1,ρ p.2):=by simp
theorem q31 (fs:Array Field) (hall:∀ f ∈ fs,∃ n,bF P f.type=some n) :
 ∃ pl:Array (Nat × Nat),(fs.mapM λ (f:Field)=>(do pure (f.offset,<-sizeOf f.type):Sem (Nat × Nat))).run P w=.ok pl w /\ ∀ i:Nat,pl[i]? = FT P fs i:=by
 have key:∀ l:List Field,(∀ f ∈ l,∃ n,bF P f.type=some n) ->
  ∃ pl:List (Nat × Nat),(l.mapM λ (f:Field)=>(do pure (f.offset,<-sizeOf f.type):Sem (Nat × Nat))).run P w=.ok pl w /\ ∀ i:Nat,pl[i]? = (l[i]?).bind λ (f:Field)=>(bF P f.type).bind λ n=>some (f.offset,n):=by
  intro l
  induction l with
  | nil=>intro _;exact ⟨[],by simp,by simp⟩
  | cons f l ih =>
   intro hl;obtain ⟨n,hn⟩:=hl f (by simp);obtain ⟨pl,h1,h2⟩:=ih (λ g hg=>hl g (by simp [hg]));refine ⟨(f.offset,n)::pl,?_,λ i=>?_⟩
   ·simp only [DL,Sem.run_bind,mr hn,Result.andThen_ok,Sem.run_pure,h1]
   ·cases i with
    | zero=>simp [hn]
    | succ i=>simpa using h2 i
 obtain ⟨pl,h1,h2⟩:=key fs.toList (λ f hf=>hall f (by simpa using hf));refine ⟨pl.toArray,?_,λ i=>?_⟩
 ·rw [Array.mapM_eq_mapM_toList];simp only [Sem.run_map,h1,Result.andThen_ok]
 ·simp [FT,h2 i]
theorem qwg {o:Oper} {t:TypeId} {parts:Array (Nat × Operand)} {z:AV} {fs:Array Field} {ps:List (Nat × Nat)} (ho:o.op=.build t parts) (hz:zeroOf P t=some z)
 (ht:P.underlying t=some (.struct fs)) (hall:∀ f ∈ fs,∃ n,bF P f.type=some n) (hp:ta (FT P fs) parts.toList=some ps):bT P o (parts.toList.map (·.2)) (Op.build z.cells ps):=by
 intro D θ ρ w vs v h hv;obtain ⟨zc,hz1,hz2⟩:=Ez (w:=w) hz;obtain ⟨pl,h1,h2⟩:=q31 (w:=w) fs hall;unfold Op.build at hv;cases hf:cY z.cells ps vs with
 | none=>rw [hf] at hv;cases hv
 | some out =>
  rw [hf] at hv;injection hv with hv;subst hv
  have h':bG D θ vs (parts.toList.map λ p=>ρ p.2):=by simpa [vu,Function.comp_def] using h
  obtain ⟨cout,h3,h4⟩:=MM (ρ:=ρ) ps vs parts.toList (FT P fs) out hp h' z.cells zc.cells.toList (hz2 D θ).cells hf;refine ⟨.agg cout.toArray,.inl ?_,VR.agg h4⟩;have hpl:(λ i=>pl[i]?)=FT P fs:=funext h2;simp only [execOp,ho,Instr.build,Sem.run_bind,hz1,Result.andThen_ok,zw ht,h1,hpl];have e:(parts.map λ (p:Nat × Operand)=>(p.1,ρ p.2)).toList=parts.toList.map λ p=>(p.1,ρ p.2):=by simp
  simp only [Ji] at h3;simp [e,h3]
theorem qxl {o:Oper} {t e:TypeId} {parts:Array (Nat × Operand)} {z:AV} {len n:Nat} {ps:List (Nat × Nat)} (ho:o.op=.build t parts) (hz:zeroOf P t=some z)
 (ht:P.underlying t=some (.array len e)) (hn:bF P e=some n) (hp:ta (DO n) parts.toList=some ps):bT P o (parts.toList.map (·.2)) (Op.build z.cells ps):=by
 intro D θ ρ w vs v h hv;obtain ⟨zc,hz1,hz2⟩:=Ez (w:=w) hz;unfold Op.build at hv;cases hf:cY z.cells ps vs with
 | none=>rw [hf] at hv;cases hv
 | some out =>
  rw [hf] at hv;injection hv with hv;subst hv
  have h':bG D θ vs (parts.toList.map λ p=>ρ p.2):=by simpa [vu,Function.comp_def] using h
  obtain ⟨cout,h3,h4⟩:=MM (ρ:=ρ) ps vs parts.toList (DO n) out hp h' z.cells zc.cells.toList (hz2 D θ).cells hf;refine ⟨.agg cout.toArray,.inl ?_,VR.agg h4⟩;simp only [execOp,ho,Instr.build,Sem.run_bind,hz1,Result.andThen_ok,zw ht,mr hn];have e:(parts.map λ (p:Nat × Operand)=>(p.1,ρ p.2)).toList=parts.toList.map λ p=>(p.1,ρ p.2):=by simp
  simp only [Ji] at h3;have hpl:(λ i=>some (i*n,n))=DO n:=rfl;simp [e,hpl,h3]
end
end Go.Am
namespace Go.Am
section
variable {P:Program} {D:Nat->Prop} {θ:Th} {ρ:Operand->Value} {w:World}
def iu (D:Nat->Prop) (θ:Th) (ρ:Operand->Value):Option Operand->Option AV->Prop
 | none,a=>a=none
 | some x,a=>∃ v,a=some v/\VR D θ v (ρ x)
theorem HV:∀ (opts:List (Option Operand)) (pre rest:List AV),bG D θ rest ((fp opts).map ρ) -> ∀ (j:Nat) (o:Option Operand) (idx:Option Nat),opts[j]? = some o->(dw pre.length opts)[j]? = some idx ->
 ∀ a,arg (pre++rest) idx=some a->iu D θ ρ o a
 | [],pre,rest,h,j,o,idx,ho,hi,a,ha=>by simp at ho
 | none::opts,pre,rest,h,j,o,idx,ho,hi,a,ha=>by
  cases j with
  | zero =>
   simp only [dw,kq,qb] at ho hi;subst ho;subst hi;simp only [arg,qb] at ha;exact ha.symm
  | succ j=>exact HV opts pre rest h j o idx (by simpa using ho) (by simpa [dw] using hi) a ha
 | some x::opts,pre,rest,h,j,o,idx,ho,hi,a,ha=>by
  cases rest with
  | nil=>have:=h.length;simp [fp] at this
  | cons v rest =>
   obtain ⟨c,cs,h1,h2,h3⟩:=h.cT;simp only [fp,xx,xc] at h1;obtain ⟨rfl,rfl⟩:=h1;cases j with
   | zero =>
    simp only [dw,kq,qb] at ho hi;subst ho;subst hi;simp only [arg,gM] at ha;rw [xn (qf _)] at ha;simp at ha;exact ⟨v,ha.symm,h2⟩
   | succ j =>
    refine HV opts (pre ++ [v]) rest h3 j o idx (by simpa using ho) (by simpa [dw] using hi) a ?_
    simpa using ha
theorem PO {o:Option Operand} {a:Option AV} {d mx r:Nat} (h:iu D θ ρ o a) (hb:bound a d mx=some r) :
 (match o with
  | none=>r=d
  | some x=>(∀ code y,mx<=y->(Instr.sliceBound (ρ x) y code).run P w=.ok r w)/\r<=mx):=by
 cases o with
 | none =>
  simp only [iu] at h;subst h;simp only [bound,qb] at hb;exact hb.symm
 | some x =>
  obtain ⟨v,rfl,hv⟩:=h;unfold bound at hb;split at hb
  ·rename_i heq;cases heq
  ·rename_i k i heq;injection heq with heq;subst heq
   cases hle:Nat.ble i mx<;>rw [hle] at hb
   ·cases hb
   ·injection hb with hb;subst hb
    have hle':i<=mx:=by simpa [wq] using hle
    refine ⟨λ code y hy=>?_,hle'⟩;have hi:(0:Int)<=(i:Int)/\(i:Int)<=(y:Int):=by omega
    have hiy:i<=y:=by omega
    simp [Instr.sliceBound,<-hv.now,ao,asIntOf,hi,hiy]
  ·cases hb
theorem GG {lo hi mx:Option Operand} {a b m:Option AV} {isS:Bool} {len cap low M Y h l:Nat} (ha:iu D θ ρ lo a) (hb:iu D θ ρ hi b) (hm:iu D θ ρ mx m)
 (hM:(mx=none/\M=cap) \/ ∃ d,bound m d low=some M/\low<=cap/\mx.isSome=true) (hY:Y<=M) (hh:bound b len Y=some h) (hl:bound a 0 h=some l) (hno:mx.isSome=true->hi.isSome=true) :
 (Instr.sliceBounds isS len cap (lo.map ρ) (hi.map ρ) (mx.map ρ)).run P w=.ok (l,h,M) w:=by
 have e2:=PO (P:=P) (w:=w) hb hh;have e3:=PO (P:=P) (w:=w) ha hl;cases mx with
 | none =>
  obtain ⟨_,rfl⟩|⟨_,_,_,h9⟩:=hM
  ·cases hi with
   | none =>
    simp only at e2;subst e2;cases lo with
    | none=>simp only at e3;subst e3;simp [Instr.sliceBounds]
    | some x=>simp [Instr.sliceBounds,e3.1 _ _ (qf _)]
   | some y =>
    cases lo with
    | none=>simp only at e3;subst e3;simp [Instr.sliceBounds,e2.1 _ _ hY]
    | some x=>simp [Instr.sliceBounds,e2.1 _ _ hY,e3.1 _ _ (qf _)]
  ·cases h9
 | some z =>
  obtain ⟨h9,_⟩|⟨d,h9,hlow,_⟩:=hM
  ·cases h9
  ·have e1:=PO (P:=P) (w:=w) hm h9;cases hi with
   | none=>simp at hno
   | some y =>
    cases lo with
    | none=>simp only at e3;subst e3;simp [Instr.sliceBounds,e1.1 _ _ hlow,e2.1 _ _ hY]
    | some x=>simp [Instr.sliceBounds,e1.1 _ _ hlow,e2.1 _ _ hY,e3.1 _ _ (qf _)]
theorem xae (v:AV) (d d':Nat) {mx:Nat}:bound (some v) d mx=bound (some v) d' mx:=by
 cases v<;>try rfl
 rename_i k n;cases n<;>rfl
theorem B6 {o:Option Operand} {a:Option AV} {d mx r:Nat} (h:iu D θ ρ o a) (hb:bound a d mx=some r) (hd:d<=mx):r<=mx:=by
 cases o with
 | none=>simp only [iu] at h;subst h;simp only [bound,qb] at hb;omega
 | some x =>
  obtain ⟨v,rfl,hv⟩:=h;unfold bound at hb;split at hb
  ·rename_i heq;cases heq
  ·rename_i k i heq;cases hle:Nat.ble i mx<;>rw [hle] at hb
   ·cases hb
   ·injection hb with hb;subst hb;simpa [wq] using hle
  ·cases hb
theorem q6f (lo hi mx:Option Operand):∃ i j k,dw 0 [lo,hi,mx]=[i,j,k]:=by cases lo<;>cases hi<;>cases mx<;>simp [dw]
theorem zX (lo hi:Option Operand):∃ i j,dw 0 [lo,hi]=[i,j]:=by cases lo<;>cases hi<;>simp [dw]
theorem q3s {o:Oper} {t:TypeId} {x:Operand} {lo hi:Option Operand} (ho:o.op=.slice t x lo hi none) (ht:P.underlying t=some .string) :
 bT P o (x::fp [lo,hi]) (Op.cz (dw 0 [lo,hi])):=by
 intro D θ ρ w vs v h hv;obtain ⟨i,j,hij⟩:=zX lo hi;rw [hij] at hv;unfold Op.cz at hv;split at hv
 ·rename_i lo' hi' s vs' heq;injection heq with e1 e2;injection e2 with e2 _;subst e1;subst e2
  obtain ⟨c,cs,h1,h2,h3⟩:=h.cT;simp only [xx,xc] at h1;obtain ⟨rfl,rfl⟩:=h1;have hargs:=λ (q:Nat) (oo:Option Operand) (idx:Option Nat) (h1:[lo,hi][q]? = some oo) (h2:[i,j][q]? = some idx)=>HV [lo,hi] [] vs' h3 q oo idx h1 (by simpa [hij] using h2);cases hb:arg vs' j with
  | none=>rw [hb] at hv;cases hv
  | some b =>
   rw [hb] at hv;simp only [qd] at hv;cases ha:arg vs' i with
   | none=>rw [ha] at hv;cases hv
   | some a =>
    rw [ha] at hv;simp only [qd,nU] at hv;have ra:=hargs 0 lo i rfl rfl a ha;have rb:=hargs 1 hi j rfl rfl b hb;cases hh:bound b s.length s.length with
    | none=>rw [hh] at hv;cases hv
    | some hh' =>
     rw [hh] at hv;simp only [qd] at hv;cases hl:bound a 0 hh' with
     | none=>rw [hl] at hv;cases hv
     | some l =>
      rw [hl] at hv;injection hv with hv;subst hv
      have hrun:=GG (P:=P) (w:=w) (isS:=false) (mx:=none) (m:=none) (low:=0) ra rb (rfl:iu D θ ρ none none) (.inl ⟨rfl,rfl⟩) (qf _) hh hl (by simp);refine ⟨.string ((⟨s.toArray⟩:ByteArray).extract l hh'),.inl ?_,λ θ' _=>?_⟩
      ·simp only [Option.map_none] at hrun;simp [execOp,ho,Instr.sliceAt,zw ht,Instr.slice,<-h2.now,ao,qN,hrun]
      ·simp only [ao,Value.string.injEq];apply WideShapes.bytes_inj;rw [Lib.extract_data];simp [List.drop_take]
 ·cases hv
theorem q15 {size:Nat} {x:AV} {c:Value} {lo hi mx:Option Operand} {a b m:Option AV} {v:AV} (hx:VR D θ x c) (ha:iu D θ ρ lo a) (hb:iu D θ ρ hi b) (hm:iu D θ ρ mx m) (hv:du size x a b m=some v) :
 ∃ ad len cap l h M,c=.slice ad len cap/\(∀ isS,(Instr.sliceBounds isS len cap (lo.map ρ) (hi.map ρ) (mx.map ρ)).run P w=.ok (l,h,M) w) /\
  VR D θ v (.slice (if M=l then ad else ad.map (·.add (l*size))) (h-l) (M-l)):=by
 have hr:=hx.now;unfold du at hv;split at hv
 ·-- nil
  split at hv
  ·rename_i mx';cases hh:bound b 0 0 with
   | none=>rw [hh] at hv;cases hv
   | some h =>
    rw [hh] at hv;simp only [qd] at hv;cases hl:bound a 0 h with
    | none=>rw [hl] at hv;cases hv
    | some l =>
     rw [hl] at hv;injection hv with hv;subst hv
     have hmx:mx=none:=by
      cases mx with
      | none=>rfl
      | some z=>obtain ⟨_,h9,_⟩:=hm;cases h9
     subst hmx;have h0:h=0/\l=0:=by
      have q2:=B6 hb hh (qf _);have q3:=B6 ha hl (ja _);omega
     obtain ⟨rfl,rfl⟩:=h0;refine ⟨none,0,0,0,0,0,hr.symm,λ isS=>GG (low:=0) ha hb hm (.inl ⟨rfl,rfl⟩) (qf _) hh hl (by simp),λ θ' _=>by simp [ao]⟩
  ·cases hv
 ·-- a slice of a known capacity
  rename_i bb oo n cc;split at hv
  ·cases hv
  ·rename_i hnn;cases hM:bound m cc cc with
   | none=>rw [hM] at hv;cases hv
   | some M =>
    rw [hM] at hv;simp only [qd] at hv;cases hh:bound b n M with
    | none=>rw [hh] at hv;cases hv
    | some h =>
     rw [hh] at hv;simp only [qd] at hv;cases hl:bound a 0 h with
     | none=>rw [hl] at hv;cases hv
     | some l =>
      rw [hl] at hv;injection hv with hv;subst hv
      have hno:mx.isSome=true->hi.isSome=true:=by
       intro h9;cases mx with
       | none=>cases h9
       | some z =>
        obtain ⟨_,hz,_⟩:=hm;cases hi with
        | some _=>rfl
        | none=>simp only [iu] at hb;subst hb;exact absurd (hnn _ hz) (by simp)
      have hMM:(mx=none/\M=cc) \/ ∃ d,bound m d cc=some M/\cc<=cc/\mx.isSome=true:=by
       cases mx with
       | none=>simp only [iu] at hm;subst hm;simp only [bound,qb] at hM;exact .inl ⟨rfl,hM.symm⟩
       | some z=>exact .inr ⟨cc,hM,qf _,rfl⟩
      refine ⟨_,n,cc,l,h,M,hr.symm,λ isS=>GG ha hb hm hMM (qf _) hh hl hno,λ θ' hg=>?_⟩;have hst:=hx θ' hg;rw [<-hr] at hst;simp only [ao,Value.slice.injEq,qb,Addr.mk.injEq] at hst ⊢
      by_cases e:M=l
      ·subst e;simp [Nat.beq_refl]<;>omega
      ·have e':Nat.beq M l=false:=by rw [Bool.eq_false_iff];simpa [zz] using e
       rw [e'];simp [e,o7]<;>omega
 ·-- a grown row's slice
  rename_i bb i m' s alt n;cases hc:(Nat.beq s size && Nat.ble i m')<;>rw [hc] at hv
  ·cases hv
  ·simp only [qx,zz,wq] at hc;obtain ⟨rfl,him⟩:=hc;simp only [ql] at hv;split at hv
   ·-- no third bound
    rename_i hi';have hmx:mx=none:=by
     cases mx with
     | none=>rfl
     | some z=>obtain ⟨_,h9,_⟩:=hm;cases h9
    subst hmx;cases hh:bound b n (m'-i) with
    | none=>rw [hh] at hv;cases hv
    | some h =>
     rw [hh] at hv;simp only [qd] at hv;cases hl:bound a 0 h with
     | none=>rw [hl] at hv;cases hv
     | some l =>
      rw [hl] at hv;simp only [qd] at hv;cases hb2:Nat.ble h (m'-i)<;>rw [hb2] at hv
      ·cases hv
      ·injection hv with hv;subst hv
       have hhm:h<=m'-i:=by simpa [wq] using hb2
       have hlh:=B6 ha hl (ja _);refine ⟨_,n,_,l,h,_,hr.symm,λ isS=>GG (low:=0) ha hb hm (.inl ⟨rfl,rfl⟩) (J3 _ _) hh hl (by simp),λ θ' hg=>?_⟩;have hst:=hx θ' hg;rw [<-hr] at hst;simp only [ao,Value.slice.injEq,qb,Addr.mk.injEq,kr,mQ] at hst;obtain ⟨⟨q1,q2⟩,q3⟩:=hst;have hext:θ'.ext bb = θ.ext bb:=by omega
       have hmul:(i+l)*s=i*s+l*s:=nW i l s;simp only [ao,Value.slice.injEq,mQ,hext,hmul];refine ⟨?_,by omega⟩
       by_cases e:m'-i + θ.ext bb=l
       ·rw [qk e,qk (by omega)];simp only [qb,Addr.mk.injEq,kr];refine ⟨q1,?_⟩;rw [hext] at q2
        by_cases l0:l=0
        ·subst l0;rw [qk e] at q2 ⊢;exact q2
        ·have:Nat.beq l 0=false:=by rw [Bool.eq_false_iff];simpa [zz] using l0
         rw [this];rw [qc (by omega)] at q2 ⊢;exact q2
       ·rw [qc e,qc (by omega)];simp only [AM,o7,qb,Addr.mk.injEq,kr];refine ⟨q1,?_⟩;rw [hext] at q2;rw [qc (by omega)] at q2 ⊢;omega
   ·cases hv
   ·-- a third bound
    rename_i hno1 hno2;cases hM:bound m 0 (m'-i) with
    | none=>rw [hM] at hv;cases hv
    | some M =>
     rw [hM] at hv;simp only [qd] at hv;cases hh:bound b 0 M with
     | none=>rw [hh] at hv;cases hv
     | some h =>
      rw [hh] at hv;simp only [qd] at hv;cases hl:bound a 0 h with
      | none=>rw [hl] at hv;cases hv
      | some l =>
       rw [hl] at hv;simp only [qd] at hv;cases hb2:Nat.beq M l<;>rw [hb2] at hv
       ·injection hv with hv;subst hv
        have hne:M ≠ l:=by intro e;subst e;simp at hb2
        obtain ⟨z,hz,hz2⟩:∃ z,mx=some z /\ ∃ v,m=some v:=by
         cases mx with
         | none=>simp only [iu] at hm;exact absurd hm hno1
         | some z=>obtain ⟨v,h9,_⟩:=hm;exact ⟨z,rfl,v,h9⟩
        obtain ⟨mv,hmv⟩:=hz2;have hhi:hi.isSome=true:=by
         cases hi with
         | some _=>rfl
         | none=>simp only [iu] at hb;exact absurd hb (hno2 _ hmv)
        have hMle:=B6 hm hM (ja _);have hhM:=B6 hb hh (ja _);have hlh:=B6 ha hl (ja _);have hh':bound b n M=some h:=by
         obtain ⟨y,hy⟩:=Option.isSome_iff_exists.1 hhi;subst hy;obtain ⟨bv,h9,_⟩:=hb;subst h9;rw [xae bv n 0];exact hh
        refine ⟨_,n,_,l,h,M,hr.symm,λ isS=>GG ha hb hm (.inr ⟨0,hM,J3 _ _,by rw [hz];rfl⟩) (qf _) hh' hl (λ _=>hhi),λ θ' hg=>?_⟩;have hst:=hx θ' hg;rw [<-hr] at hst;simp only [ao,Value.slice.injEq,qb,Addr.mk.injEq,kr,mQ] at hst;obtain ⟨⟨q1,q2⟩,q3⟩:=hst;have hext:θ'.ext bb = θ.ext bb:=by omega
        have hmul:(i+l)*s=i*s+l*s:=nW i l s;simp only [ao,Value.slice.injEq,kr,hmul,qc hne,AM,o7,qb,Addr.mk.injEq];refine ⟨q1,?_⟩;rw [hext,qc (by omega)] at q2;rw [qc (by omega)];omega
       ·cases hv
 ·-- a slice without room
  rename_i bb;split at hv
  ·rename_i mx';cases hh:bound b 0 0 with
   | none=>rw [hh] at hv;cases hv
   | some h =>
    rw [hh] at hv;simp only [qd] at hv;cases hl:bound a 0 h with
    | none=>rw [hl] at hv;cases hv
    | some l =>
     rw [hl] at hv;injection hv with hv;subst hv
     have hmx:mx=none:=by
      cases mx with
      | none=>rfl
      | some z=>obtain ⟨_,h9,_⟩:=hm;cases h9
     subst hmx;have h0:h=0/\l=0:=by
      have q2:=B6 hb hh (qf _);have q3:=B6 ha hl (ja _);omega
     obtain ⟨rfl,rfl⟩:=h0;refine ⟨_,0,0,0,0,0,hr.symm,λ isS=>GG (low:=0) ha hb hm (.inl ⟨rfl,rfl⟩) (qf _) hh hl (by simp),λ θ' hg=>?_⟩;rw [hx θ' hg,<-hr];rfl
  ·cases hv
 ·cases hv
theorem q51 {o:Oper} {t e:TypeId} {x:Operand} {lo hi mx:Option Operand} {size:Nat} (ho:o.op=.slice t x lo hi mx) (ht:P.underlying t=some (.slice e)) (hs:bF P e=some size) :
 bT P o (x::fp [lo,hi,mx]) (Op.bc size (dw 0 [lo,hi,mx])):=by
 intro D θ ρ w vs v h hv;obtain ⟨i,j,k,hij⟩:=q6f lo hi mx;rw [hij] at hv;unfold Op.bc at hv;split at hv
 ·rename_i lo' hi' mx' y vs' heq;injection heq with e1 e2;injection e2 with e2 e3;injection e3 with e3 _;subst e1;subst e2;subst e3
  obtain ⟨c,cs,h1,h2,h3⟩:=h.cT;simp only [xx,xc] at h1;obtain ⟨rfl,rfl⟩:=h1;have hargs:=λ (q:Nat) (oo:Option Operand) (idx:Option Nat) (h1:[lo,hi,mx][q]? = some oo) (h2:[i,j,k][q]? = some idx)=>HV [lo,hi,mx] [] vs' h3 q oo idx h1 (by simpa [hij] using h2);cases ha:arg vs' i with
  | none=>rw [ha] at hv;cases hv
  | some a =>
   rw [ha] at hv;simp only [qd] at hv;cases hb:arg vs' j with
   | none=>rw [hb] at hv;cases hv
   | some b =>
    rw [hb] at hv;simp only [qd] at hv;cases hm:arg vs' k with
    | none=>rw [hm] at hv;cases hv
    | some m =>
     rw [hm] at hv;simp only [qd] at hv;obtain ⟨ad,len,cap,l,hh,M,hc,hrun,hvr⟩:=q15 (P:=P) (w:=w) h2 (hargs 0 lo i rfl rfl a ha) (hargs 1 hi j rfl rfl b hb) (hargs 2 mx k rfl rfl m hm) hv;refine ⟨_,.inl ?_,hvr⟩;simp [execOp,ho,Instr.sliceAt,zw ht,Instr.slice,hc,hrun,mr hs]
 ·cases hv
theorem q3r {o:Oper} {t e:TypeId} {x:Operand} {lo hi mx:Option Operand} {n size:Nat} (ho:o.op=.slice t x lo hi mx) (ht:P.underlying t=some (.array n e)) (hs:bF P e=some size) :
 bT P o (x::fp [lo,hi,mx]) (Op.eN n size (dw 0 [lo,hi,mx])):=by
 intro D θ ρ w vs v h hv;obtain ⟨i,j,k,hij⟩:=q6f lo hi mx;rw [hij] at hv;unfold Op.eN at hv;split at hv
 ·rename_i lo' hi' mx' p ofs vs' heq;injection heq with e1 e2;injection e2 with e2 e3;injection e3 with e3 _;subst e1;subst e2;subst e3
  obtain ⟨c,cs,h1,h2,h3⟩:=h.cT;simp only [xx,xc] at h1;obtain ⟨rfl,rfl⟩:=h1;have hargs:=λ (q:Nat) (oo:Option Operand) (idx:Option Nat) (h1:[lo,hi,mx][q]? = some oo) (h2:[i,j,k][q]? = some idx)=>HV [lo,hi,mx] [] vs' h3 q oo idx h1 (by simpa [hij] using h2);cases ha:arg vs' i with
  | none=>rw [ha] at hv;cases hv
  | some a =>
   rw [ha] at hv;simp only [qd] at hv;cases hb:arg vs' j with
   | none=>rw [hb] at hv;cases hv
   | some b =>
    rw [hb] at hv;simp only [qd] at hv;cases hm:arg vs' k with
    | none=>rw [hm] at hv;cases hv
    | some m =>
     rw [hm] at hv;simp only [qd] at hv;have hx:VR D θ (.slice p ofs n n) (.slice (some ⟨θ.aN p,θ.off p+ofs,none⟩) n n):=λ θ' hg=>by
      have:=h2 θ' hg;rw [<-h2.now] at this;simp [ao] at this ⊢;omega
     obtain ⟨ad,len,cap,l,hh,M,hc,hrun,hvr⟩:=q15 (P:=P) (w:=w) hx (hargs 0 lo i rfl rfl a ha) (hargs 1 hi j rfl rfl b hb) (hargs 2 mx k rfl rfl m hm) hv;injection hc with c1 c2 c3;subst c1;subst c2;subst c3
     refine ⟨_,.inl ?_,hvr⟩;have hrun':=hrun false;simp only [execOp,ho,Instr.sliceAt,Sem.run_bind,zw ht,Result.andThen_ok,<-h2.now,ao,Instr.sureAddr,Sem.run_pure,hrun',mr hs]
     by_cases e:M=l<;>simp [e]
 ·cases hv
theorem q5k {mx:Bool} {k:IntKind}:∀ (l:List AV) (cs:List Value) (a r:Int),bG D θ l cs->Op.d8 mx a l=some r ->
 (cs.foldlM (λ x y=>if mx then Builtin.max2 x y else Builtin.min2 x y) (Value.int k a)).run P w=.ok (.int k r) w
 | [],cs,a,r,h,hg=>by
  have:=h.fK;subst this;simp only [Op.d8,qb] at hg;subst hg;simp
 | v::l,cs,a,r,h,hg=>by
  obtain ⟨c,cs',rfl,hc,hl⟩:=h.cT;cases v with
  | int k' b =>
   simp only [Op.d8] at hg;have ih:=q5k (mx:=mx) (k:=k) l cs' _ r hl hg;have hcv:=hc.now;simp only [ao] at hcv;subst hcv;simp only [p8] at ih;have s1:(Builtin.min2 (.int k a) (.int k' b)).run P w=.ok (.int k (if b<a then b else a)) w:=rfl;have s2:(Builtin.max2 (.int k a) (.int k' b)).run P w=.ok (.int k (if b > a then b else a)) w:=rfl;cases mx
   ·simp only [List.foldlM_cons,jc,ve,Sem.run_bind,s1,Result.andThen_ok];simp only [jc,ve,xa] at ih
    by_cases q:b<a
    ·simp only [q,rW,ql,iW] at ih ⊢;exact ih
    ·simp only [q,rP,xa,ve] at ih ⊢;exact ih
   ·simp only [List.foldlM_cons,iW,Sem.run_bind,s2,Result.andThen_ok];simp only [iW,ql] at ih
    by_cases q:a<b
    ·have q':b > a:=q;simp only [q,q',rW,ql,iW] at ih ⊢;exact ih
    ·have q':¬ b > a:=q;simp only [q,q',rP,xa,ve] at ih ⊢;exact ih
  | _=>simp [Op.d8] at hg
theorem qzu {o:Oper} {c:Call} {xs:List Operand} {mx:Bool} (ho:o.op=.call c) (hc:c.callee=.builtin (if mx then .max else .min)) (hx:c.args.toList=xs):bT P o xs (Op.fy mx):=by
 intro D θ ρ w vs v h hv;obtain ⟨consts,he⟩:=xY (ρ:=ρ) ho hc;unfold Op.fy at hv;split at hv
 ·rename_i k a l;cases hg:Op.d8 mx a l with
  | none=>rw [hg] at hv;cases hv
  | some r =>
   rw [hg] at hv;injection hv with hv;subst hv
   obtain ⟨c',cs',h1,h2,h3⟩:=h.cT;have hrun:=q5k (P:=P) (w:=w) (k:=k) l cs' a r h3 hg;have hcv:=h2.now;simp only [ao] at hcv;subst hcv;refine ⟨.int k r,.inl ?_,.int _ _⟩;rw [he,mh hx,h1];cases mx
   ·simp only [jc,ve] at hrun ⊢;simp [builtin,Builtin.min_,hrun]
   ·simp only [iW] at hrun ⊢;simp [builtin,Builtin.max_,hrun]
 ·cases hv
theorem q3t {o:Oper} {src dst:TypeId} {x:Operand} {k:IntKind} (ho:o.op=.convert src dst x) (h1:P.underlying src=some (.int k)) (h2:P.underlying dst=some .string):bT P o [x] Op.fB:=by
 intro D θ ρ w vs v h hf;unfold Op.fB at hf;split at hf
 ·rename_i k' n;obtain ⟨y,heq,ha⟩:=h.eI;injection heq with heq _;subst heq
  simp only [pN,p8] at hf;cases hb:(decide ((0:Int)<=n) && decide (n<128))<;>rw [hb] at hf
  ·cases hf
  ·injection hf with hf;subst hf
   simp only [qx,yh] at hb;refine ⟨.string (Utf8.encode n),.inl ?_,λ θ' _=>?_⟩
   ·simp [execOp,ho,<-ha.now,ao,convert,zw h1,zw h2,Conv.intToString]
   ·simp only [ao,Value.string.injEq];obtain ⟨m,rfl⟩:=Int.eq_ofNat_of_zero_le hb.1;have hm:m<128:=by omega
    have hv:Utf8.valid (m:Int)=true:=by simp [Utf8.valid];omega
    simp only [Utf8.encode,hv,iW,yB,hm]
 ·cases hf
theorem q3y (ts:Array TypeId) (ty:TypeId) (n c:Nat):(Builtin.unsafeSliceData_ ts ty #[.slice none n c]).run P w=.ok (.pointer none) w:=rfl
theorem qsd (ts:Array TypeId) (ty:TypeId) (a:Addr) (n c:Nat) (h:c ≠ 0):(Builtin.unsafeSliceData_ ts ty #[.slice (some a) n c]).run P w=.ok (.pointer (some a)) w:=by
 change Sem.run P (ite (c ≠ 0) _ _) w=_;rw [qk h];rfl
theorem q0o {o:Oper} {c:Call} {xs:List Operand} (ho:o.op=.call c) (hc:c.callee=.builtin .unsafeSliceData) (hx:c.args.toList=xs):bT P o xs Op.fg:=by
 intro D θ ρ w vs v h hv;obtain ⟨consts,he⟩:=xY (ρ:=ρ) ho hc;unfold Op.fg at hv;split at hv
 ·obtain ⟨x,rfl,ha⟩:=h.eI;injection hv with hv;subst hv
  refine ⟨.pointer none,.inl ?_,λ _ _=>rfl⟩;rw [he,mh hx];simp only [builtin,<-ha.now,ao,xx,kw,Sem.run_bind,q3y,Result.andThen_ok,Sem.run_pure]
 ·rename_i b ofs n cc;obtain ⟨x,rfl,ha⟩:=h.eI;cases hb:Nat.beq cc 0<;>rw [hb] at hv
  ·injection hv with hv;subst hv
   have h0:cc ≠ 0:=by intro e;subst e;simp at hb
   refine ⟨.pointer (some ⟨θ.aN b,θ.off b+ofs,none⟩),.inl ?_,λ θ' hg=>?_⟩
   ·rw [he,mh hx];simp only [builtin,<-ha.now,ao,xx,kw,Sem.run_bind,qsd _ _ _ _ _ h0,Result.andThen_ok,Sem.run_pure]
   ·have:=ha θ' hg;rw [<-ha.now] at this;simp [ao] at this ⊢;omega
  ·cases hv
 ·rename_i b i m s alt n;obtain ⟨x,rfl,ha⟩:=h.eI;cases hb:Nat.blt i m<;>rw [hb] at hv
  ·cases hv
  ·injection hv with hv;subst hv
   have him:i<m:=by simpa [mW] using hb
   have h0:¬ (m-i + θ.ext b=0):=by omega
   refine ⟨.pointer (some ⟨θ.aN b,θ.off b+i*s,none⟩),.inl ?_,λ θ' hg=>?_⟩
   ·rw [he,mh hx];simp only [builtin,<-ha.now,ao,xx,kw];rw [qc h0];simp only [Sem.run_bind,qsd _ _ _ _ _ h0,Result.andThen_ok,Sem.run_pure]
   ·have:=ha θ' hg;rw [<-ha.now] at this;simp only [ao,Value.slice.injEq,qb,Addr.mk.injEq,kr,mQ] at this;rw [qc h0,qc (by omega)] at this;simp only [ao,Value.pointer.injEq,qb,Addr.mk.injEq,kr];omega
 ·cases hv
theorem MG {o:Oper} {c:Call} {f:FuncId} {fn:Func} {e:Array Value->Sem Value} (ho:o.op=.call c) (hc:c.callee=.value (.func f)) (hρ:ρ (.func f)=.func (.func f) #[] #[]) (hf:P.funcs[f]? = some fn) (hb:fn.body=none)
 (hn:fn.name ≠ "runtime.NumGoroutine") (h1:Extern.findNext fn=none) (h2:Extern.find fn=some e) :
 (execOp ρ o).run P w=((e (c.args.map ρ)).run P w).andThen λ v w'=>.ok (.value v) w':=by
 simp [execOp,ho,resolve,hc,hρ,Deferred.ofValue,invoke,callFunc,hf,hb,hn,h1,h2]
theorem qyk (s:List UInt8):(Extern.Bytes.bytesOf (.string ⟨s.toArray⟩)).run P w=.ok ⟨s.toArray⟩ w:=rfl
theorem q00 (n:Int):(Extern.Bytes.asByte (.int .u8 n)).run P w=.ok (UInt8.ofNat n.toNat) w:=rfl
theorem q6z (c:UInt8) (s:List UInt8) (k:Nat):zJ c s k=((List.range s.length).find? λ i=>s[i]! == c).map (·+k):=by
 induction s generalizing k with
 | nil=>rfl
 | cons x s ih =>
  simp only [zJ,Pk,qn];rw [List.range_succ_eq_map,List.find?_cons];have hm:(List.find? (λ i=>(x::s)[i]! == c) (List.map Nat.succ (List.range s.length)))=((List.range s.length).find? λ i=>s[i]! == c).map Nat.succ:=by
   rw [List.find?_map];rfl
  rw [hm,ih (k+1)];have h0:(x::s)[0]! = x:=rfl;rw [h0];cases h:(x == c)
  ·simp only [xa,Option.map_map];congr 1;funext i;simp;omega
  ·simp
theorem qC (s:List UInt8) (i:Nat):(⟨s.toArray⟩:ByteArray)[i]! = s[i]!:=by
 by_cases h:i<s.length
 ·have hz:i<(⟨s.toArray⟩:ByteArray).size:=by rw [qN];exact h
  rw [getElem!_pos (⟨s.toArray⟩:ByteArray) i hz,getElem!_pos s i h];rfl
 ·have hz:¬ i<(⟨s.toArray⟩:ByteArray).size:=by rw [qN];exact h
  rw [getElem!_neg (⟨s.toArray⟩:ByteArray) i hz,getElem!_neg s i h]
theorem q40 {P:Program} {w:World} (s:List UInt8) (n:Int):(Extern.BytealgIndexByte.indexByte #[.string ⟨s.toArray⟩,.int .u8 n]).run P w =
 .ok (match (List.range s.length).find? (λ i=>s[i]! == UInt8.ofNat n.toNat) with|some i=>goInt i|none=>goInt (-1)) w:=by
 change Sem.run P (Extern.Bytes.bytesOf (.string ⟨s.toArray⟩) >>= _) w=_;rw [Sem.run_bind,qyk];change Sem.run P (Extern.Bytes.asByte (.int .u8 n) >>= _) w=_;rw [Sem.run_bind,q00];have hfun:(λ i=>(⟨s.toArray⟩:ByteArray)[i]! == UInt8.ofNat n.toNat)=(λ i=>s[i]! == UInt8.ofNat n.toNat):=funext λ i=>by rw [qC]
 simp only [Result.andThen_ok,qN,hfun];cases (List.range s.length).find? (λ i=>s[i]! == UInt8.ofNat n.toNat)<;>rfl
theorem Ai (a:Value):Extern.AbiNoEscape.same #[a]=pure a:=rfl
theorem qrt {o:Oper} {c:Call} {f:FuncId} {fn:Func} {xs:List Operand} (ho:o.op=.call c) (hc:c.callee=.value (.func f)) (hf:P.funcs[f]? = some fn) (hb:fn.body=none)
 (hn:fn.name ≠ "runtime.NumGoroutine") (h1:Extern.findNext fn=none) (h2:Extern.find fn=some Extern.BytealgIndexByte.indexByte) (hx:c.args.toList=xs) :
 ∀ (D:Nat->Prop) θ (ρ:Operand->Value) w vs v,ρ (.func f)=.func (.func f) #[] #[]->bG D θ vs (xs.map ρ)->Op.bV vs=some v -> ∃ c,kQ P (execOp ρ o) w c w/\VR D θ v c:=by
 intro D θ ρ w vs v hρ h hv;unfold Op.bV at hv;split at hv
 ·rename_i s n;obtain ⟨x,y,rfl,ha,hb'⟩:=h.gu;injection hv with hv;subst hv
  refine ⟨_,.inl ?_,.int _ _⟩;rw [MG ho hc hρ hf hb hn h1 h2,mh hx];have hfun:(λ i=>(⟨s.toArray⟩:ByteArray)[i]! == UInt8.ofNat n.toNat)=(λ i=>s[i]! == UInt8.ofNat n.toNat):=funext λ i=>by rw [qC]
  simp only [xx,kw,<-ha.now,<-hb'.now,ao,q40,Sem.run_bind,qyk,q00,Result.andThen_ok,qN,hfun];rw [q6z];cases hq:(List.range s.length).find? (λ i=>s[i]! == UInt8.ofNat n.toNat)<;>simp [goInt]
 ·cases hv
theorem q3q {o:Oper} {c:Call} {f:FuncId} {fn:Func} {xs:List Operand} (ho:o.op=.call c) (hc:c.callee=.value (.func f)) (hf:P.funcs[f]? = some fn) (hb:fn.body=none)
 (hn:fn.name ≠ "runtime.NumGoroutine") (h1:Extern.findNext fn=none) (h2:Extern.find fn=some Extern.AbiNoEscape.same) (hx:c.args.toList=xs) :
 ∀ (D:Nat->Prop) θ (ρ:Operand->Value) w vs v,ρ (.func f)=.func (.func f) #[] #[]->bG D θ vs (xs.map ρ)->Op.gS vs=some v -> ∃ c,kQ P (execOp ρ o) w c w/\VR D θ v c:=by
 intro D θ ρ w vs v hρ h hv;unfold Op.gS at hv;split at hv
 ·rename_i a;obtain ⟨x,rfl,ha⟩:=h.eI;injection hv with hv;subst hv
  refine ⟨ρ x,.inl ?_,ha⟩;rw [MG ho hc hρ hf hb hn h1 h2,mh hx];simp only [xx,kw,Ai,Sem.run_pure,Result.andThen_ok]
 ·cases hv
theorem xem {o:Oper} (xs:List Operand):bT P o xs Op.fail:=by
 intro D θ ρ w vs v _ hv;cases hv
end
end Go.Am
namespace Go.Am
def iG (P:Program) (o:Oper) (xs:List Operand) (f:List AV->AHeap->Option AV):Prop :=
 ∀ (base:Nat) (D:Nat->Prop) θ H (ρ:Operand->Value) w vs v,HR P base D θ H w->bG D θ vs (xs.map ρ)->f vs H=some v -> ∃ c,kQ P (execOp ρ o) w c w/\VR D θ v c
section
variable {P:Program}
theorem xbt {o:Oper} {t:TypeId} {x:Operand} (ho:o.op=.load t x) (ht:jI P t=some none):iG P o [x] Op.aa:=by
 intro base D θ H ρ w vs v hh h hv;unfold Op.aa at hv;split at hv
 ·rename_i b off;obtain ⟨x',he,ha⟩:=h.eI;simp only [xc,kr] at he;subst he;obtain ⟨c,h1,h2⟩:=hh.aa hv;refine ⟨c,.inl ?_,h2⟩;obtain ⟨g1,_⟩:=LW (w:=w) ht;simp only [execOp,ho,<-ha.now,ao,Instr.loadAt,Instr.sureAddr,loadVar,Sem.run_bind,Sem.run_pure,Result.andThen_ok,g1,Option.isSome_none,jc,ve,h1]
 ·cases hv
theorem xbu {o:Oper} {t:TypeId} {x:Operand} {n:Nat} (ho:o.op=.load t x) (ht:jI P t=some (some n)):iG P o [x] (Op.au n):=by
 intro base D θ H ρ w vs v hh h hv;unfold Op.au at hv;split at hv
 ·rename_i b off;obtain ⟨x',he,ha⟩:=h.eI;simp only [xc,kr] at he;subst he;cases hl:H.au b off n with
  | none=>rw [hl] at hv;cases hv
  | some l =>
   rw [hl] at hv;injection hv with hv;subst hv
   obtain ⟨cs,h1,h2,_⟩:=hh.au hl;refine ⟨.agg cs.toArray,.inl ?_,.agg h2⟩;obtain ⟨g1,g2⟩:=LW (w:=w) ht;simp only [execOp,ho,<-ha.now,ao,Instr.loadAt,Instr.sureAddr,loadVar,Sem.run_bind,Sem.run_pure,Result.andThen_ok,g1,g2 n rfl,Option.isSome_some,iW,h1]
 ·cases hv
theorem HR.dZ {base:Nat} {D:Nat->Prop} {θ:Th} {H:AHeap} {w:World} (h:HR P base D θ H w) {b:Nat} {m:List (AV × AV × Nat) × Nat} (hb:H.dZ b=some m) :
 H.get b=some (.map m.1 m.2)/\D b /\ ∃ ms:List MapEntry,w.heap[θ.aN b]? = some (.map ms.toArray m.2)/\cJ D θ m.1 ms:=by
 unfold AHeap.dZ at hb;cases hg:H.get b with
 | none=>rw [hg] at hb;cases hb
 | some o =>
  rw [hg] at hb;obtain ⟨hd,co,hc,hr⟩:=h.obj b o hg;cases o<;>simp only [reduceCtorEq,qb] at hb;subst hb;obtain ⟨ms,h1,h2⟩:=hr;exact ⟨rfl,hd,ms,by rw [hc,h1],h2⟩
theorem Fy {w:World} {r:Nat} {ms:Array MapEntry} {c:Nat} (h:w.heap[r]? = some (.map ms c)):(getObj r).run P w=.ok (.map ms c) w:=by
 simp [getObj,Sem.run,h]
theorem cJ.length {D:Nat->Prop} {θ:Th}:∀ (es:List (AV × AV × Nat)) (ms:List MapEntry),cJ D θ es ms->es.length=ms.length
 | [],[],_=>rfl
 | _::es,_::ms,⟨_,h⟩=>by simp [cJ.length es ms h]
 | [],_::_,h=>h.elim
 | _::_,[],h=>h.elim
theorem VR.isAgg {D:Nat->Prop} {θ:Th} {l:List AV} {c:Value} (h:VR D θ (.agg l) c):∃ cs:List Value,c=.agg cs.toArray/\bG D θ l cs:=h.dJ
theorem q6w {t:TypeId} {fs:Array Field} (h:P.underlying t=some (.struct fs)):P.fieldsOf t=fs:=by
 simp [Program.fieldsOf,h]
theorem xaq {x y:AV} {r:Bool} (h:cK .int x y=some r):∃ k a b,x=.int k a/\y=.int k b/\r=(a == b):=by
 cases x<;>cases y<;>simp only [cK,reduceCtorEq] at h;rename_i k a k' b;cases hk:pE k k' with
 | false=>rw [hk] at h;cases h
 | true =>
  rw [hk] at h;simp only [ql,qb] at h;have:k=k':=by simpa [Lf] using hk
  subst this;exact ⟨k,a,b,rfl,rfl,by rw [<-h,rH]⟩
theorem xar {x y:AV} {r:Bool} (h:cK .str x y=some r):∃ a b,x=.str a/\y=.str b/\r=(a == b):=by
 cases x<;>cases y<;>simp only [cK,reduceCtorEq,qb] at h;exact ⟨_,_,rfl,rfl,by rw [<-h,Di]⟩
theorem q6v {x y:AV} {r:Bool} (h:cK .bool x y=some r):∃ a b,x=.bool a/\y=.bool b/\r=(a == b):=by
 cases x<;>cases y<;>simp only [cK,reduceCtorEq,qb] at h;exact ⟨_,_,rfl,rfl,h.symm⟩
theorem Ld {off:Nat} {n:Option Nat} {t rest:bq} {x y:AV} {r:Bool} (h:cK (.part off n t rest) x y=some r) :
 ∃ l l' a b q,x=.agg l/\y=.agg l'/\partAt l off n=some a/\partAt l' off n=some b/\cK t a b=some q/\(q=true->cK rest (.agg l) (.agg l')=some r)/\(q=false->r=false):=by
 cases x<;>cases y<;>simp only [cK,reduceCtorEq] at h;rename_i l l';simp only [qa] at h;obtain ⟨a,ha,b,hb,q,hq,h⟩:=h;refine ⟨l,l',a,b,q,rfl,rfl,ha,hb,hq,λ e=>?_,λ e=>?_⟩
 ·subst e;exact h
 ·subst e;simpa using h.symm
theorem KY {x y:AV} {r:Bool} (h:cK .nil x y=some r):r=true/\(∃ l,x=.agg l)/\(∃ l,y=.agg l):=by
 cases x<;>cases y<;>simp only [cK,reduceCtorEq,qb] at h;exact ⟨h.symm,⟨_,rfl⟩,⟨_,rfl⟩⟩
theorem q1g (s:Nat) (a:Option Nat) (q:bq) (n i:Nat) {x y:AV} {r:Bool} (h:cK (da.itemsT s a q n i) x y=some r):(∃ l,x=.agg l)/\(∃ l,y=.agg l):=by
 cases n with
 | zero=>exact (KY h).2
 | succ n=>obtain ⟨l,l',_,_,_,h1,h2,_⟩:=Ld h;exact ⟨⟨l,h1⟩,⟨l',h2⟩⟩
theorem qys {go:TypeId->Option bq} {fs:List Field} {q:bq} (hq:da.fieldsT P go fs=some q) {x y:AV} {r:Bool} (h:cK q x y=some r):(∃ l,x=.agg l)/\(∃ l,y=.agg l):=by
 cases fs with
 | nil=>injection hq with hq;subst hq;exact (KY h).2
 | cons f fs =>
  simp only [da.fieldsT] at hq;split at hq
  ·cases hq
  ·simp only [qa] at hq;obtain ⟨a,_,q1,_,r1,_,hq⟩:=hq;injection hq with hq;subst hq
   obtain ⟨l,l',_,_,_,h1,h2,_⟩:=Ld h;exact ⟨⟨l,h1⟩,⟨l',h2⟩⟩
def vT (P:Program) (w:World) (D:Nat->Prop) (θ:Th) (m:Nat) (t:TypeId) (q:bq):Prop :=
 ∀ (x y:AV) (cx cy:Value) (r:Bool),VR D θ x cx->VR D θ y cy->cK q x y=some r->(Op.equalIn m t cx cy).run P w=.ok r w
theorem qwn {w:World} {D:Nat->Prop} {θ:Th} {m:Nat} {go:TypeId->Option bq} (ih:∀ t q,go t=some q->vT P w D θ m t q) {l l':List AV} {cs cs':List Value} (hl:bG D θ l cs) (hl':bG D θ l' cs') :
 ∀ (fs:List Field) (q:bq) (r:Bool),da.fieldsT P go fs=some q->cK q (.agg l) (.agg l')=some r->(Op.eqFields m cs.toArray cs'.toArray fs).run P w=.ok r w
 | [],q,r,hq,h=>by
  injection hq with hq;subst hq
  rw [(KY h).1];simp [Op.eqFields]
 | f::fs,q,r,hq,h=>by
  simp only [da.fieldsT] at hq;split at hq
  ·cases hq
  ·rename_i hn;simp only [qa] at hq;obtain ⟨a,ha,q1,hq1,r1,hr1,hq⟩:=hq;injection hq with hq;subst hq
   obtain ⟨l1,l2,x,y,e,h1,h2,h3,h4,h5,h6,h7⟩:=Ld h;injection h1 with h1;injection h2 with h2;subst h1;subst h2
   obtain ⟨c,p1,v1⟩:=E4 (w:=w) ha hl h3;obtain ⟨c',p2,v2⟩:=E4 (w:=w) ha hl' h4;have p3:=ih f.type q1 hq1 x y c c' e v1 v2 h5;simp only [Op.eqFields,hn,ne_eq,yG,iW,Sem.run_bind,p1,p2,p3,Result.andThen_ok];cases e
   ·simp [h7 rfl]
   ·simpa using qwn ih hl hl' fs r1 r hr1 (h6 rfl)
theorem qyq {w:World} {D:Nat->Prop} {θ:Th} {m:Nat} {e:TypeId} {s:Nat} {a:Option Nat} {q:bq} (ha:jI P e=some a) (ih:vT P w D θ m e q) {l l':List AV} {cs cs':List Value} (hl:bG D θ l cs) (hl':bG D θ l' cs') :
 ∀ (n i:Nat) (r:Bool),cK (da.itemsT s a q n i) (.agg l) (.agg l')=some r->(Op.eqItems m e s cs.toArray cs'.toArray (List.range' i n)).run P w=.ok r w
 | 0,i,r,h=>by rw [(KY h).1];simp [Op.eqItems]
 | n+1,i,r,h=>by
  obtain ⟨l1,l2,x,y,b,h1,h2,h3,h4,h5,h6,h7⟩:=Ld h;injection h1 with h1;injection h2 with h2;subst h1;subst h2
  obtain ⟨c,p1,v1⟩:=E4 (w:=w) ha hl h3;obtain ⟨c',p2,v2⟩:=E4 (w:=w) ha hl' h4;have p3:=ih x y c c' b v1 v2 h5;simp only [List.range'_succ,Op.eqItems,Sem.run_bind,p1,p2,p3,Result.andThen_ok];cases b
  ·simp [h7 rfl]
  ·simpa using qyq ha ih hl hl' n (i+1) r (h6 rfl)
theorem Kq (m:Nat) {D:Nat->Prop} {θ:Th} (w:World):∀ (d:Nat) (t:TypeId) (q:bq),da P d t=some q->vT P w D θ (d+m) t q
 | 0,_,_,h=>by cases h
 | d+1,t,q,h=>by
  intro x y cx cy r hx hy hr;unfold da at h;have ed:d+1+m=(d+m)+1:=by omega
  rw [ed];cases hu:P.underlying t with
  | none=>rw [hu] at h;cases h
  | some kd =>
   rw [hu] at h;cases kd
   case int k0 =>
    injection h with h;subst h
    obtain ⟨k,a,b,rfl,rfl,rfl⟩:=xaq hr;rw [<-hx.now,<-hy.now,ao,ao,run_equalIn_int w _ t k k0 a b hu]
   case string =>
    injection h with h;subst h
    obtain ⟨a,b,rfl,rfl,rfl⟩:=xar hr;rw [<-hx.now,<-hy.now,ao,ao,run_equalIn_string w _ t _ _ hu,Ml,Ml]
   case bool =>
    injection h with h;subst h
    obtain ⟨a,b,rfl,rfl,rfl⟩:=q6v hr;rw [<-hx.now,<-hy.now,ao,ao,run_equalIn_bool' w _ t _ _ hu]
   case struct fs =>
    simp only at h;split at h
    ·cases h
    ·rename_i hst;have hst':P.stoodInHeld t=false:=by simpa using hst
     obtain ⟨⟨l,rfl⟩,⟨l',rfl⟩⟩:=qys h hr;obtain ⟨cs,rfl,hl⟩:=hx.dJ;obtain ⟨cs',rfl,hl'⟩:=hy.dJ;have hf:=q6w hu;rw [run_equalIn_struct w _ t _ _ (by rw [hf];exact hu) hst',hf];exact qwn (λ t q hq=>Kq m w d t q hq) hl hl' _ _ _ h hr
   case array n e =>
    simp only [qa] at h;obtain ⟨s,hs,a,ha,q1,hq1,h⟩:=h;injection h with h;subst h
    obtain ⟨⟨l,rfl⟩,⟨l',rfl⟩⟩:=q1g _ _ _ _ _ hr;obtain ⟨cs,rfl,hl⟩:=hx.dJ;obtain ⟨cs',rfl,hl'⟩:=hy.dJ;obtain ⟨i,hi,his⟩:=OB hs;rw [run_equalIn_array _ _ _ _ hu hi,List.range_eq_range'];have hc:P.cellsOf e=s:=by simp [Program.cellsOf,hi,his]
    rw [hc];exact qyq ha (Kq m w d e q1 hq1) hl hl' n 0 r hr
   all_goals (cases h)
theorem Ll {off:Nat} {n:Option Nat} {t rest:bq} {x:AV} (h:ct (.part off n t rest) x=true) :
 ∃ l a,x=.agg l/\partAt l off n=some a/\ct t a=true/\ct rest (.agg l)=true:=by
 cases x<;>simp only [ct,reduceCtorEq,jc] at h;rename_i l;split at h
 ·rename_i a ha;cases ht:ct t a with
  | false=>rw [ht] at h;cases h
  | true=>rw [ht] at h;exact ⟨l,a,rfl,ha,ht,h⟩
 ·cases h
theorem q1r {x:AV} (h:ct .nil x=true):∃ l,x=.agg l:=by
 cases x<;>simp only [ct,reduceCtorEq,jc] at h;exact ⟨_,rfl⟩
theorem q7l (s:Nat) (a:Option Nat) (q:bq) (n i:Nat) {x:AV} (h:ct (da.itemsT s a q n i) x=true):∃ l,x=.agg l:=by
 cases n with
 | zero=>exact q1r h
 | succ n=>obtain ⟨l,_,h1,_⟩:=Ll h;exact ⟨l,h1⟩
theorem q5n {go:TypeId->Option bq} {fs:List Field} {q:bq} (hq:da.fieldsT P go fs=some q) {x:AV} (h:ct q x=true):∃ l,x=.agg l:=by
 cases fs with
 | nil=>injection hq with hq;subst hq;exact q1r h
 | cons f fs =>
  simp only [da.fieldsT] at hq;split at hq
  ·cases hq
  ·simp only [qa] at hq;obtain ⟨a,_,q1,_,r1,_,hq⟩:=hq;injection hq with hq;subst hq
   obtain ⟨l,_,h1,_⟩:=Ll h;exact ⟨l,h1⟩
def Bk (P:Program) (w:World) (D:Nat->Prop) (θ:Th) (em:Bool) (m:Nat) (t:TypeId) (q:bq):Prop :=
 ∀ (x:AV) (cx:Value),VR D θ x cx->ct q x=true->(Instr.checkKey em m t cx).run P w=.ok () w
theorem qzq {w:World} {D:Nat->Prop} {θ:Th} {em:Bool} {m:Nat} {e:TypeId} {s:Nat} {a:Option Nat} {q:bq} (ha:jI P e=some a) (hs:bF P e=some s) (ih:Bk P w D θ em m e q) {l:List AV} {cs:List Value} (hl:bG D θ l cs) :
 ∀ (n i:Nat),ct (da.itemsT s a q n i) (.agg l)=true ->
  (forIn (List.range' i n) PUnit.unit (λ i _=>(do Instr.checkKey em m e (<-part e cs.toArray (i*(<-sizeOf e)));pure (ForInStep.yield PUnit.unit):Sem (ForInStep PUnit)))).run P w=.ok PUnit.unit w
 | 0,i,h=>by simp
 | n+1,i,h=>by
  obtain ⟨l1,x,h1,h3,h5,h6⟩:=Ll h;injection h1 with h1;subst h1
  obtain ⟨c,p1,v1⟩:=E4 (w:=w) ha hl h3;have p3:=ih x c v1 h5;simp only [List.range'_succ,List.forIn_cons,Sem.run_bind,mr hs,p1,p3,Result.andThen_ok,Sem.run_pure]
  simpa using qzq ha hs ih hl n (i+1) h6
theorem OG (em:Bool) (m:Nat) {D:Nat->Prop} {θ:Th} (w:World):∀ (d:Nat) (t:TypeId) (q:bq),da P d t=some q->Bk P w D θ em (d+m) t q
 | 0,_,_,h=>by cases h
 | d+1,t,q,h=>by
  intro x cx hx hr;unfold da at h;have ed:d+1+m=(d+m)+1:=by omega
  rw [ed];cases hu:P.underlying t with
  | none=>rw [hu] at h;cases h
  | some kd =>
   rw [hu] at h;cases kd
   case int k0=>simp [Instr.checkKey,zw hu]
   case string=>simp [Instr.checkKey,zw hu]
   case bool=>simp [Instr.checkKey,zw hu]
   case struct fs =>
    simp only at h;split at h
    ·cases h
    ·obtain ⟨l,rfl⟩:=q5n h hr;obtain ⟨cs,rfl,hl⟩:=hx.dJ;simp only [Instr.checkKey,Sem.run_bind,zw hu,Result.andThen_ok];rw [<-Array.forIn_toList];clear hu;generalize fs.toList=L at h
     induction L generalizing q with
     | nil=>simp
     | cons f L ihL =>
      simp only [da.fieldsT] at h;split at h
      ·cases h
      ·rename_i hn;simp only [qa] at h;obtain ⟨a,ha,q1,hq1,r1,hr1,h⟩:=h;injection h with h;subst h
       obtain ⟨l1,x,h1,h3,h5,h6⟩:=Ll hr;injection h1 with h1;subst h1
       obtain ⟨c,p1,v1⟩:=E4 (w:=w) ha hl h3;have p3:=OG em m w d f.type q1 hq1 x c v1 h5;simp only [List.forIn_cons,Sem.run_bind,hn,ne_eq,yG,iW,Result.andThen_ok,p1,p3,Sem.run_pure];exact ihL r1 h6 hr1
   case array n e =>
    simp only [qa] at h;obtain ⟨s,hs,a,ha,q1,hq1,h⟩:=h;injection h with h;subst h
    obtain ⟨l,rfl⟩:=q7l _ _ _ _ _ hr;obtain ⟨cs,rfl,hl⟩:=hx.dJ;have:=qzq (w:=w) (em:=em) ha hs (OG em m w d e q1 hq1) hl n 0 hr;simp only [Instr.checkKey,Sem.run_bind,zw hu,Result.andThen_ok];simp only [Std.Legacy.Range.forIn_eq_forIn_range',Std.Legacy.Range.size,zH,Nat.add_one_sub_one,Nat.div_one];simp at this;simp [this]
   all_goals (cases h)
theorem Ob {em:Bool} {D:Nat->Prop} {θ:Th} {w:World} {t:TypeId} {q:bq} (h:jV P t=some q) {x:AV} {cx:Value} (hx:VR D θ x cx) (hr:ct q x=true) :
 (Instr.checkKey em 10000 t cx).run P w=.ok () w:=OG em 9980 w 20 t q h x cx hx hr
theorem ua {D:Nat->Prop} {θ:Th} {w:World} {t:TypeId} {q:bq} (h:jV P t=some q) {x y:AV} {cx cy:Value} {r:Bool} (hx:VR D θ x cx) (hy:VR D θ y cy) (hr:cK q x y=some r) :
 (Op.equal t cx cy).run P w=.ok r w:=Kq 9980 w 20 t q h x y cx cy r hx hy hr
def Ca (D:Nat->Prop) (θ:Th):Option (Nat × AV)->Option (Nat × Value)->Prop
 | none,none=>True
 | some (i,v),some (j,c)=>i=j/\VR D θ v c
 | _,_=>False
theorem qr8 {D:Nat->Prop} {θ:Th} {w:World} {t:TypeId} {q:bq} (h:jV P t=some q) {k:AV} {ck:Value} (hk:VR D θ k ck) :
 ∀ (es:List (AV × AV × Nat)) (ms:List MapEntry) (i:Nat) (r:Option (Nat × AV)),cJ D θ es ms->findKey q k es i=some r ->
  ∃ r',(Instr.findAsking t ck ms i).run P w=.ok r' w/\Ca D θ r r'
 | [],[],i,r,_,hr=>by
  simp only [findKey,qb] at hr;subst hr;exact ⟨none,by simp [Instr.findAsking],trivial⟩
 | (k',v,b)::es,e::ms,i,r,⟨⟨h1,h2,_⟩,hes⟩,hr=>by
  simp only [findKey,qa] at hr;obtain ⟨c,hc,hr⟩:=hr;have:=ua (w:=w) h hk h1 hc;cases c
  ·obtain ⟨r',g1,g2⟩:=qr8 (w:=w) h hk es ms (i+1) r hes hr;exact ⟨r',by simp [Instr.findAsking,this,g1],g2⟩
  ·simp only [ql,qb] at hr;subst hr;exact ⟨some (i,e.val),by simp [Instr.findAsking,this],rfl,h2⟩
 | [],_::_,_,_,h,_=>h.elim
 | _::_,[],_,_,h,_=>h.elim
theorem q71 {t:TypeId} {d:TypeDesc} (hu:P.underlying t=some d) {x y:Value} {b:Bool} (h:Instr.sameNow d x y=some b) (w:World):(Op.equal t x y).run P w=.ok b w:=by
 unfold Instr.sameNow at h;split at h
 ·rename_i k a k' b';split at h
  ·rename_i hk;subst hk;injection h with h;subst h
   exact run_equalIn_int w _ t _ _ _ _ hu
  ·cases h
 ·injection h with h;subst h
  show (Op.equalIn (9999+1) t _ _).run P w=_;rw [run_equalIn_string w _ t _ _ hu,beq_toListBytes]
 ·injection h with h;subst h
  exact run_equalIn_bool' w _ t _ _ hu
 ·cases h
theorem qyv {t:TypeId} {d:TypeDesc} (hu:P.underlying t=some d) {ck:Value} (w:World):∀ (ms:List MapEntry) (i:Nat) (r r':Option (Nat × Value)),
 Instr.findNow d ck ms i=some r->(Instr.findAsking t ck ms i).run P w=.ok r' w->r=r'
 | [],i,r,r',h,h'=>by
  simp [Instr.findNow] at h;simp [Instr.findAsking] at h';rw [<-h,<-h']
 | e::ms,i,r,r',h,h'=>by
  simp only [Instr.findNow] at h;cases hs:Instr.sameNow d ck e.key with
  | none=>rw [hs] at h;cases h
  | some b =>
   rw [hs] at h;have:=q71 hu hs w;cases b
   ·simp [Instr.findAsking,this] at h';exact qyv hu w ms (i+1) r r' h h'
   ·simp [Instr.findAsking,this] at h';simp at h;rw [<-h,<-h']
theorem qyu {D:Nat->Prop} {θ:Th} {w:World} {t:TypeId} {q:bq} (h:jV P t=some q) {k:AV} {ck:Value} (hk:VR D θ k ck) {es:List (AV × AV × Nat)} {ms:List MapEntry} {r:Option (Nat × AV)}
 (hes:cJ D θ es ms) (hr:findKey q k es 0=some r):∃ r',(Instr.findKey t ck ms).run P w=.ok r' w/\Ca D θ r r':=by
 obtain ⟨r',g1,g2⟩:=qr8 (w:=w) h hk es ms 0 r hes hr;have hu:∃ d,P.underlying t=some d:=by
  cases hu:P.underlying t with
  | none=>simp [jV,da,hu] at h
  | some d=>exact ⟨d,rfl⟩
 obtain ⟨d,hu⟩:=hu;refine ⟨r',?_,g2⟩;simp only [Instr.findKey,Sem.run_bind,zw hu,Result.andThen_ok];cases hn:Instr.findNow d ck ms 0 with
 | none=>simpa using g1
 | some r2=>simp [qyv hu w ms 0 r2 r' hn g1]
theorem q7w {o:Oper} {t kt e:TypeId} {mm kk:Operand} {ok:Bool} {q:bq} {z:AV} (ho:o.op=.lookup t mm kk ok) (hu:P.underlying t=some (.map kt e)) (hq:jV P kt=some q) (hz:zeroOf P e=some z) :
 iG P o [mm,kk] (Op.lookup q z ok):=by
 intro base D θ H ρ w vs v hh h hv;obtain ⟨zc,hz1,hz2⟩:=Ez (w:=w) hz;unfold Op.lookup at hv;split at hv
 ·rename_i k;obtain ⟨x,y,he,ha,hb⟩:=h.gu;simp only [xc,kr] at he;obtain ⟨rfl,rfl⟩:=he;cases hok:ct q k with
  | false=>rw [hok] at hv;cases hv
  | true =>
   rw [hok] at hv;simp only [ql,qb] at hv;have hc:=λ em=>Ob (em:=em) (w:=w) hq hb hok;have hf:(Instr.findKey kt (ρ kk) []).run P w=.ok none w:=by
    have hu:∃ d,P.underlying kt=some d:=by
     cases hu:P.underlying kt with
     | none=>simp [jV,da,hu] at hq
     | some d=>exact ⟨d,rfl⟩
    obtain ⟨d,hu⟩:=hu;simp [Instr.findKey,zw hu,Instr.findNow]
   subst hv;cases ok
   ·refine ⟨zc,.inl ?_,hz2 _ _⟩;simp [execOp,ho,Instr.lookup,zw hu,<-ha.now,ao,hc,hf,hz1]
   ·refine ⟨.tuple [zc,.bool false].toArray,.inl ?_,.tuple (.cons (hz2 _ _) (.one (.bool _)))⟩;simp [execOp,ho,Instr.lookup,zw hu,<-ha.now,ao,hc,hf,hz1]
 ·rename_i b k;obtain ⟨x,y,he,ha,hb⟩:=h.gu;simp only [xc,kr] at he;obtain ⟨rfl,rfl⟩:=he;cases hok:ct q k with
  | false=>rw [hok] at hv;cases hv
  | true =>
   rw [hok] at hv;simp only [ql,qa] at hv;obtain ⟨m,hm,r,hr,hv⟩:=hv;obtain ⟨_,_,ms,h1,h2⟩:=hh.dZ hm;have hc:=λ em=>Ob (em:=em) (w:=w) hq hb hok;obtain ⟨r',g1,g2⟩:=qyu (w:=w) hq hb h2 hr;cases r with
   | none =>
    cases r' with
    | some _=>exact g2.elim
    | none =>
     simp only [qb] at hv;subst hv;cases ok
     ·refine ⟨zc,.inl ?_,hz2 _ _⟩;simp [execOp,ho,Instr.lookup,zw hu,<-ha.now,ao,hc,g1,hz1,Fy h1]
     ·refine ⟨.tuple [zc,.bool false].toArray,.inl ?_,.tuple (.cons (hz2 _ _) (.one (.bool _)))⟩;simp [execOp,ho,Instr.lookup,zw hu,<-ha.now,ao,hc,g1,hz1,Fy h1]
   | some p =>
    obtain ⟨i,pv⟩:=p;cases r' with
    | none=>exact g2.elim
    | some p' =>
     obtain ⟨i',pc⟩:=p';obtain ⟨_,g2⟩:=g2;simp only [qb] at hv;subst hv;cases ok
     ·refine ⟨pc,.inl ?_,g2⟩;simp [execOp,ho,Instr.lookup,zw hu,<-ha.now,ao,hc,g1,hz1,Fy h1]
     ·refine ⟨.tuple [pc,.bool true].toArray,.inl ?_,.tuple (.cons g2 (.one (.bool _)))⟩;simp [execOp,ho,Instr.lookup,zw hu,<-ha.now,ao,hc,g1,hz1,Fy h1]
 ·cases hv
end
end Go.Am
namespace Go.Am
section
variable {P:Program} {base:Nat} {D:Nat->Prop} {θ:Th} {H:AHeap} {w:World}
def isStr:AV->Bool
 | .str _=>true
 | _=>false
theorem Jx (hh:HR P base D θ H w) {x:AV} {c:Value} {size n k:Nat} {l:List AV} (hx:VR D θ x c) (hk:dE x=some k) (hn:n<=k) (hs:isStr x=false)
 (h:firstCells H size n x=some l):∃ a len cap,c=.slice a len cap/\len=k/\((a=none/\l=[]/\n=0/\k=0) \/
  ∃ ad cs,a=some ad/\(loadCells ad (n*size)).run P w=.ok cs.toArray w/\bG D θ l cs/\l.length=n*size):=by
 have hz:∀ a,(loadCells a 0).run P w=.ok ([]:List Value).toArray w:=λ a=>rfl;cases x<;>simp only [dE,reduceCtorEq,qb] at hk
 case str s=>cases hs
 case nils =>
  subst hk;simp only [firstCells,qb] at h;subst h;exact ⟨none,0,0,hx.now.symm,rfl,.inl ⟨rfl,rfl,by omega,rfl⟩⟩
 case slice b o n' cp =>
  subst hk;simp only [firstCells] at h;refine ⟨_,_,_,hx.now.symm,rfl,.inr ?_⟩;cases hb:Nat.beq n 0 with
  | true =>
   have:n=0:=by simpa using hb
   subst this;rw [hb] at h;injection h with h;subst h
   exact ⟨_,[],rfl,by simpa using hz _,.nil,by simp⟩
  | false =>
   rw [hb] at h;obtain ⟨cs,h1,h2,h3⟩:=hh.au h;exact ⟨_,cs,rfl,h1,h2,h3⟩
 case eslice b =>
  subst hk;have:n=0:=by omega
  subst this;simp only [firstCells,Nat.beq,ql,qb] at h;subst h;exact ⟨_,_,_,hx.now.symm,rfl,.inr ⟨_,[],rfl,by simpa using hz _,.nil,by simp⟩⟩
 case gslice b i m s alt n' =>
  subst hk;simp only [firstCells] at h;refine ⟨_,_,_,hx.now.symm,rfl,.inr ?_⟩;cases hb:Nat.beq n 0 with
  | true =>
   have:n=0:=by simpa using hb
   subst this;rw [hb] at h;injection h with h;subst h
   exact ⟨_,[],rfl,by simpa using hz _,.nil,by simp⟩
  | false =>
   rw [hb] at h;simp only [xa] at h;cases hc:(Nat.beq s size && Nat.blt i m) with
   | false=>rw [hc] at h;cases h
   | true =>
    rw [hc] at h;simp only [qx,zz,mW] at hc;obtain ⟨rfl,hi⟩:=hc;obtain ⟨cs,h1,h2,h3⟩:=hh.au h;refine ⟨_,cs,rfl,?_,h2,h3⟩;rw [qc (by omega)];exact h1
theorem Qf:∀ (l:List AV) (cs:List Value) (s:List UInt8),bG D θ l cs->bytesOf l=some s -> ∃ ns:List Int,cs=ns.map (Value.int .u8)/\ns.map (λ n=>UInt8.ofNat n.toNat)=s
 | [],cs,s,h,hs=>by
  injection hs with hs;subst hs
  rw [h.fK];exact ⟨[],rfl,rfl⟩
 | x::l,cs,s,h,hs=>by
  obtain ⟨c,cs',rfl,h1,h2⟩:=h.cT;simp only [bytesOf,qa] at hs;obtain ⟨b,hb,r,hr,hs⟩:=hs;injection hs with hs;subst hs
  obtain ⟨ns,rfl,e⟩:=Qf l cs' r h2 hr;unfold byteOf at hb;split at hb
  ·rename_i n;injection hb with hb;subst hb
   exact ⟨n::ns,by rw [<-h1.now];rfl,by simp [e]⟩
  ·cases hb
theorem xdp (ns:List Int) (acc:List UInt8):ns.foldl (λ r n=>r.push (UInt8.ofNat n.toNat)) (⟨acc.toArray⟩:ByteArray)=⟨(acc++ns.map (λ n=>UInt8.ofNat n.toNat)).toArray⟩:=by
 induction ns generalizing acc with
 | nil=>simp
 | cons n ns ih =>
  simp only [EO,xx];have:(⟨acc.toArray⟩:ByteArray).push (UInt8.ofNat n.toNat)=⟨(acc ++ [UInt8.ofNat n.toNat]).toArray⟩:=by simp [ByteArray.push]
  rw [this,ih];simp
theorem qzz {o:Oper} {src dst e:TypeId} {x:Operand} (ho:o.op=.convert src dst x) (h1:P.underlying src=some (.slice e)) (he:P.underlying e=some (.int .u8)) (h2:P.underlying dst=some .string) :
 iG P o [x] Op.eu:=by
 intro base D θ H ρ w vs v hh h hv;unfold Op.eu at hv;split at hv
 ·cases hv
 ·rename_i a hns;obtain ⟨x',hx',ha⟩:=h.eI;simp only [xc,kr] at hx';subst hx';simp only [qa] at hv;obtain ⟨n,hn,l,hl,s,hs,hv⟩:=hv;injection hv with hv;subst hv
  have hstr:isStr a=false:=by
   cases a<;>first|rfl|exact absurd rfl (hns _)
  obtain ⟨ad,len,cap,hc,rfl,hcase⟩:=Jx hh ha hn (qf _) hstr hl;refine ⟨_,.inl ?_,.str s⟩;simp only [execOp,ho,hc,Sem.run_bind,run_convert_bytes_string w src dst e _ _ _ h1 he h2];rcases hcase with ⟨rfl,rfl,_,_⟩|⟨ad,cs,rfl,g1,g2,g3⟩
  ·injection hs with hs;subst hs
   simp [Conv.bytesToString];rfl
  ·obtain ⟨ns,rfl,e2⟩:=Qf _ _ _ g2 hs;rw [oK] at g1;rw [run_bytesToString w ad len cap ns g1];have:=xdp ns [];simp only [zn,e2] at this;simp only [Result.andThen_ok,Sem.run_pure];rw [show (ByteArray.empty)=(⟨([]:List UInt8).toArray⟩:ByteArray) from rfl,this]
 ·cases hv
end
end Go.Am
namespace Go.Am
section
variable {P:Program} {base:Nat} {D:Nat->Prop} {θ:Th} {H:AHeap} {w:World}
theorem IQ {w:World} {r:Nat} {c:Array Value} {e:TypeId} {fz:Nat × Nat} (h:w.heap[r]? = some (.cells c e fz)):w.shape? r=some (e,c.size):=by
 simp [World.shape?,h]
theorem qps {w:World} {r:Nat} {c:Array Value} {e:TypeId} {fz:Nat × Nat} (h:w.heap[r]? = some (.cells c e fz)):(viewAt r).run P w=.ok none w:=by
 simp [viewAt,IQ h]
theorem qpr {w:World} {a:Addr} {c:Array Value} {e:TypeId} {fz:Nat × Nat} (h:w.heap[a.block]? = some (.cells c e fz)):(noView a).run P w=.ok () w:=by
 simp [noView,qps h]
theorem qxm {w:World} {a:Addr} {c:Array Value} {e:TypeId} {fz:Nat × Nat} (h:w.heap[a.block]? = some (.cells c e fz)):(Conv.seenAt a).run P w=.ok a w:=by
 simp [Conv.seenAt,qps h]
theorem qw3 {o:Oper} {src dst u:TypeId} {x:Operand} (ho:o.op=.convert src dst x)
 (hd:(P.underlying src=some (.pointer u)/\P.underlying dst=some .unsafePointer)\/(P.underlying src=some .unsafePointer/\P.underlying dst=some (.pointer u))) :
 iG P o [x] (Op.fF (fY P u)):=by
 intro base D θ H ρ w vs v hh h hv;unfold Op.fF at hv;split at hv
 ·obtain ⟨x',hx',ha⟩:=h.eI;simp only [xc,kr] at hx';subst hx';injection hv with hv;subst hv
  refine ⟨_,.inl ?_,ha⟩;rcases hd with ⟨h1,h2⟩|⟨h1,h2⟩ <;>
   simp [execOp,ho,convert,zw h1,zw h2,<-ha.now,ao,Conv.unsafePointer]
 ·rename_i b off;obtain ⟨x',hx',ha⟩:=h.eI;simp only [xc,kr] at hx';subst hx';split at hv
  ·rename_i c e fz hg;cases hl:fY P u e c.length off with
   | false=>rw [hl] at hv;cases hv
   | true =>
    rw [hl] at hv;injection hv with hv;subst hv
    obtain ⟨_,co,hc,pre,cs,post,cfz,et,rfl,h2,h3,h4⟩:=hh.obj b _ hg;obtain ⟨rfl,rfl,rfl,_⟩:=h4 rfl;simp only [zn,kh,qw] at hc h2;have hlen:=h3.length;unfold fY at hl;split at hl
    ·rename_i sz hsz;simp only [qx,mW] at hl;obtain ⟨aT,hlies⟩:=hl;refine ⟨_,.inl ?_,ha⟩;have hs:=mr (w:=w) hsz;have ht:w.shape? (θ.aN b)=_:=IQ hc;have e0:θ.off b+off=off:=by omega
     have hse:(Conv.seenAt ⟨θ.aN b,off,none⟩).run P w=_:=qxm hc;simp only [Ia] at ht;rcases hd with ⟨h1,h2'⟩|⟨h1,h2'⟩
     ·have hn:¬ (cs.length<=off):=by omega
      simp [execOp,ho,convert,zw h1,zw h2',<-ha.now,ao,Conv.unsafePointer,e0,hse,cellsIn,ht,hs,hn]
     ·rw [<-hlen] at hlies;simp [execOp,ho,convert,zw h1,zw h2',<-ha.now,ao,Conv.unsafePointer,e0,hse,variablesAt,ht,hs,hlies]
    ·cases hl
  ·cases hv
 ·cases hv
theorem L6 {isN isS:AV->Bool} {x y:AV} {q:Bool} (h:mM isN isS x y=some q) :
 (isN x=true/\isN y=true/\q=true)\/(isN x=true/\isS y=true/\q=false)\/(isS x=true/\isN y=true/\q=false):=by
 unfold mM at h;cases h1:isN x<;>cases h2:isN y<;>cases h3:isS x<;>cases h4:isS y<;>simp_all
theorem Dn.not {cfz:Nat × Nat} (h:Dn (0,0) cfz) (i:Nat):¬ (cfz.1<=i/\i<cfz.2):=by
 rcases h with h|⟨_,h⟩<;>simp at *<;>omega
theorem xel (hh:HR P base D θ H w) {b b' o o':Nat} (hne:b ≠ b') (h:pU H b b'=true) :
 (sameAddr ⟨θ.aN b,θ.off b+o,none⟩ ⟨θ.aN b',θ.off b'+o',none⟩).run P w=.ok false w:=by
 have key:∀ (k1 k2 o1 o2:Nat) (c1 c2:Array Value) (e1 e2:TypeId) (f1 f2:Nat × Nat),k1 ≠ k2->w.heap[k1]? = some (.cells c1 e1 f1)->w.heap[k2]? = some (.cells c2 e2 f2) ->
  ((∀ i,¬ (f1.1<=i/\i<f1.2))/\c2.size ≠ 0\/(∀ i,¬ (f2.1<=i/\i<f2.2))/\c1.size ≠ 0)->(sameAddr ⟨k1,o1,none⟩ ⟨k2,o2,none⟩).run P w=.ok false w:=by
  intro k1 k2 o1 o2 c1 c2 e1 e2 f1 f2 hk h1 h2 hc;have s1:=IQ h1;have s2:=IQ h2;have n1:(noView ⟨k1,o1,none⟩).run P w=_:=qpr h1;have n2:(noView ⟨k2,o2,none⟩).run P w=_:=qpr h2;have fr1:∀ i,w.frozen? ⟨k1,i,none⟩=(decide (f1.1<=i) && decide (i<f1.2)):=λ i=>by simp [World.frozen?,h1]
  have fr2:∀ i,w.frozen? ⟨k2,i,none⟩=(decide (f2.1<=i) && decide (i<f2.2)):=λ i=>by simp [World.frozen?,h2]
  have hkb:(k1 == k2)=false:=by simpa using hk
  rcases hc with ⟨hf,hz⟩|⟨hf,hz⟩
  ·have fz1:∀ i,w.frozen? ⟨k1,i,none⟩=false:=λ i=>by rw [fr1];have:=hf i;simp at this ⊢;omega
   simp only [sameAddr,Sem.run_bind,run_frozen,fz1,n1,n2,hkb,mayBeOne,stringish,run_shape,s1,s2,Sem.run_ite,Bool.false_and,jc,ve,Sem.run_pure,Result.andThen_ok];cases w.frozen? ⟨k2,o2,none⟩<;>simp [hz,s2]
  ·have fz2:∀ i,w.frozen? ⟨k2,i,none⟩=false:=λ i=>by rw [fr2];have:=hf i;simp at this ⊢;omega
   simp only [sameAddr,Sem.run_bind,run_frozen,fz2,n1,n2,hkb,mayBeOne,stringish,run_shape,s1,s2,Sem.run_ite,Bool.and_false,jc,ve,Sem.run_pure,Result.andThen_ok];cases w.frozen? ⟨k1,o1,none⟩<;>simp [hz,s1,s2,fz2]
 unfold pU at h;split at h
 ·rename_i c e x c' e' fz' ow' hb hb';obtain ⟨_,co,hc,pre,cs,post,cfz,et,rfl,h2,h3,h4⟩:=hh.obj b _ hb;obtain ⟨_,co',hc',pre',cs',post',cfz',et',rfl,h2',h3',h4'⟩:=hh.obj b' _ hb';refine key _ _ _ _ _ _ _ _ _ _ (hh.inj b b' _ _ hb hb' rfl hne) hc hc' (.inl ⟨(h4 rfl).2.2.2.not,?_⟩);have:=h3'.length;simp only [Ia,qg,qn] at this ⊢;omega
 ·rename_i c e fz ow c' e' hb hb';obtain ⟨_,co,hc,pre,cs,post,cfz,et,rfl,h2,h3,h4⟩:=hh.obj b _ hb;obtain ⟨_,co',hc',pre',cs',post',cfz',et',rfl,h2',h3',h4'⟩:=hh.obj b' _ hb';refine key _ _ _ _ _ _ _ _ _ _ (λ e=>hh.inj b' b _ _ hb' hb rfl (λ e=>hne e.symm) e.symm) hc hc' (.inr ⟨(h4' rfl).2.2.2.not,?_⟩);have:=h3.length;simp only [Ia,qg,qn] at this ⊢;omega
 ·cases h
def pC (P:Program) (t:TypeId) (x y:Operand):oS->Prop
 | .bool=>P.underlying t=some .bool
 | .ptr=>∃ e n,P.underlying t=some (.pointer e)/\bF P e=some (n+1)
 | .slice=>∃ e,P.underlying t=some (.slice e)
 | .map=>∃ k e,P.underlying t=some (.map k e)
 | .func=>∃ a b c,P.underlying t=some (.func a b c)
 | .iface=>∃ ms,P.underlying t=some (.interface ms)/\((∃ v,x=.const v) \/ ∃ v,y=.const v)
 | .ifaces f=>(∃ ms,P.underlying t=some (.interface ms)) /\ ∀ u q,f u=some q->da P 20 u=some q /\ ∃ i,P.info? u=some i/\i.comparable=true
 | .agg q=>P.eqGuardType P.depth t=false/\jV P t=some q/\((∃ fs,P.underlying t=some (.struct fs)) \/ ∃ n e,P.underlying t=some (.array n e))
set_option maxHeartbeats 2000000 in
theorem EJ (hh:HR P base D θ H w) {t:TypeId} {x y:Operand} {ρ:Operand->Value} {k:oS} (hk:pC P t x y k) {a b:AV} (ha:VR D θ a (ρ x)) (hb:VR D θ b (ρ y)) {q:Bool}
 (h:Dx H k a b=some q) (op:BinOp) (hop:op=.eql\/op=.neq) :
 ((do eqGuard op t x y (ρ x) (ρ y);binOp op t (ρ x) (ρ y)):Sem Value).run P w=.ok (.bool (if op=.neq then !q else q)) w:=by
 have fin:(eqGuard op t x y (ρ x) (ρ y)).run P w=.ok () w->(Op.equal t (ρ x) (ρ y)).run P w=.ok q w->(binOp .eql t (ρ x) (ρ y)).run P w=((do pure (.bool (<-Op.equal t (ρ x) (ρ y)))):Sem Value).run P w ->
  (binOp .neq t (ρ x) (ρ y)).run P w=((do pure (.bool (!(<-Op.equal t (ρ x) (ρ y))))):Sem Value).run P w ->
  ((do eqGuard op t x y (ρ x) (ρ y);binOp op t (ρ x) (ρ y)):Sem Value).run P w=.ok (.bool (if op=.neq then !q else q)) w:=by
  intro h1 h2 h3 h4;rw [Sem.run_bind,h1,Result.andThen_ok];rcases hop with rfl|rfl
  ·rw [h3];simp [h2]
  ·rw [h4];simp [h2]
 obtain ⟨dd,e1,e0⟩:∃ d,(∀ p q,Op.equal t p q=Op.equalIn (d+1) t p q) /\ ∃ m,d=20+m:=⟨9999,λ _ _=>rfl,9979,rfl⟩
 cases k
 case bool =>
  cases a<;>cases b<;>simp only [Dx,reduceCtorEq,qb] at h;subst h;have hu:P.underlying t=some .bool:=hk;rw [<-ha.now,<-hb.now];rw [<-ha.now,<-hb.now] at fin;refine fin ?_ (run_equalIn_bool' w _ t _ _ hu) (by simp only [ao,binOp]) (by simp only [ao,binOp]);rcases hop with rfl|rfl<;>simp [eqGuard,ao]
 case ptr =>
  obtain ⟨e,n,hu,hs⟩:=hk;have hs':=mr (w:=w) hs;have hq:(Op.equal t (ρ x) (ρ y)).run P w=.ok q w:=by
   cases a<;>cases b<;>simp only [Dx,reduceCtorEq,qb] at h
   ·subst h;rw [<-ha.now,<-hb.now,e1];simp [ao,Op.equalIn,zw hu]
   ·subst h;rw [<-ha.now,<-hb.now,e1];simp [ao,Op.equalIn,zw hu]
   ·subst h;rw [<-ha.now,<-hb.now,e1];simp [ao,Op.equalIn,zw hu]
   ·rename_i b1 o1 b2 o2;rw [<-ha.now,<-hb.now,e1];simp only [ao,Op.equalIn,Sem.run_bind,zw hu,Result.andThen_ok,hs',ne_eq,Nat.add_eq_zero_iff,Nat.succ_ne_zero,xA,yG,iW];cases hbb:Nat.beq b1 b2 with
    | true =>
     rw [hbb] at h;have:b1=b2:=by simpa using hbb
     subst this;simp only [ql,qb] at h;subst h;simp only [sameAddr,beq_self_eq_true,iW,Sem.run_pure];congr 1
     by_cases ho:o1=o2
     ·subst ho;simp
     ·have:Nat.beq o1 o2=false:=by simpa [<-Bool.not_eq_true,zz] using ho
      rw [this];simp [ho]
    | false =>
     rw [hbb] at h;simp only [xa] at h;cases hp:pU H b1 b2 with
     | false=>rw [hp] at h;cases h
     | true =>
      rw [hp] at h;simp only [ql,qb] at h;subst h;have hne:b1 ≠ b2:=λ e=>by subst e;simp at hbb
      exact xel hh hne hp
  cases a<;>cases b<;>simp only [Dx,reduceCtorEq,qb] at h <;>
   (rw [<-ha.now,<-hb.now] at hq ⊢;rw [<-ha.now,<-hb.now] at fin
    exact fin (by rcases hop with rfl|rfl<;>simp [eqGuard,ao]) hq (by simp only [ao,binOp]) (by simp only [ao,binOp]))
 case slice =>
  obtain ⟨e,hu⟩:=hk;have hc:=L6 h;cases a<;>cases b<;>simp [uk,isSlice] at hc <;>
   (subst hc;rw [<-ha.now,<-hb.now];rw [<-ha.now,<-hb.now] at fin
    exact fin (by rcases hop with rfl|rfl<;>simp [eqGuard,ao]) (by rw [e1];simp [ao,Op.equalIn,zw hu]) (by simp only [ao,binOp]) (by simp only [ao,binOp]))
 case map =>
  obtain ⟨k,e,hu⟩:=hk;have hc:=L6 h;cases a<;>cases b<;>simp [uQ,isMap] at hc <;>
   (subst hc;rw [<-ha.now,<-hb.now];rw [<-ha.now,<-hb.now] at fin
    exact fin (by rcases hop with rfl|rfl<;>simp [eqGuard,ao]) (by rw [e1];simp [ao,Op.equalIn,zw hu]) (by simp only [ao,binOp]) (by simp only [ao,binOp]))
 case func =>
  obtain ⟨p1,p2,p3,hu⟩:=hk;have hc:=L6 h;cases a<;>cases b<;>simp [uV,JV] at hc <;>
   (subst hc;rw [<-ha.now,<-hb.now];rw [<-ha.now,<-hb.now] at fin
    exact fin (by rcases hop with rfl|rfl<;>simp [eqGuard,ao]) (by rw [e1];simp [ao,Op.equalIn,zw hu]) (by simp only [ao,binOp]) (by simp only [ao,binOp]))
 case iface =>
  obtain ⟨ms,hu,hxy⟩:=hk;have hc:=L6 h;cases a<;>cases b<;>simp [xU,isIface] at hc <;>
   (subst hc;rw [<-ha.now,<-hb.now];rw [<-ha.now,<-hb.now] at fin
    exact fin (by rcases hop with rfl|rfl<;>rcases hxy with ⟨v,rfl⟩|⟨v,rfl⟩<;>simp [eqGuard,ao]) (by rw [e1];simp [ao,Op.equalIn,zw hu]) (by simp only [ao,binOp]) (by simp only [ao,binOp]))
 case ifaces f =>
  obtain ⟨⟨ms,hu⟩,hf⟩:=hk;cases a<;>cases b<;>simp only [Dx,reduceCtorEq,qb] at h
  ·rename_i t1 v1 t2 v2;obtain ⟨c1,hc1,hv1⟩:=ha.gf;obtain ⟨c2,hc2,hv2⟩:=hb.gf;rw [hc1,hc2] at fin ⊢;refine fin (by rcases hop with rfl|rfl<;>simp [eqGuard]) ?_ (by simp only [binOp]) (by simp only [binOp]);rw [e1];cases hbq:Nat.beq t1 t2 with
   | true =>
    rw [hbq] at h;simp only [zz] at hbq;subst hbq;simp only [ql,qa] at h;obtain ⟨tr,htr,h⟩:=h;obtain ⟨g1,i,g2,g3⟩:=hf _ _ htr;obtain ⟨m,rfl⟩:=e0;have hrun:=Kq m (D:=D) (θ:=θ) w 20 t1 tr g1 v1 v2 c1 c2 q hv1 hv2 h;simp [Op.equalIn,zw hu,typeInfo,g2,g3,hrun]
   | false =>
    rw [hbq] at h;have hne:t1 ≠ t2:=λ e=>by subst e;simp at hbq
    simp only [xa,qb] at h;subst h;simp [Op.equalIn,zw hu,hne]
  ·subst h;rw [<-ha.now,<-hb.now];rw [<-ha.now,<-hb.now] at fin;exact fin (by rcases hop with rfl|rfl<;>simp [eqGuard,ao]) (by rw [e1];simp [ao,Op.equalIn,zw hu]) (by simp only [ao,binOp]) (by simp only [ao,binOp])
  ·subst h;rw [<-ha.now,<-hb.now];rw [<-ha.now,<-hb.now] at fin;exact fin (by rcases hop with rfl|rfl<;>simp [eqGuard,ao]) (by rw [e1];simp [ao,Op.equalIn,zw hu]) (by simp only [ao,binOp]) (by simp only [ao,binOp])
 case agg tr =>
  obtain ⟨hg,hkt,hu⟩:=hk;have hq:=ua (w:=w) hkt ha hb h;have hagg:(∃ l,a=.agg l) /\ ∃ l,b=.agg l:=by
   have hkt:da P (19+1) t=some tr:=hkt;rw [da] at hkt;rcases hu with ⟨fs,hu⟩|⟨n,e,hu⟩
   ·rw [hu] at hkt;simp only at hkt;split at hkt
    ·cases hkt
    ·exact qys hkt h
   ·rw [hu] at hkt;simp only [qa] at hkt;obtain ⟨s,hs,a',ha',q1,hq1,hkt⟩:=hkt;injection hkt with hkt;subst hkt
    exact q1g _ _ _ _ _ h
  obtain ⟨⟨l,rfl⟩,⟨l',rfl⟩⟩:=hagg;obtain ⟨cs,h1,_⟩:=ha.dJ;obtain ⟨cs',h2,_⟩:=hb.dJ;rw [h1,h2] at hq fin ⊢;exact fin (run_eqGuard_agg w _ t x y _ _ hg) hq (by simp only [binOp]) (by simp only [binOp])
theorem xeq {o:Oper} {t t':TypeId} {x y:Operand} {k:oS} {neg:Bool} (ho:o.op=.binOp (if neg then .neq else .eql) t x y t') (hk:pC P t x y k):iG P o [x,y] (Op.eq k neg):=by
 intro base D θ H ρ w vs v hh h hv;unfold Op.eq at hv;split at hv
 ·rename_i a b;obtain ⟨x',y',he,ha,hb⟩:=h.gu;simp only [xc,kr] at he;obtain ⟨rfl,rfl⟩:=he;simp only [qa] at hv;obtain ⟨q,hq,hv⟩:=hv;injection hv with hv;subst hv
  have:=EJ hh hk ha hb hq (if neg then .neq else .eql) (by cases neg<;>simp);refine ⟨_,.inl ?_,.bool _⟩;simp only [execOp,ho];rw [Sem.run_bind,this];cases neg<;>simp
 ·cases hv
end
end Go.Am
namespace Go.Am
structure fI (w w0:World):Prop where
 heap:w0.heap=w.heap
 os:w0.os=w.os
 tape:w0.tape=w.tape
 output:w0.output=w.output
theorem fI.refl (w:World):fI w w:=⟨rfl,rfl,rfl,rfl⟩
theorem fI.drew (w:World):fI w w.drew:=⟨rfl,rfl,rfl,rfl⟩
theorem fI.trans {a b c:World} (h:fI a b) (h':fI b c):fI a c:=⟨h'.heap.trans h.heap,h'.os.trans h.os,h'.tape.trans h.tape,h'.output.trans h.output⟩
def fL (P:Program) (o:Oper) (xs:List Operand) (f:List AV->Option (bg × (Nat->AV))):Prop :=
 ∀ (D:Nat->Prop) θ (ρ:Operand->Value) w vs ob mk,bG D θ vs (xs.map ρ)->f vs=some (ob,mk) ->
  own ob=true /\ ∃ w0 co ext c,(execOp ρ o).run P w=.ok (.value c) (w0.alloc co)/\fI w w0 /\
   ∀ (D':Nat->Prop) θ' id,Ag D θ θ'->(∀ b,D b->D' b)->D' id -> θ'.aN id=w.heap.size -> θ'.off id=0 -> θ'.ext id=ext->iZ P D' θ' id ob co/\VR D' θ' (mk id) c
section
variable {P:Program}
theorem Le {D':Nat->Prop} {θ':Th} {id:Nat} {cells:List AV} {cs:List Value} {e:TypeId} (h:bG D' θ' cells cs) (ho:θ'.off id=0) :
 iZ P D' θ' id (.row cells e (0,0) true) (.cells cs.toArray e (0,0)) :=
 ⟨[],cs,[],(0,0),_,by simp,by simp [ho],h,λ _=>⟨rfl,rfl,rfl,.inl rfl⟩⟩
theorem M0 {D':Nat->Prop} {θ':Th} {id k:Nat} (hd:D' id) (hb:θ'.aN id=k) (ho:θ'.off id=0):VR D' θ' (Op.ptrTo id) (.pointer (some ⟨k,0,none⟩)):=by
 have:=VR.ptr (θ:=θ') (o:=0) hd;rw [hb,ho] at this;exact this
theorem q1q {D':Nat->Prop} {θ':Th} {id k n m:Nat} (hd:D' id) (hb:θ'.aN id=k) (ho:θ'.off id=0):VR D' θ' (Op.sliceTo n m id) (.slice (some ⟨k,0,none⟩) n m):=by
 have:=VR.slice (θ:=θ') (o:=0) (n:=n) (c:=m) hd;simp only [ao,hb,ho] at this;exact this
theorem q6o {o:Oper} {e:TypeId} {z:AV} (ho:o.op=.alloc e) (hz:zeroOf P e=some z):fL P o [] (Op.alloc e z.cells):=by
 intro D θ ρ w vs ob mk h hv;unfold Op.alloc at hv;split at hv
 ·injection hv with hv;injection hv with h1 h2;subst h1;subst h2
  obtain ⟨zc,hz1,hz2⟩:=Ez (w:=w) hz;refine ⟨rfl,w,.cells zc.cells e (0,0),0,.pointer (some ⟨w.heap.size,0,none⟩),?_,.refl w,λ D' θ' id ha hd hid hb hoff _=>⟨?_,M0 hid hb hoff⟩⟩
  ·simp [execOp,ho,Instr.alloc,hz1,newVar,newRow]
  ·have:=Le (P:=P) (e:=e) (hz2 D' θ').cells hoff
   simpa using this
 ·cases hv
theorem xcx {o:Oper} {e:TypeId} {x:Operand} (ho:o.op=.box e x):fL P o [x] (Op.box e):=by
 intro D θ ρ w vs ob mk h hv;unfold Op.box at hv;split at hv
 ·rename_i v;obtain ⟨x',he,ha⟩:=h.eI;simp only [xc,kr] at he;subst he;injection hv with hv;injection hv with h1 h2;subst h1;subst h2
  refine ⟨rfl,w,.cells (ρ x).cells e (0,0),0,.pointer (some ⟨w.heap.size,0,none⟩),?_,.refl w,λ D' θ' id hg hd hid hb hoff _=>⟨?_,M0 hid hb hoff⟩⟩
  ·simp [execOp,ho,Instr.box,newVar,newRow]
  ·have:=Le (P:=P) (e:=e) (ha.up hg hd).cells hoff
   simpa using this
 ·cases hv
theorem qyc {o:Oper} {t:TypeId} {r:Option Operand} (ho:o.op=.makeMap t r) (hr:r=none\/(∃ k n,r=some (.const (.int k n)) /\ ∃ a b,P.underlying t=some (.map a b)))
 (hc:∀ (ρ:Operand->Value),True):∀ (D:Nat->Prop) θ (ρ:Operand->Value) w vs ob mk,(∀ v,ρ (.const v)=v)->bG D θ vs (([]:List Operand).map ρ)->Op.mkMap vs=some (ob,mk) ->
 own ob=true /\ ∃ w0 co ext c,(execOp ρ o).run P w=.ok (.value c) (w0.alloc co)/\fI w w0 /\
  ∀ (D':Nat->Prop) θ' id,Ag D θ θ'->(∀ b,D b->D' b)->D' id -> θ'.aN id=w.heap.size -> θ'.off id=0 -> θ'.ext id=ext->iZ P D' θ' id ob co/\VR D' θ' (mk id) c:=by
 intro D θ ρ w vs ob mk hρ h hv;unfold Op.mkMap at hv;split at hv
 ·injection hv with hv;injection hv with h1 h2;subst h1;subst h2
  refine ⟨rfl,w,.map #[] 0,0,.map (some w.heap.size),?_,.refl w,λ D' θ' id hg hd hid hb hoff _=>⟨⟨[],rfl,trivial⟩,?_⟩⟩
  ·rcases hr with rfl|⟨k,n,rfl,a,b,hu⟩
   ·simp [execOp,ho,Instr.makeMap]
   ·simp [execOp,ho,Instr.makeMap,zw hu,hρ,asInt,asIntOf]
  ·have:=VR.map (θ:=θ') hid
   rwa [hb] at this
 ·cases hv
theorem q9l {D:Nat->Prop} {θ:Th} {z:List AV} {zc:List Value} (h:bG D θ z zc) (n:Nat):bG D θ (lh n z) (List.replicate n zc).flatten:=by
 induction n with
 | zero=>exact .nil
 | succ n ih =>
  simp only [lh,mb,wz,Kl];exact h.app ih
theorem q9t (zc:List Value) (n:Nat):((Array.range (n*zc.length)).map (λ i=>zc.toArray[i % zc.toArray.size]!))=(List.replicate n zc).flatten.toArray:=by
 apply yL;simp only [Array.toList_map,Array.toList_range,Ia]
 induction n with
 | zero=>simp
 | succ n ih =>
  rw [show (n+1)*zc.length=zc.length+n*zc.length from by rw [nW];omega,List.range_add,Ce,vu,wz,Kl];congr 1
  ·apply List.ext_getElem
   ·simp
   ·intro i h1 h2;simp at h1;simp [Gm h1,h1]
  ·rw [<-ih];apply List.map_congr_left;intro i hi;simp
theorem qxa {o:Oper} {t e:TypeId} {len n:Nat} {parts:Array (Nat × Operand)} {z:AV} {ps:List (Nat × Nat)} (ho:o.op=.buildSlice t len parts) (hu:P.underlying t=some (.slice e))
 (hs:bF P e=some n) (hz:zeroOf P e=some z) (hp:ta (DO n) parts.toList=some ps) (hzn:z.cells.length=n) (hbig:len*n<=16777216) :
 fL P o (parts.toList.map (·.2)) (Op.buildSlice e len z.cells ps):=by
 intro D θ ρ w vs ob mk h hv;simp only [Op.buildSlice,qa] at hv;obtain ⟨c,hc,hv⟩:=hv;injection hv with hv;injection hv with h1 h2;subst h1;subst h2
 obtain ⟨zc,hz1,hz2⟩:=Ez (w:=w) hz;have hzl:=(hz2 D θ).cells.length;have hnew:bG D θ (lh len z.cells) (List.replicate len zc.cells.toList).flatten:=q9l (hz2 D θ).cells len;have hv':bG D θ vs (parts.toList.map λ p=>ρ p.2):=by simpa [vu,Function.comp_def] using h
 obtain ⟨cout,g1,g2⟩:=MM ps vs parts.toList (DO n) c hp hv' _ _ hnew hc;have hsize:zc.cells.size=n:=by rw [<-wx];omega
 refine ⟨rfl,w,.cells cout.toArray e (0,0),0,.slice (some ⟨w.heap.size,0,none⟩) len len,?_,.refl w,λ D' θ' id hg hd hid hb hoff _=>⟨Le (g2.up hg hd) hoff,q1q hid hb hoff⟩⟩;have hzeros:=q9t zc.cells.toList len;rw [show zc.cells.toList.length=n from by omega] at hzeros;simp only [Ji] at hzeros;have hfill:Instr.fill (λ i=>some (i*n,n)) (((Array.range (len*n)).map (λ i=>zc.cells[i % zc.cells.size]!))) ((parts.map λ (p:Nat × Operand)=>(p.1,ρ p.2)).toList)=some cout.toArray:=by
  rw [hzeros,xej];exact g1
 by_cases h0:len*n=0
 ·have hfill':Instr.fill (λ i=>some (i*n,n)) #[] ((parts.map λ (p:Nat × Operand)=>(p.1,ρ p.2)).toList)=some cout.toArray:=by
   rw [h0,show Array.range 0 = #[] from rfl] at hfill;simpa only [Array.map_empty] using hfill
  simp only [execOp,ho,Instr.buildSlice,Sem.run_bind,zw hu,Result.andThen_ok,mr hs,h0,show Array.range 0 = #[] from rfl,Array.map_empty,iW,Sem.run_pure,hfill'];simp [newRow]
 ·have hb:¬ (len*n > 2 ^ 24):=by omega
  simp only [execOp,ho,Instr.buildSlice,Sem.run_bind,zw hu,Result.andThen_ok,mr hs,h0,hb,ve,hz1,Sem.run_pure];simp only [hfill];simp [newRow]
theorem q2f {o:Oper} {t e:TypeId} {l c:Operand} {b n:Nat} {z:AV} (ho:o.op=.makeSlice t l c) (hu:P.underlying t=some (.slice e)) (hb:gP P e=some b)
 (hs:bF P e=some n) (hz:zeroOf P e=some z) (hzn:z.cells.length=n):fL P o [l,c] (Op.mkSlice e b z.cells):=by
 intro D θ ρ w vs ob mk h hv;unfold Op.mkSlice at hv;split at hv
 ·rename_i k1 i1 k2 i2;obtain ⟨x,y,he,ha,hb'⟩:=h.gu;simp only [xc,kr] at he;obtain ⟨rfl,rfl⟩:=he;cases hcond:(kB 0 i1 && kB i1 i2 && kB (i2*b) 140737488355328 && kB i2 140737488355328) with
  | false=>rw [hcond] at hv;cases hv
  | true =>
   rw [hcond] at hv;simp only [ql,qb,qu] at hv;obtain ⟨rfl,rfl⟩:=hv;simp only [qx,pN,yh] at hcond;obtain ⟨⟨⟨c1,c2⟩,c3⟩,c4⟩:=hcond;obtain ⟨zc,hz1,hz2⟩:=Ez (w:=w) hz;have hzl:=(hz2 D θ).cells.length;have hsize:zc.cells.size=n:=by rw [<-wx];omega
   refine ⟨rfl,w,.cells (List.replicate i2.toNat zc.cells.toList).flatten.toArray e (0,0),0,.slice (some ⟨w.heap.size,0,none⟩) i1.toNat i2.toNat,?_,.refl w,
    λ D' θ' id hg hd hid hb hoff _=>⟨Le (q9l ((hz2 D' θ').cells) _) hoff,q1q hid hb hoff⟩⟩
   have w1:IntKind.i64.wrap i1=i1:=by simp [IntKind.wrap,IntKind.signed,IntKind.bits];omega
   have w2:IntKind.i64.wrap i2=i2:=by simp [IntKind.wrap,IntKind.signed,IntKind.bits];omega
   have hbt:∃ i,P.info? e=some i/\i.bytes=b:=by
    unfold gP at hb;cases hi:P.info? e with
    | none=>rw [hi] at hb;cases hb
    | some i=>rw [hi] at hb;injection hb with hb;exact ⟨i,rfl,hb⟩
   obtain ⟨inf,hi,rfl⟩:=hbt;have hzeros:=q9t zc.cells.toList i2.toNat;rw [show zc.cells.toList.length=n from by omega] at hzeros;simp only [Ji] at hzeros;have t2:¬ (i2<0):=by omega
   have t3:¬ ((inf.bytes:Int)*i2 > 2 ^ 48):=by rw [Int.mul_comm];omega
   have t4:¬ (i1<0):=by omega
   have t5:¬ (i1 > i2):=by omega
   have t6:¬ (i2.toNat*inf.bytes > roomBytes):=by
    have:((i2.toNat*inf.bytes:Nat):Int)=i2*inf.bytes:=by rw [Int.natCast_mul];congr 1;omega
    unfold roomBytes;omega
   have t7:(2:Int) ^ 48=281474976710656:=by decide
   simp only [execOp,ho,<-ha.now,<-hb'.now,ao,Instr.makeSlice,Sem.run_bind,zw hu,Result.andThen_ok,asInt,asIntOf,Sem.run_pure,typeInfo,run_program,hi,w1,w2,mr hs]
   by_cases h0:i2.toNat*n=0
   ·have hzeros':(List.replicate i2.toNat zc.cells.toList).flatten.toArray = #[]:=by rw [<-hzeros,h0,show Array.range 0 = #[] from rfl,Array.map_empty]
    simp only [t2,t3,t4,t5,t6,h0,askRoom,hzeros',rP,rW,Bool.or_self,jc,ve,iW,Sem.run_bind,Sem.run_pure,Result.andThen_ok,mr hs,show Array.range 0 = #[] from rfl,Array.map_empty];simp [newRow]
   ·simp only [t2,t3,t4,t5,t6,h0,askRoom,rP,rW,Bool.or_self,jc,ve,iW,Sem.run_bind,Sem.run_pure,Result.andThen_ok,mr hs,hz1,hzeros];simp [newRow]
 ·cases hv
theorem q0d {o:Oper} {t:TypeId} {x:Operand} (ho:o.op=.range t x) (hu:P.underlying t=some .string):fL P o [x] Op.fo:=by
 intro D θ ρ w vs ob mk h hv;unfold Op.fo at hv;split at hv
 ·rename_i s;obtain ⟨x',he,ha⟩:=h.eI;simp only [xc,kr] at he;subst he;injection hv with hv;injection hv with h1 h2;subst h1;subst h2
  refine ⟨rfl,w,.stringIter ⟨s.toArray⟩ 0,0,.pointer (some ⟨w.heap.size,0,none⟩),?_,.refl w,λ D' θ' id hg hd hid hb hoff _=>⟨⟨rfl,hoff⟩,M0 hid hb hoff⟩⟩;simp [execOp,ho,Instr.range,zw hu,<-ha.now,ao]
 ·cases hv
theorem qyx (w:World) (n:Nat) (e:TypeId) (h:n<=maxLen):n<=grownCap w n 0 e/\grownCap w n 0 e<=maxLen:=by
 exact ⟨grownCap_ge w n 0 e,grownCap_le_maxLen w n 0 e h⟩
theorem qxb {o:Oper} {src dst e:TypeId} {x:Operand} (ho:o.op=.convert src dst x) (hs:P.underlying src=some .string) (hd:P.underlying dst=some (.slice e)) (he:P.underlying e=some (.int .u8)) :
 fL P o [x] (Op.fm e):=by
 intro D θ ρ w vs ob mk h hv;unfold Op.fm at hv;split at hv
 ·rename_i s;obtain ⟨x',hx',ha⟩:=h.eI;simp only [xc,kr] at hx';subst hx';cases hb:Nat.ble s.length 140737488355328 with
  | false=>rw [hb] at hv;cases hv
  | true =>
   rw [hb] at hv;simp only [ql,qb,qu] at hv;obtain ⟨rfl,rfl⟩:=hv;have hlen:s.length<=maxLen:=by simp only [wq] at hb;unfold maxLen;omega
   have hr:=run_bytes_of_string (P:=P) w src dst e ⟨s.toArray⟩ hs hd he;rw [qN] at hr;obtain ⟨b1,b2⟩:=qyx w s.length e hlen;generalize grownCap w s.length 0 e=cap at hr b1 b2;refine ⟨rfl,w.drew,_,cap-s.length,_,by simp only [execOp,ho];rw [<-ha.now];simp only [ao];rw [Sem.run_bind,hr];rfl,.drew w,λ D' θ' id hg hd hid hbk hoff hext=>⟨?_,?_⟩⟩
   ·have hrow:bytesRow ⟨s.toArray⟩ cap=(([]:List Value)++s.map (λ (b:UInt8)=>Value.int .u8 b.toNat)++List.replicate (cap-s.length) (Value.int .u8 0)).toArray:=by
     simp [bytesRow,qN]
    refine ⟨[],s.map (λ (b:UInt8)=>Value.int .u8 b.toNat),List.replicate (cap-s.length) (Value.int .u8 0),_,congrArg (λ a=>Obj.cells a e _) hrow,by simp [hoff],?_,by simp,by simp [hext],by omega,by rw [hext];omega,.inr (.inr ⟨by decide,.inl ?_⟩)⟩
    ·intro θ'' _;rw [kT,vu];rfl
    ·rw [hrow];simp
   ·have:=VR.gslice (θ:=θ') (i:=0) (m:=s.length) (s:=1) (alt:=0) (n:=s.length) hid;intro θ'' hag;rw [show Op.fA s.length s.length id=AV.gslice id 0 s.length 1 0 s.length from rfl,this θ'' hag];simp only [ao,hbk,hoff,hext,oJ,ite_self,jv,zH];congr 1;omega
 ·cases hv
theorem DV (ps rs:Array TypeId) (n:Int) (t:TypeId) (h:rs[0]? = some t):Extern.BytealgMakeNoZero.makeNoZero ps rs #[.int .i64 n]=Extern.BytealgMakeNoZero.makeNoZero ps #[t] #[.int .i64 n]:=by
 obtain ⟨l⟩:=rs;cases l with
 | nil=>simp at h
 | cons a l =>
  simp at h;subst h;rfl
theorem qxc {o:Oper} {c:Call} {f:FuncId} {fn:Func} {xs:List Operand} {t e:TypeId} (ho:o.op=.call c) (hc:c.callee=.value (.func f)) (hf:P.funcs[f]? = some fn) (hb:fn.body=none)
 (hn:fn.name ≠ "runtime.NumGoroutine") (h1:Extern.findNext fn=none) (h2:Extern.find fn=some (Extern.BytealgMakeNoZero.makeNoZero fn.params fn.resultTypes)) (hx:c.args.toList=xs)
 (hrt:fn.resultTypes[0]? = some t) (hu:P.underlying t=some (.slice e)) :
 ∀ (D:Nat->Prop) θ (ρ:Operand->Value) w vs ob mk,ρ (.func f)=.func (.func f) #[] #[]->bG D θ vs (xs.map ρ)->Op.makeNoZero e vs=some (ob,mk) ->
 own ob=true /\ ∃ w0 co ext c,(execOp ρ o).run P w=.ok (.value c) (w0.alloc co)/\fI w w0 /\
  ∀ (D':Nat->Prop) θ' id,Ag D θ θ'->(∀ b,D b->D' b)->D' id -> θ'.aN id=w.heap.size -> θ'.off id=0 -> θ'.ext id=ext->iZ P D' θ' id ob co/\VR D' θ' (mk id) c:=by
 intro D θ ρ w vs ob mk hρ h hv;unfold Op.makeNoZero at hv;split at hv
 ·rename_i n;obtain ⟨x,rfl,ha⟩:=h.eI;cases hcond:(kB 0 n && kB n 140737488355328) with
  | false=>rw [hcond] at hv;cases hv
  | true =>
   rw [hcond] at hv;simp only [ql,qb,qu] at hv;obtain ⟨rfl,rfl⟩:=hv;simp only [qx,pN,yh] at hcond;obtain ⟨c1,c2⟩:=hcond;obtain ⟨m,rfl⟩:=Int.eq_ofNat_of_zero_le c1;have hml:m<=maxLen:=by unfold maxLen;omega
   have hmn:∃ cs:Array Value,(Extern.BytealgMakeNoZero.makeNoZero fn.params fn.resultTypes #[.int .i64 m]).run P w=.ok (.slice (some ⟨w.heap.size,0,none⟩) m cs.size) (w.drew.drew.alloc (.cells cs e))/\cs.size<=maxLen:=by
    obtain ⟨cs,g1,g2,g3,g4⟩:=Lib.run_makeNoZero_cap (P:=P) w fn.params t e hu m (by omega);refine ⟨cs,?_,g3 hml⟩;rw [<-g1];have e1:∀ (rs:Array TypeId),rs[0]? = some t->Extern.BytealgMakeNoZero.makeNoZero fn.params rs #[.int .i64 m]=Extern.BytealgMakeNoZero.makeNoZero fn.params #[t] #[.int .i64 m]:=by
     intro rs hrs;exact DV _ _ _ _ hrs
    rw [e1 _ hrt]
   obtain ⟨cs,g1,g2⟩:=hmn;refine ⟨rfl,w.drew.drew,_,cs.size,_,by rw [MG ho hc hρ hf hb hn h1 h2,mh hx];simp only [xx,kw,<-ha.now,ao,Int.ofNat_eq_natCast];rw [g1];rfl,(fI.drew w).trans (fI.drew _),λ D' θ' id hg hd hid hbk hoff hext=>⟨?_,?_⟩⟩
   ·exact ⟨[],[],cs.toList,(0,0),by simp,by simp [hoff],.nil,by simp,by simp [hext],by omega,by rw [hext];omega,.inl rfl⟩
   ·have:=VR.gslice (θ:=θ') (i:=0) (m:=0) (s:=1) (alt:=0) (n:=m) hid;intro θ'' hag;rw [show Op.fA 0 (Int.toNat (m:Int)) id=AV.gslice id 0 0 1 0 m from by simp [Op.fA],this θ'' hag];simp [ao,hbk,hoff,hext]
 ·cases hv
end
end Go.Am
