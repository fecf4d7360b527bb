import GoSem.Step
import Derived.CallsIn
import Derived.WalkKit
import Derived.WalkLawsBesides
import Derived.Lib.Strings
import Derived.Lib.Bytealg
import Derived.DeepKeys3
import Derived.Laws.Cover3
import Derived.Laws.Pointers
import Derived.Room.MakeNoZero
import Derived.Laws.IdiomStrings
set_option linter.defProp false
set_option linter.unusedVariables false
set_option linter.unusedSimpArgs false
open Array renaming range→Cz,toArray_toList→CD
open BitVec renaming ofInt→BE
open Bool renaming eq_iff_iff→Cl,false→B2,true→B4
open Go renaming Op→Cs,IntKind→PJ,MapEntry→Bh,Oper→Pl,Operand→N2,Program→Jv,TypeId→Mj,Value→KP,World→NG
open Go.Addr.mk renaming injEq→C7
open Go.Builtin renaming len_→D9
open Go.Deferred renaming ofValue→Bb
open Go.Instr renaming checkKey→Bf,findAsking→BM,findKey→D7,findNow→Ce,lookup→Cc,sliceBounds→BJ,sureAddr→CF
open Go.Op renaming equal→D8,equalIn→BK
open Go.Region renaming before→CP
open Go.Result renaming andThen_ok→NO
open Go.Sem renaming run_bind→Nw,run_pure→B8
open Go.Value.slice renaming injEq→BP
open List renaming range→N5,rec→B0,replicate→Jr
open Nat renaming beq→JW,ble→Oh,blt→Pk
open Option renaming none→B5,some→B1
open UInt8 renaming ofNat→BX
namespace Go.Am
theorem qj:type_of% @Option.bind_eq_some_iff:=@Option.bind_eq_some_iff
def qk:type_of% @Option.some.injEq:=@Option.some.injEq
def qm:type_of% @Nat.le_refl:=@Nat.le_refl
def qn:type_of% @Nat.lt_of_lt_of_le:=@Nat.lt_of_lt_of_le
def qo:type_of% @List.getElem?_eq_some_iff:=@List.getElem?_eq_some_iff
def qr:type_of% @Option.bind_some:=@Option.bind_some
def qv:type_of% @List.length_append:=@List.length_append
def qy:type_of% @if_neg:=@if_neg
def xb:type_of% @eq_true:=@eq_true
def xc:type_of% @List.getElem?_eq_getElem:=@List.getElem?_eq_getElem
def xg:type_of% @if_pos:=@if_pos
def xm:type_of% @List.getElem?_map:=@List.getElem?_map
def xr:type_of% @List.length_map:=@List.length_map
theorem xt:type_of% @Option.map_eq_some_iff:=@Option.map_eq_some_iff
def xu:type_of% @cond_true:=@cond_true
def xw:type_of% @List.length_set:=@List.length_set
def xx:type_of% @Nat.zero_le:=@Nat.zero_le
def x9:type_of% @Nat.le_trans:=@Nat.le_trans
def za:type_of% @Nat.lt_or_ge:=@Nat.lt_or_ge
def zb:type_of% @List.getElem?_set_self:=@List.getElem?_set_self
def zf:type_of% @Bool.and_eq_true:=@Bool.and_eq_true
def zg:type_of% @List.getElem?_set_ne:=@List.getElem?_set_ne
def zh:type_of% @List.mem_of_getElem?:=@List.mem_of_getElem?
def zi:type_of% @List.take_of_length_le:=@List.take_of_length_le
def zk:type_of% @Prod.mk.injEq:=@Prod.mk.injEq
def zn:type_of% @List.append_nil:=@List.append_nil
def zo:type_of% @List.getElem?_cons_zero:=@List.getElem?_cons_zero
def zp:type_of% @cond_false:=@cond_false
def zq:type_of% @Classical.byContradiction:=@Classical.byContradiction
def zr:type_of% @Bool.false_eq_true:=@Bool.false_eq_true
def zu:type_of% @Nat.lt_succ_self:=@Nat.lt_succ_self
def zw:type_of% @List.length_range:=@List.length_range
def zx:type_of% @List.getD_eq_getElem?_getD:=@List.getD_eq_getElem?_getD
def zy:type_of% @List.length_replicate:=@List.length_replicate
def zz:type_of% @List.length_cons:=@List.length_cons
def z7:type_of% @Bool.and_self:=@Bool.and_self
def z8:type_of% @List.cons.injEq:=@List.cons.injEq
def jb:type_of% @List.getElem?_cons_succ:=@List.getElem?_cons_succ
def jc:type_of% @List.length_eq_zero_iff:=@List.length_eq_zero_iff
def je:type_of% @List.getElem?_append_right:=@List.getElem?_append_right
def jf:type_of% @List.append_assoc:=@List.append_assoc
def jk:type_of% @Int.eq_ofNat_of_zero_le:=@Int.eq_ofNat_of_zero_le
def jo:type_of% @List.mem_append:=@List.mem_append
def jp:type_of% @List.nil_append:=@List.nil_append
def jq:type_of% @List.length_drop:=@List.length_drop
def jr:type_of% @List.length_take:=@List.length_take
def js:type_of% @List.flatMap_append:=@List.flatMap_append
def jt:type_of% @List.getElem?_eq_none:=@List.getElem?_eq_none
theorem ju:type_of% @List.drop_eq_nil_of_le:=@List.drop_eq_nil_of_le
def jx:type_of% @List.getElem?_range:=@List.getElem?_range
def jy:type_of% @Nat.le_succ:=@Nat.le_succ
def jz:type_of% @List.mem_singleton:=@List.mem_singleton
def j6:type_of% @List.flatMap_cons:=@List.flatMap_cons
def j7:type_of% @List.length_nil:=@List.length_nil
theorem ke:type_of% @Nat.beq_eq:=@Nat.beq_eq
def kh:type_of% @List.map_cons:=@List.map_cons
def kj:type_of% @List.mem_cons:=@List.mem_cons
def kr:type_of% @Iff.rfl:=@Iff.rfl
def ku:type_of% @decide_eq_false:=@decide_eq_false
def kw:type_of% @List.take_add_one:=@List.take_add_one
def yd:type_of% @Nat.mul_le_mul_right:=@Nat.mul_le_mul_right
def yf:type_of% @Nat.zero_add:=@Nat.zero_add
def yj:type_of% @decide_eq_true:=@decide_eq_true
def yo:type_of% @List.ext_getElem?:=@List.ext_getElem?
def yr:type_of% @Option.bind_assoc:=@Option.bind_assoc
theorem yt:type_of% @List.take_append_drop:=@List.take_append_drop
def yx:type_of% @List.drop_zero:=@List.drop_zero
def yz:type_of% @List.getElem?_append_left:=@List.getElem?_append_left
def y8:type_of% @List.take_zero:=@List.take_zero
def y9:type_of% @Nat.add_mul:=@Nat.add_mul
def vk:type_of% @Array.getElem?_toList:=@Array.getElem?_toList
def vn:type_of% @List.take_append_of_le_length:=@List.take_append_of_le_length
def vp:type_of% @Option.getD_some:=@Option.getD_some
def vx:type_of% @Nat.add_zero:=@Nat.add_zero
theorem vy:type_of% @Nat.succ_mul:=@Nat.succ_mul
def vz:type_of% @Option.isSome_some:=@Option.isSome_some
def we:type_of% @List.eq_of_mem_replicate:=@List.eq_of_mem_replicate
def wh:type_of% @List.drop_length_add_append:=@List.drop_length_add_append
def wn:type_of% @Classical.not_not:=@Classical.not_not
def wq:type_of% @Nat.add_assoc:=@Nat.add_assoc
def wx:type_of% @List.getElem?_drop:=@List.getElem?_drop
def Hn:type_of% @List.mem_cons_self:=@List.mem_cons_self
def oX:type_of% @if_false:=@if_false
def Gm:type_of% @List.all_eq_true:=@List.all_eq_true
def wB:type_of% @Int.le_refl:=@Int.le_refl
def Ko:type_of% @Int.toNat_of_nonneg:=@Int.toNat_of_nonneg
def HC:type_of% @Int.toNat_natCast:=@Int.toNat_natCast
theorem uh:type_of% @Nat.ble_eq:=@Nat.ble_eq
theorem Lu:type_of% @Nat.eq_of_beq_eq_true:=@Nat.eq_of_beq_eq_true
def JQ:type_of% @List.getElem?_take:=@List.getElem?_take
def Ow:type_of% @Nat.add_sub_cancel_left:=@Nat.add_sub_cancel_left
def nE:type_of% @Ne.symm:=@Ne.symm
def Gl:type_of% @Option.map_some:=@Option.map_some
def L7:type_of% @List.getElem?_of_mem:=@List.getElem?_of_mem
theorem IQ:type_of% @List.drop_append:=@List.drop_append
def Ax:type_of% @Nat.zero_mul:=@Nat.zero_mul
theorem FN:type_of% @List.drop_drop:=@List.drop_drop
def G8:type_of% @Bool.or_eq_true:=@Bool.or_eq_true
def AJ:type_of% @List.map_map:=@List.map_map
def NX:type_of% @List.set_append_right:=@List.set_append_right
def JL:type_of% @List.cons_append:=@List.cons_append
def Oo:type_of% @List.mem_cons_of_mem:=@List.mem_cons_of_mem
theorem zU:type_of% @Nat.blt_eq:=@Nat.blt_eq
theorem SP:type_of% @Array.getD_eq_getD_getElem?:=@Array.getD_eq_getD_getElem?
def Jt:type_of% @List.map_append:=@List.map_append
def Ul:type_of% @Array.getElem?_eq_some_iff:=@Array.getElem?_eq_some_iff
def UE:type_of% @Int.tmod_eq_emod_of_nonneg:=@Int.tmod_eq_emod_of_nonneg
def Lw:type_of% @List.mem_nil_iff:=@List.mem_nil_iff
def LF:type_of% @List.take_length:=@List.take_length
def F1:type_of% @List.map_nil:=@List.map_nil
def Gs:type_of% @List.mem_map:=@List.mem_map
def Gx:type_of% @Nat.lt_irrefl:=@Nat.lt_irrefl
def N8:type_of% @Option.isSome_none:=@Option.isSome_none
def uw:type_of% @and_true:=@and_true
def UH:type_of% @Decidable.byContradiction:=@Decidable.byContradiction
def Ob:type_of% @Nat.lt_succ_of_lt:=@Nat.lt_succ_of_lt
def GU:type_of% @Nat.sub_self:=@Nat.sub_self
def Ui:type_of% @List.getElem?_replicate:=@List.getElem?_replicate
def Rc:type_of% @List.replicate_succ:=@List.replicate_succ
def OC:type_of% @Nat.le_add_right:=@Nat.le_add_right
def SC:type_of% @List.getElem_cons_drop:=@List.getElem_cons_drop
def NR:type_of% @List.take_left':=@List.take_left'
def J5:type_of% @decide_false:=@decide_false
def uv:type_of% @eq_self:=@eq_self
def vF:type_of% @if_true:=@if_true
def Qy:type_of% @List.take_append:=@List.take_append
def Gy:type_of% @Int.not_lt:=@Int.not_lt
def K5:type_of% @Nat.ne_of_lt:=@Nat.ne_of_lt
def LI:type_of% @Nat.mul_one:=@Nat.mul_one
def Gn:type_of% @true_and:=@true_and
inductive T(α:Type)where
 |nil
 |node (l:T α) (v:Option α) (r:T α)
noncomputable section
namespace T
variable{α:Type}
def l:T α->T α
 | .nil=>.nil
 | .node a _ _=>a
def r:T α->T α
 | .nil=>.nil
 | .node _ _ b=>b
def val:T α->Option α
 | .nil=>B5
 | .node _ v _=>v
def path(i:Nat):List Bool:=go i i
 where go:Nat->Nat->List Bool
 |0,_=>[]
 |f+1,i=>match i with
  |0=>[]
  |n+1=>JW (Nat.mod n 2) 0::go f (Nat.div n 2)
def wQ:List Bool->T α->Option α
 |[],t=>t.val
 |b::p,t=>wQ p (cond b t.l t.r)
def fU(v:Option α):List Bool->T α->T α
 |[],t=>.node t.l v t.r
 |b::p,t=>cond b (.node (fU v p t.l) t.val t.r) (.node t.l t.val (fU v p t.r))
def get(t:T α)(i:Nat):Option α:=wQ (path i) t
def put(t:T α)(i:Nat)(v:Option α):T α:=fU v (path i) t
def set(t:T α)(i:Nat)(v:α):T α:=t.put i (B1 v)
structure Get(α:Type)where
 run:T α->Option α
structure Put(α:Type)where
 run:Option α->T α->T α
def pw:List Bool->Get α
 |[]=>⟨val⟩
 |true::p=>⟨λ t=>(pw p).run t.l⟩
 |false::p=>⟨λ t=>(pw p).run t.r⟩
def DN:List Bool->Put α
 |[]=>⟨λ v t=>.node t.l v t.r⟩
 |true::p=>⟨λ v t=>.node ((DN p).run v t.l) t.val t.r⟩
 |false::p=>⟨λ v t=>.node t.l t.val ((DN p).run v t.r)⟩
end T
def nth{α:Type}(l:List α):Nat->Option α :=
 B0 (motive:=λ _=>Nat->Option α) (λ _=>B5) (λ x _ ih i=>Nat.rec (motive:=λ _=>Option α) (B1 x) (λ n _=>ih n) i) l
def kK{α:Type}(a b:List α):List α:=B0 (motive:=λ _=>List α) b (λ x _ ih=>x::ih) a
def cQ{α:Type}(l:List α):Nat:=B0 (motive:=λ _=>Nat) 0 (λ _ _ ih=>ih+1) l
def Q6{α:Type}:List α->List α
 |[]=>[]
 |_::l=>l
def di{α:Type}(n:Nat):List α->List α:=Nat.rec (motive:=λ _=>List α->List α) (λ l=>l) (λ _ ih l=>ih (Q6 l)) n
def Cy{α:Type}(n:Nat):List α->Option (List α) :=
 Nat.rec (motive:=λ _=>List α->Option (List α)) (λ _=>B1 [])
  (λ _ ih l=>B0 (motive:=λ _=>Option (List α)) B5 (λ x t _=>(ih t).bind λ r=>B1 (x::r)) l) n
def zM{α:Type}(new:List α):List α->Option (List α) :=
 B0 (motive:=λ _=>List α->Option (List α)) (λ l=>B1 l)
  (λ x _ ih l=>B0 (motive:=λ _=>Option (List α)) B5 (λ _ t _=>(ih t).bind λ r=>B1 (x::r)) l) new
def putAt{α:Type}(o:Nat)(new:List α):List α->Option (List α) :=
 Nat.rec (motive:=λ _=>List α->Option (List α)) (λ l=>zM new l)
  (λ _ ih l=>B0 (motive:=λ _=>Option (List α)) B5 (λ x t _=>(ih t).bind λ r=>B1 (x::r)) l) o
def fR{α:Type}(l:List α)(o n:Nat):Option (List α):=Cy n (di o l)
inductive mF where
 |func (f:Nat)
 |yield (l:Nat)
inductive AV where
 |bool (b:Bool)
 |int (k:PJ) (n:Int)
 |str (s:List UInt8)
 |nilp
 |ptr (b o:Nat)
 |nils
 |slice (b o n c:Nat)
 |gslice (b i m size alt n:Nat)
 |eslice (b:Nat)
 |mH
 |map (b:Nat)
 |fn (f:mF) (first captured:List AV)
 |nilf
 |iface (t:Nat) (v:AV)
 |nili
 |agg (l:List AV)
 |tuple (l:List AV)
instance:Inhabited AV:=⟨.nili⟩
def AV.undef:AV:=.tuple []
def AV.cells:AV->List AV
 | .agg l=>l
 |v=>[v]
inductive bL where
 |tmp (t:Nat)
 |const (v:AV)
 |eL (g:Nat)
 |func (f:Nat)
inductive d9 where
 |tmp (t:Nat)
 |kY (a:Nat)
 |cV (n:Nat) (a:Nat)
inductive im where
 |exit (id:Nat)|goto (l:Nat)|ret
inductive nj where
 |ready|busy|done|exhausted
inductive aK where
 |iy (b:Nat)
 |fn (f:mF) (args:List AV)
inductive bE where
 |row (cells:List AV) (elem:Nat) (fz:Nat×Nat) (own:Bool)
 |grown (m size:Nat) (cells:List AV) (elem:Nat) (fz:Nat×Nat)
 |map (es:List (AV×AV×Nat)) (clock:Nat)
 |mE (s:List UInt8) (pos:Nat)
 |loop (st:nj) (pend:Option im) (fn k:Nat) (tm:T AV) (defers:Nat)
 |deferred (calls:Option (List aK))
structure ar where
 t:T bE
 au:Nat
namespace ar
def get(H:ar)(b:Nat):Option bE:=H.t.get b
def set(H:ar)(b:Nat)(o:bE):ar:={H with t:=H.t.set b o}
def alloc(H:ar)(o:bE):ar:={t:=H.t.set H.au o,au:=H.au+1}
def kill(H:ar)(b:Nat):ar:={H with t:=H.t.put b B5}
def bW(H:ar)(b:Nat):Option (List AV) :=
 match H.get b with
 |some (.row c _ _ _)=>B1 c
 |some (.grown _ _ c _ _)=>B1 c
 |_=>B5
end ar
def ar.ae(H:ar)(b o:Nat):Option AV:=(H.bW b).bind λ l=>nth l o
def ar.fj(H:ar)(b:Nat):Option (List (AV×AV×Nat)×Nat) :=
 match H.get b with
 |some (.map es c)=>B1 (es,c)
 |_=>B5
def ar.aq(H:ar)(b o n:Nat):Option (List AV):=(H.bW b).bind λ l=>fR l o n
def dE(fz:Nat×Nat)(o n:Nat):Bool:=Oh (o+n) fz.1 ||Oh fz.2 o
def aB:AV->Bool
 | .agg _| .tuple _=>B2
 |_=>B4
def aN(l:List AV):Bool:=B0 (motive:=λ _=>Bool) B4 (λ x _ ih=>cond (aB x) ih B2) l
def ar.store(H:ar)(b o:Nat)(new:List AV):Option ar :=
 cond (aN new) (match H.get b with
  |some (.row c e fz B4)=>cond (dE fz o (cQ new)) ((putAt o new c).bind λ c'=>B1 (H.set b (.row c' e fz B4))) B5
  |some (.grown m s c e fz)=>cond (dE fz o (cQ new)) ((putAt o new c).bind λ c'=>B1 (H.set b (.grown m s c' e fz))) B5
  |_=>B5) B5
def rY(tm:T AV):bL->Option AV
 | .tmp t=>tm.get t
 | .const v=>B1 v
 | .eL g=>B1 (.ptr g 0)
 | .func f=>B1 (.fn (.func f) [] [])
def mI(tm:T AV):List bL->Option (List AV)
 |[]=>B1 []
 |x::xs=>(rY tm x).bind λ v=>(mI tm xs).bind λ vs=>B1 (v::vs)
structure Ev where
 run:T AV->Option AV
structure Evs where
 run:T AV->Option (List AV)
def Oj:bL->Ev
 | .tmp t=>⟨(T.pw (T.path t)).run⟩
 | .const v=>⟨λ _=>B1 v⟩
 | .eL g=>⟨λ _=>B1 (.ptr g 0)⟩
 | .func f=>⟨λ _=>B1 (.fn (.func f) [] [])⟩
def vL:List bL->Evs
 |[]=>⟨λ _=>B1 []⟩
 |[x]=>⟨λ tm=>((Oj x).run tm).bind λ v=>B1 [v]⟩
 |x::xs=>⟨λ tm=>((Oj x).run tm).bind λ v=>((vL xs).run tm).bind λ vs=>B1 (v::vs)⟩
def vN(a b:Int):Bool:=match a,b with
 | .ofNat m,.ofNat n=>Oh m n
 | .ofNat _,.negSucc _=>B2
 | .negSucc _,.ofNat _=>B4
 | .negSucc m,.negSucc n=>Oh n m
def AR(a b:Int):Bool:=!vN b a
def u6(a b:Int):Bool:=match a,b with
 | .ofNat m,.ofNat n=>JW m n
 | .negSucc m,.negSucc n=>JW m n
 |_,_=>B2
def kB:PJ->Nat
 | .i8=>0| .i16=>1| .i32=>2| .i64=>3| .u8=>4| .u16=>5| .u32=>6| .u64=>7
def sO(a b:PJ):Bool:=JW (kB a) (kB b)
def Fv(a b:UInt8):Bool:=JW a.toNat b.toNat
def A5:List UInt8->List UInt8->Bool
 |[],[]=>B4
 |a::x,b::y=>cond (Fv a b) (A5 x y) B2
 |_,_=>B2
inductive aR where
 |int|str|bool
 |nil
 |part (off:Nat) (n:Option Nat) (t rest:aR)
def partAt(l:List AV)(off:Nat):Option Nat->Option AV
 |none=>nth l off
 |some k=>(fR l off k).bind λ c=>B1 (.agg c)
def aY:aR->AV->AV->Option Bool
 | .int,.int k a,.int k' b=>cond (sO k k') (B1 (u6 a b)) B5
 | .str,.str a,.str b=>B1 (A5 a b)
 | .bool,.bool a,.bool b=>B1 (a == b)
 | .nil,.agg _,.agg _=>B1 B4
 | .part off n t rest,.agg x,.agg y=>(partAt x off n).bind λ a=>(partAt y off n).bind λ b=>(aY t a b).bind λ q =>
  cond q (aY rest (.agg x) (.agg y)) (B1 B2)
 |_,_,_=>B5
def db:aR->AV->Bool
 | .int,.int _ _=>B4
 | .str,.str _=>B4
 | .bool,.bool _=>B4
 | .nil,.agg _=>B4
 | .part off n t rest,.agg x=>match partAt x off n with
  |some a=>cond (db t a) (db rest (.agg x)) B2
  |none=>B2
 |_,_=>B2
def bytesLess:List UInt8->List UInt8->Bool
 |_,[]=>B2
 |[],_::_=>B4
 |a::x,b::y=>Pk a.toNat b.toNat ||(Fv a b && bytesLess x y)
def rX(op:BinOp)(a b:List UInt8):Option AV :=
 match op with
 | .add=>cond (Oh (a.length+b.length) 140737488355328) (B1 (.str (a++b))) B5
 | .eql=>B1 (.bool (A5 a b))
 | .neq=>B1 (.bool (!(A5 a b)))
 | .lss=>B1 (.bool (bytesLess a b))
 | .leq=>B1 (.bool (bytesLess a b ||A5 a b))
 | .gtr=>B1 (.bool (!(bytesLess a b ||A5 a b)))
 | .geq=>B1 (.bool (!bytesLess a b))
 |_=>B5
def aj(k:PJ)(n:Int):Int:=k.wrap n
def gH(op:BinOp)(k:PJ)(a b:Int):Option AV :=
 match op with
 | .add=>B1 (.int k (aj k (a+b)))
 | .sub=>B1 (.int k (aj k (a-b)))
 | .mul=>B1 (.int k (aj k (a*b)))
 | .quo=>cond (u6 b 0) B5 (B1 (.int k (aj k (a.tdiv b))))
 | .rem=>cond (u6 b 0) B5 (B1 (.int k (a.tmod b)))
 | .and=>B1 (.int k (aj k ((BE k.bits a &&& BE k.bits b).toNat)))
 | .or=>B1 (.int k (aj k ((BE k.bits a |||BE k.bits b).toNat)))
 | .xor=>B1 (.int k (aj k ((BE k.bits a ^^^ BE k.bits b).toNat)))
 | .andNot=>B1 (.int k (aj k ((BE k.bits a &&& ~~~(BE k.bits b)).toNat)))
 | .eql=>B1 (.bool (u6 a b))
 | .neq=>B1 (.bool (!u6 a b))
 | .lss=>B1 (.bool (AR a b))
 | .leq=>B1 (.bool (vN a b))
 | .gtr=>B1 (.bool (AR b a))
 | .geq=>B1 (.bool (vN b a))
 |_=>B5
inductive xI where
 |bool|ptr|slice|map|func|iface
 |ifaces (f:Nat->Option aR)
 |agg (t:aR)
def tt(isNil isSome:AV->Bool)(x y:AV):Option Bool :=
 cond (isNil x) (cond (isNil y) (B1 B4) (cond (isSome y) (B1 B2) B5)) (cond (isSome x && isNil y) (B1 B2) B5)
def EU:AV->Bool
 | .nils=>B4
 |_=>B2
def isSlice:AV->Bool
 | .slice ..=>B4
 | .gslice ..=>B4
 | .eslice _=>B4
 |_=>B2
def Fx:AV->Bool
 | .mH=>B4
 |_=>B2
def isMap:AV->Bool
 | .map _=>B4
 |_=>B2
def CW:AV->Bool
 | .nilf=>B4
 |_=>B2
def Sj:AV->Bool
 | .fn ..=>B4
 |_=>B2
def EG:AV->Bool
 | .nili=>B4
 |_=>B2
def isIface:AV->Bool
 | .iface ..=>B4
 |_=>B2
def zF(H:ar)(b b':Nat):Bool :=
 match H.get b,H.get b' with
 |some (.row _ _ (0,0) B4),B1 (.row (_::_) _ _ _)=>B4
 |some (.row (_::_) _ _ _),B1 (.row _ _ (0,0) B4)=>B4
 |_,_=>B2
def ud(op:BinOp)(k:PJ)(a b:Int):Option AV :=
 cond (AR b 0) B5 (match op with
  | .shl=>B1 (.int k (aj k (a*2 ^ (min b.toNat k.bits))))
  |_=>B1 (.int k (a.fdiv (2 ^ (min b.toNat k.bits)))))
def eB:BinOp->Bool
 | .shl| .shr=>B4
 |_=>B2
def Kn(H:ar):xI->AV->AV->Option Bool
 | .bool,.bool a,.bool b=>B1 (a == b)
 | .ptr,.nilp,.nilp=>B1 B4
 | .ptr,.nilp,.ptr _ _=>B1 B2
 | .ptr,.ptr _ _,.nilp=>B1 B2
 | .ptr,.ptr b o,.ptr b' o'=>cond (JW b b') (B1 (JW o o')) (cond (zF H b b') (B1 B2) B5)
 | .slice,x,y=>tt EU isSlice x y
 | .map,x,y=>tt Fx isMap x y
 | .func,x,y=>tt CW Sj x y
 | .iface,x,y=>tt EG isIface x y
 | .ifaces f,.iface t a,.iface u b=>cond (JW t u) ((f t).bind λ q=>aY q a b) (B1 B2)
 | .ifaces _,.nili,.iface _ _=>B1 B2
 | .ifaces _,.iface _ _,.nili=>B1 B2
 | .agg t,x,y=>aY t x y
 |_,_,_=>B5
def nP(op:BinOp)(x y:AV):Option AV :=
 match x,y with
 | .int k a,.int k' b=>cond (eB op) (ud op k a b) (cond (sO k k') (gH op k a b) B5)
 | .str a,.str b=>rX op a b
 |_,_=>B5
def n_(op:UnOp)(x:AV):Option AV :=
 match op,x with
 | .neg,.int k n=>B1 (.int k (aj k (0-n)))
 | .xor,.int k n=>gH .xor k (if k.signed then -1 else k.max) n
 | .not,.bool b=>B1 (.bool (!b))
 |_,_=>B5
def jH(cells:List AV):List (Nat×Nat)->List AV->Option (List AV)
 |[],[]=>B1 cells
 |(off,size)::ps,v::vs=>cond (JW (cQ v.cells) size) ((putAt off v.cells cells).bind λ c=>jH c ps vs) B5
 |_,_=>B5
def fM(n:Nat)(z:List AV):List AV :=
 match n with
 |0=>[]
 |n+1=>kK z (fM n z)
def within(i:Int)(n:Nat):Option Nat:=match i with
 | .ofNat k=>cond (Pk k n) (B1 k) B5
 | .negSucc _=>B5
def arg(vs:List AV):Option Nat->Option (Option AV)
 |none=>B1 B5
 |some i=>(nth vs i).bind λ v=>B1 (B1 v)
def bound(v:Option AV)(d mx:Nat):Option Nat :=
 match v with
 |none=>B1 d
 |some (.int _ (.ofNat i))=>cond (Oh i mx) (B1 i) B5
 |_=>B5
def df(size:Nat)(x:AV)(lo hi mx:Option AV):Option AV :=
 match x with
 | .nils=>match mx with
  |none=>(bound hi 0 0).bind λ h=>(bound lo 0 h).bind λ _=>B1 .nils
  |some _=>B5
 | .slice b o n c=>match mx,hi with
  |some _,B5=>B5
  |mx,hi=>(bound mx c c).bind λ m=>(bound hi n m).bind λ h=>(bound lo 0 h).bind λ l =>
   B1 (.slice b (cond (JW m l) o (o+l*size)) (h-l) (m-l))
 | .gslice b i m s alt n =>
  cond (JW s size && Oh i m) (match mx,hi with
   |none,hi=>(bound hi n (m-i)).bind λ h=>(bound lo 0 h).bind λ l =>
    cond (Oh h (m-i)) (B1 (.gslice b (i+l) m s (cond (JW l 0) alt (i*s)) (h-l))) B5
   |some _,B5=>B5
   |mx,hi=>(bound mx 0 (m-i)).bind λ x=>(bound hi 0 x).bind λ h=>(bound lo 0 h).bind λ l =>
    cond (JW x l) B5 (B1 (.slice b ((i+l)*s) (h-l) (x-l)))) B5
 | .eslice b=>match mx with
  |none=>(bound hi 0 0).bind λ h=>(bound lo 0 h).bind λ _=>B1 (.eslice b)
  |some _=>B5
 |_=>B5
def eJ:AV->Option Nat
 | .str s=>B1 (cQ s)
 | .nils=>B1 0
 | .slice _ _ n _=>B1 n
 | .gslice _ _ _ _ _ n=>B1 n
 | .eslice _=>B1 0
 |_=>B5
def elemAt(size:Nat)(x:AV)(j:Nat):Option (Nat×Nat) :=
 match x with
 | .slice b o n _=>cond (Pk j n) (B1 (b,o+j*size)) B5
 | .gslice b i m s _ n=>cond (Pk j n && JW s size && Pk (i+j) m) (B1 (b,i*s+j*s)) B5
 |_=>B5
def firstCells(H:ar)(size n:Nat)(x:AV):Option (List AV) :=
 match x with
 | .nils=>B1 []
 | .str s=>cond (JW size 1) (B1 ((s.take n).map λ b=>.int .u8 b.toNat)) B5
 | .slice b o _ _=>cond (JW n 0) (B1 []) (H.aq b o (n*size))
 | .gslice b i m s _ _=>cond (JW n 0) (B1 []) (cond (JW s size && Pk i m) (H.aq b (i*s) (n*size)) B5)
 | .eslice _=>cond (JW n 0) (B1 []) B5
 |_=>B5
def eX(n:Int):AV:=.int .i64 n
def findKey(t:aR)(k:AV):List (AV×AV×Nat)->Nat->Option (Option (Nat×AV))
 |[],_=>B1 B5
 |(k',v,_)::es,i=>(aY t k k').bind λ q=>cond q (B1 (B1 (i,v))) (findKey t k es (i+1))
def IA(c:UInt8):List UInt8->Nat->Option Nat
 |[],_=>B5
 |x::l,i=>cond (Fv x c) (B1 i) (IA c l (i+1))
def wR(c:UInt8):List UInt8->Nat
 |[]=>0
 |x::l=>cond (Fv x c) (wR c l+1) (wR c l)
def byteOf:AV->Option UInt8
 | .int .u8 n=>B1 (BX n.toNat)
 |_=>B5
def bytesOf:List AV->Option (List UInt8)
 |[]=>B1 []
 |x::l=>(byteOf x).bind λ b=>(bytesOf l).bind λ r=>B1 (b::r)
def fits(n bytes:Nat):Bool:=Oh (n*bytes) 140737488355328 && Oh n 140737488355328
def dC(H:ar)(e size n:Nat)(cells:List AV)(fz:Nat×Nat):AV×ar :=
 (.gslice H.au 0 n size 0 n,H.alloc (.grown n size cells e fz))
def cO(H:ar)(e size bytes:Nat)(s:AV)(n:Nat)(new:List AV):Option (AV×ar) :=
 match s with
 | .nils=>cond (JW n 0) (B1 (.nils,H)) (cond (fits n bytes && Pk 0 size) (B1 (dC H e size n new (0,0))) B5)
 | .slice b o len c =>
  cond (Oh (len+n) c)
   (cond (JW n 0) (B1 (.slice b o (len+n) c,H)) ((H.store b (o+len*size) new).bind λ H'=>B1 (.slice b o (len+n) c,H')))
   (cond (fits (len+n) bytes && Oh c (len+n) && Pk 0 size)
    ((firstCells H size len (.slice b o len c)).bind λ old=>B1 (dC H e size (len+n) (kK old new) (0,0))) B5)
 | .gslice b i m sz alt len =>
  cond (JW n 0) (cond (Oh (i+len) m) (B1 (.gslice b i m sz alt len,H)) B5) (cond (JW sz size && Oh (i+len) m && Pk 0 size)
   (cond (Oh (i+len+n) m)
    ((H.store b ((i+len)*size) new).bind λ H'=>B1 (.gslice b i m sz alt (len+n),H'))
    (cond (fits (len+n) bytes) (match H.get b with
     |some (.grown m' sz' c e' fz) =>
      cond (JW m m' && JW sz sz' && JW e' e)
       (cond (JW i 0 && JW len m && Oh fz.2 (m*size)) (B1 (dC (H.kill b) e size (len+n) (kK c new) fz)) (cond (Oh fz.2 (i*size))
        ((fR c (i*size) (len*size)).bind λ old=>B1 (dC (H.kill b) e size (len+n) (kK old new) (cond (JW fz.1 fz.2) (0,0) (1,0))))
        (cond (JW i 0 && Oh fz.2 (len*size))
         ((fR c 0 (len*size)).bind λ old=>B1 (dC (H.kill b) e size (len+n) (kK old new) fz)) B5))) B5
     |_=>B5) B5)) B5)
 |_=>B5
namespace Op
def fail:List AV->Option AV:=λ _=>B5
def move:List AV->Option AV
 |[v]=>B1 v
 |_=>B5
def pick:List AV->Option AV
 |[.bool q,a,b]=>B1 (cond q a b)
 |_=>B5
def build(zero:List AV)(places:List (Nat×Nat))(vs:List AV):Option AV :=
 (jH zero places vs).bind λ c=>B1 (.agg c)
def nilCheck:List AV->Option AV
 |[.nilp]|[.nili]|[.nilf]=>B5
 |[.fn (.func f) a b]=>B1 (.fn (.func f) a b)
 |[.fn _ _ _]=>B5
 |[v]=>B1 v
 |_=>B5
def bin(op:BinOp):List AV->Option AV
 |[x,y]=>nP op x y
 |_=>B5
def eq(t:xI)(neg:Bool):List AV->ar->Option AV
 |[x,y],H=>(Kn H t x y).bind λ q=>B1 (.bool (cond neg (!q) q))
 |_,_=>B5
def un(op:UnOp):List AV->Option AV
 |[x]=>n_ op x
 |_=>B5
def wrap(k:PJ):List AV->Option AV
 |[.int _ n]=>B1 (.int k (aj k n))
 |_=>B5
def dR:List AV->Option AV
 |[.int _ n]=>cond (vN 0 n && AR n 128) (B1 (.str [BX n.toNat])) B5
 |_=>B5
def eM:List AV->Option AV
 |[.str s]=>B1 (.str s)
 |_=>B5
def dH(t:Nat):List AV->Option AV
 |[v]=>B1 (.iface t v)
 |_=>B5
def bt(f nf:Nat)(l:List AV):Option AV:=B1 (.fn (.func f) (l.take nf) (l.drop nf))
def dS:List (Option Nat)->List AV->Option AV
 |[lo,hi],.str s::vs =>
  (arg vs hi).bind λ b=>(arg vs lo).bind λ a=>(bound b s.length s.length).bind λ h=>(bound a 0 h).bind λ l=>B1 (.str ((s.take h).drop l))
 |_,_=>B5
def aA(size:Nat):List (Option Nat)->List AV->Option AV
 |[lo,hi,mx],x::vs=>(arg vs lo).bind λ a=>(arg vs hi).bind λ b=>(arg vs mx).bind λ m=>df size x a b m
 |_,_=>B5
def cP(n size:Nat):List (Option Nat)->List AV->Option AV
 |[lo,hi,mx],.ptr p o::vs=>(arg vs lo).bind λ a=>(arg vs hi).bind λ b=>(arg vs mx).bind λ m=>df size (.slice p o n n) a b m
 |_,_=>B5
def fieldAddr(off:Nat):List AV->Option AV
 |[.ptr b o]=>B1 (.ptr b (o+off))
 |_=>B5
def field(off:Nat)(n:Option Nat):List AV->Option AV
 |[.agg l]=>partAt l off n
 |_=>B5
def aQ(size:Nat):List AV->Option AV
 |[x,.int _ j]=>(eJ x).bind λ n=>(within j n).bind λ k=>(elemAt size x k).bind λ p=>B1 (.ptr p.1 p.2)
 |_=>B5
def aV(len size:Nat):List AV->Option AV
 |[.ptr b o,.int _ j]=>(within j len).bind λ k=>B1 (.ptr b (o+k*size))
 |_=>B5
def bG(len size:Nat)(n:Option Nat):List AV->Option AV
 |[.agg l,.int _ j]=>(within j len).bind λ k=>partAt l (k*size) n
 |_=>B5
def bO:List AV->Option AV
 |[.str s,.int _ j]=>(within j s.length).bind λ k=>(nth s k).bind λ b=>B1 (.int .u8 b.toNat)
 |_=>B5
def typeAssert(t:Nat)(ok:Bool)(zero:AV):List AV->Option AV
 |[.nili]=>cond ok (B1 (.tuple [zero,.bool B2])) B5
 |[.iface u v]=>cond (JW u t) (B1 (cond ok (.tuple [v,.bool B4]) v)) (cond ok (B1 (.tuple [zero,.bool B2])) B5)
 |_=>B5
def extract(i:Nat):List AV->Option AV
 |[.tuple l]=>nth l i
 |_=>B5
def fE:List AV->Option AV
 |[.str s]=>B1 (eX (cQ s))
 |_=>B5
def cD:List AV->Option AV
 |[.nils]=>B1 (eX 0)
 |[.slice _ _ n _]=>B1 (eX n)
 |[.gslice _ _ _ _ _ n]=>B1 (eX n)
 |[.eslice _]=>B1 (eX 0)
 |_=>B5
def oY(n:Nat):List AV->Option AV
 |[_]=>B1 (eX n)
 |_=>B5
def cap:List AV->Option AV
 |[.nils]=>B1 (eX 0)
 |[.slice _ _ _ c]=>B1 (eX c)
 |_=>B5
def iI(mx:Bool):Int->List AV->Option Int
 |a,[]=>B1 a
 |a,.int _ b::l=>iI mx (cond mx (cond (AR a b) b a) (cond (AR b a) b a)) l
 |_,_=>B5
def fg(mx:Bool):List AV->Option AV
 | .int k a::l=>(iI mx a l).bind λ r=>B1 (.int k r)
 |_=>B5
def dp:List AV->Option AV
 |[.nils]=>B1 .nilp
 |[.slice b o _ c]=>cond (JW c 0) B5 (B1 (.ptr b o))
 |[.gslice b i m s _ _]=>cond (Pk i m) (B1 (.ptr b (i*s))) B5
 |_=>B5
def dM:List AV->Option AV
 |[x]=>B1 x
 |_=>B5
def aD:List AV->Option AV
 |[.str s,.int .u8 c]=>B1 (eX (match IA (BX c.toNat) s 0 with|some i=>i|none=>-1))
 |_=>B5
def bV:List AV->Option AV
 |[.str s,.int .u8 c]=>B1 (eX (Int.ofNat (wR (BX c.toNat) s)))
 |_=>B5
def ae:List AV->ar->Option AV
 |[.ptr b o],H=>H.ae b o
 |_,_=>B5
def aq(n:Nat):List AV->ar->Option AV
 |[.ptr b o],H=>(H.aq b o n).bind λ l=>B1 (.agg l)
 |_,_=>B5
def cH:List AV->ar->Option AV
 |[.str _],_=>B5
 |[v],H=>(eJ v).bind λ n=>(firstCells H 1 n v).bind λ l=>(bytesOf l).bind λ s=>B1 (.str s)
 |_,_=>B5
def lookup(key:aR)(zero:AV)(ok:Bool):List AV->ar->Option AV
 |[.mH,k],_=>cond (db key k) (B1 (cond ok (.tuple [zero,.bool B2]) zero)) B5
 |[.map b,k],H=>cond (db key k) ((H.fj b).bind λ m=>(findKey key k m.1 0).bind λ r=>match r with
  |some p=>B1 (cond ok (.tuple [p.2,.bool B4]) p.2)
  |none=>B1 (cond ok (.tuple [zero,.bool B2]) zero)) B5
 |_,_=>B5
def gJ:List AV->ar->Option AV
 |[.mH],_=>B1 (eX 0)
 |[.map b],H=>(H.fj b).bind λ m=>B1 (eX m.1.length)
 |_,_=>B5
def eR(lies:Nat->Nat->Nat->Bool):List AV->ar->Option AV
 |[.nilp],_=>B1 .nilp
 |[.ptr b o],H=>match H.get b with
  |some (.row c e _ B4)=>cond (lies e c.length o) (B1 (.ptr b o)) B5
  |_=>B5
 |_,_=>B5
def ptrTo(b:Nat):AV:=.ptr b 0
def alloc(e:Nat)(zero:List AV):List AV->Option (bE×(Nat->AV))
 |[]=>B1 (.row zero e (0,0) B4,ptrTo)
 |_=>B5
def box(e:Nat):List AV->Option (bE×(Nat->AV))
 |[v]=>B1 (.row v.cells e (0,0) B4,ptrTo)
 |_=>B5
def sliceTo(n m:Nat)(b:Nat):AV:=.slice b 0 n m
def buildSlice(e n:Nat)(zero:List AV)(places:List (Nat×Nat))(vs:List AV):Option (bE×(Nat->AV)) :=
 (jH (fM n zero) places vs).bind λ c=>B1 (.row c e (0,0) B4,sliceTo n n)
def mkMap:List AV->Option (bE×(Nat->AV))
 |[]=>B1 (.map [] 0,.map)
 |_=>B5
def mkSlice(e bytes:Nat)(zero:List AV):List AV->Option (bE×(Nat->AV))
 |[.int _ n,.int _ m]=>cond (vN 0 n && vN n m && vN (m*bytes) 140737488355328 && vN m 140737488355328)
  (B1 (.row (fM m.toNat zero) e (0,0) B4,sliceTo n.toNat m.toNat)) B5
 |_=>B5
def r_(m n:Nat)(b:Nat):AV:=.gslice b 0 m 1 0 n
def cI(e:Nat):List AV->Option (bE×(Nat->AV))
 |[.str s]=>cond (Oh s.length 140737488355328) (B1 (.grown s.length 1 (s.map λ b=>.int .u8 b.toNat) e (1,0),r_ s.length s.length)) B5
 |_=>B5
def dP:List AV->Option (bE×(Nat->AV))
 |[.str s]=>B1 (.mE s 0,ptrTo)
 |_=>B5
def makeNoZero(e:Nat):List AV->Option (bE×(Nat->AV))
 |[.int .i64 n]=>cond (vN 0 n && vN n 140737488355328) (B1 (.grown 0 1 [] e (0,0),r_ 0 n.toNat)) B5
 |_=>B5
def store(n:Nat):List AV->ar->Option (AV×ar)
 |[.ptr b o,v],H=>cond (JW (cQ v.cells) n) ((H.store b o v.cells).bind λ H'=>B1 (.undef,H')) B5
 |_,_=>B5
def uJ:AV->AV->Bool
 | .int k a,.int k' b=>sO k k' && u6 a b
 | .str a,.str b=>A5 a b
 | .bool a,.bool b=>a == b
 |_,_=>B2
def fy:List AV->List AV->Bool
 |[],[]=>B4
 |a::x,b::y=>cond (uJ a b) (fy x y) B2
 |_,_=>B2
def stays:AV->AV->Bool
 | .agg a,.agg b=>fy a b
 |a,b=>uJ a b
def mapUpdate(key:aR):List AV->ar->Option (AV×ar)
 |[.map b,k,v],H=>cond (db key k) ((H.fj b).bind λ m=>(findKey key k m.1 0).bind λ r=>match r with
  |some p=>(nth m.1 p.1).bind λ e=>cond (stays e.1 k) (B1 (.undef,H.set b (.map (m.1.modify p.1 λ e=>(k,v,e.2.2)) m.2))) B5
  |none=>B1 (.undef,H.set b (.map (m.1 ++ [(k,v,m.2)]) (m.2+1)))) B5
 |_,_=>B5
def dk(key:aR):List AV->ar->Option (AV×ar)
 |[.mH,k],H=>cond (db key k) (B1 (.tuple [],H)) B5
 |[.map b,k],H=>cond (db key k) ((H.fj b).bind λ m=>(findKey key k m.1 0).bind λ r=>match r with
  |some p=>B1 (.tuple [],H.set b (.map (m.1.eraseIdx p.1) m.2))
  |none=>B1 (.tuple [],H.set b (.map m.1 m.2))) B5
 |_,_=>B5
def eN:List AV->ar->Option (AV×ar)
 |[.ptr b 0],H=>match H.get b with
  |some (.mE s p)=>match nth s p with
   |some c=>cond (Pk c.toNat 128) (B1 (.tuple [.bool B4,eX p,.int .i32 c.toNat],H.set b (.mE s (p+1)))) B5
   |none=>B1 (.tuple [.bool B2],H)
  |_=>B5
 |_,_=>B5
def append(e size bytes:Nat):List AV->ar->Option (AV×ar)
 |[a,b],H=>(eJ b).bind λ n=>(firstCells H size n b).bind λ new=>cond (aN new) (cO H e size bytes a n new) B5
 |_,_=>B5
def copy(size:Nat):List AV->ar->Option (AV×ar)
 |[.str _,_],_=>B5
 |[d,r],H=>(eJ d).bind λ dn=>(eJ r).bind λ rn=>(firstCells H size (min rn dn) r).bind λ l =>
  cond (JW (min rn dn) 0) (B1 (eX 0,H)) ((elemAt size d 0).bind λ p=>(H.store p.1 p.2 l).bind λ H'=>B1 (eX (min rn dn),H'))
 |_,_=>B5
def bP(zero:List AV):List AV->ar->Option (AV×ar)
 |[.str _],_=>B5
 |[x],H=>(eJ x).bind λ n=>cond (JW n 0) (B1 (.tuple [],H))
  ((elemAt zero.length x 0).bind λ p=>(H.store p.1 p.2 (fM n zero)).bind λ H'=>B1 (.tuple [],H'))
 |_,_=>B5
def bS:List AV->ar->Option (AV×ar)
 |[.mH],H=>B1 (.tuple [],H)
 |[.map b],H=>(H.fj b).bind λ m=>B1 (.tuple [],H.set b (.map [] m.2))
 |_,_=>B5
def xW(fz:Nat×Nat)(o n:Nat):Nat×Nat:=cond (JW fz.1 fz.2) (o,o+n) (min fz.1 o,max fz.2 (o+n))
def eU:List AV->ar->Option (AV×ar)
 |[.slice b o n c],H=>match H.get b with
  |some (.row cs e fz B4)=>B1 (.slice b o n c,H.set b (.row cs e (xW fz (cQ cs) 1) B4))
  |_=>B5
 |_,_=>B5
def dQ(u:Nat):List AV->ar->Option (AV×ar)
 |[.nilp,.int _ k],H=>cond (u6 k 0) (B1 (.str [],H)) B5
 |[.ptr b o,.int _ k],H=>cond (u6 k 0) (B1 (.str [],H)) (cond (AR k 0 ||AR 140737488355328 k) B5 (match H.get b with
  |some (.row c e fz B4)=>cond (JW e u) ((fR c o k.toNat).bind λ l=>(bytesOf l).bind λ s=>B1 (.str s,H.set b (.row c e (xW fz o k.toNat) B4))) B5
  |some (.grown m z c e fz)=>cond (JW e u && Oh fz.1 fz.2) ((fR c o k.toNat).bind λ l=>(bytesOf l).bind λ s=>B1 (.str s,H.set b (.grown m z c e (xW fz o k.toNat)))) B5
  |_=>B5))
 |_,_=>B5
end Op
inductive fN where
 |pure (f:List AV->Option AV)
 |read (f:List AV->ar->Option AV)
 |alloc (f:List AV->Option (bE×(Nat->AV)))
 |gU (f:List AV->ar->Option (AV×ar))
 |iq (f:Nat)
 |ic
 |invoke (name:String)
 |recover
 |defer
 |panic
structure aP where
 iv:Bool
 dst:Option Nat
 guard:Option (Nat×Bool)
 args:List bL
 op:fN
 cK:Option (List Nat)
inductive ai where
 |skip
 |region (steps:List aP)
 |seq (a b:ai)
 |cond (c:bL) (thn els:ai)
 |block (id:Nat) (body:ai)
 |loop (ah:Option (List Nat)) (body:ai)
 |rangeFunc (f:bL) (k:Nat)
 |exit (id:Nat)
 |scope (body:ai)
 |label (l:Nat)
 |goto (l:Nat)
 |ret
 |stuck
instance:Inhabited ai:=⟨.skip⟩
structure dT where
 params:List Nat
 assign:ai
 body:ai
structure bZ where
 results:List d9
 body:ai
 loops:List dT
structure jU where
 func:Nat->Option bZ
 kD:Nat->String->Option Nat
abbrev aG:=List (AV×Bool)
structure St where
 tm:T AV
 aZ:List aK
 up:Option aG
 H:ar
inductive aW where
 |normal
 |exit (id:Nat)
 |goto (l:Nat)
 |ret
 |panic (chain:aG)
inductive bI where
 |ret (v:AV)
 |panic (chain:aG)
abbrev cj:=Nat->List AV->Option aG->ar->Option (bI×Option aG×ar)
structure Ctx where
 round:Option Nat
 fn:Nat
end
end Go.Am
namespace Go.Am
noncomputable section
def Kx:T AV->List Nat->List AV->Option (T AV)
 |tm,[],[]=>B1 tm
 |tm,p::ps,v::vs=>Kx (tm.set p v) ps vs
 |_,_,_=>B5
def jO:Nat->List AV->T AV->T AV
 |_,[],t=>t
 |i,v::vs,t=>jO (i+1) vs (t.set i v)
def kX:aW->Option im
 | .exit id=>B1 (.exit id)
 | .goto l=>B1 (.goto l)
 | .ret=>B1 .ret
 |_=>B5
def qP:Option im->aW
 |none=>.normal
 |some (.exit id)=>.exit id
 |some (.goto l)=>.goto l
 |some .ret=>.ret
def Ak:aW->Bool
 | .normal=>B4
 |_=>B2
def YM(tm:T AV):List Nat->T AV->T AV
 |[],acc=>acc
 |k::ks,acc=>YM tm ks (acc.put k (tm.get k))
def forget:List Nat->T AV->T AV
 |[],t=>t
 |d::ds,t=>forget ds (t.put d B5)
def eK(dst:Option Nat)(v:AV)(tm:T AV):T AV :=
 match dst with
 |some d=>tm.set d v
 |none=>tm
structure Vy where
 run:AV->T AV->T AV
def my:Option Nat->Vy
 |some d=>⟨λ v tm=>(T.DN (T.path d)).run (B1 v) tm⟩
 |none=>⟨λ _ tm=>tm⟩
abbrev gR:=Option (aW×St)
def gV(ah:Option (List Nat))(body:St->gR):Nat->St->gR
 |0,_=>B5
 |n+1,st =>
  (body (match ah with|none=>st|some ks=>{st with tm:=YM st.tm ks .nil})).bind λ r=>match r.1 with
   | .normal=>gV ah body n r.2
   |e=>B1 (e,r.2)
def FU:ai->Nat->Bool
 | .seq a b,l=>FU a l ||FU b l
 | .label l',l=>JW l' l
 |_,_=>B2
mutual
def cF:AV->AV->Bool
 | .bool a,.bool b=>a == b
 | .int k a,.int k' b=>sO k k' && u6 a b
 | .str a,.str b=>A5 a b
 | .nilp,.nilp=>B4
 | .ptr a b,.ptr c d=>JW a c && JW b d
 | .nils,.nils=>B4
 | .slice a b c d,.slice a' b' c' d'=>JW a a' && JW b b' && JW c c' && JW d d'
 | .gslice a b c d e f,.gslice a' b' c' d' e' f'=>JW a a' && JW b b' && JW c c' && JW d d' && JW e e' && JW f f'
 | .eslice a,.eslice b=>JW a b
 | .mH,.mH=>B4
 | .map a,.map b=>JW a b
 | .nilf,.nilf=>B4
 | .nili,.nili=>B4
 | .fn (.func f) x a,.fn (.func g) y b=>JW f g && fy x y && fy a b
 | .fn (.yield f) x a,.fn (.yield g) y b=>JW f g && fy x y && fy a b
 | .iface t a,.iface u b=>JW t u && cF a b
 | .agg a,.agg b=>fy a b
 | .tuple a,.tuple b=>fy a b
 |_,_=>B2
def fy:List AV->List AV->Bool
 |[],[]=>B4
 |x::xs,y::ys=>cF x y && fy xs ys
 |_,_=>B2
end
abbrev iS:=List AV->Nat->ar->Option (bI×ar)
structure RT where
 AP:jU
 call:cj
 round:iS
 n:Nat
 ctx:Ctx
def dc(call:cj)(round:iS)(f:mF)(args:List AV)(H:ar):Option (bI×ar) :=
 match f with
 | .func g=>(call g args B5 H).bind λ r=>B1 (r.1,r.2.2)
 | .yield l=>round args l H
def fV(put:AV->T AV->T AV)(cK:Option (List Nat))(st:St)(k:St->gR)(r:bI×ar):gR :=
 match r.1 with
 | .ret v=>k ⟨put v st.tm,st.aZ,st.up,r.2⟩
 | .panic c=>cK.bind λ ds=>B1 (.panic c,⟨forget ds st.tm,st.aZ,st.up,r.2⟩)
def Qp(put:AV->T AV->T AV)(st:St):St :=
 match st.up with
 |some ((v,B2)::older)=>⟨put v st.tm,st.aZ,B1 ((v,B4)::older),st.H⟩
 |_=>⟨put .nili st.tm,st.aZ,st.up,st.H⟩
def BH(f:List AV->Option AV)(put:AV->T AV->T AV)(st:St)(k:St->gR)(vs:List AV):gR :=
 (f vs).bind λ v=>k ⟨put v st.tm,st.aZ,st.up,st.H⟩
def Eo(f:List AV->ar->Option AV)(put:AV->T AV->T AV)(st:St)(k:St->gR)(vs:List AV):gR :=
 (f vs st.H).bind λ v=>k ⟨put v st.tm,st.aZ,st.up,st.H⟩
def wP(f:List AV->Option (bE×(Nat->AV)))(put:AV->T AV->T AV)(st:St)(k:St->gR)(vs:List AV):gR :=
 (f vs).bind λ r=>k ⟨put (r.2 st.H.au) st.tm,st.aZ,st.up,st.H.alloc r.1⟩
def M4(f:List AV->ar->Option (AV×ar))(put:AV->T AV->T AV)(st:St)(k:St->gR)(vs:List AV):gR :=
 (f vs st.H).bind λ r=>k ⟨put r.1 st.tm,st.aZ,st.up,r.2⟩
def C6(f:Nat)(rt:RT)(put:AV->T AV->T AV)(cK:Option (List Nat))(st:St)(k:St->gR)(vs:List AV):gR :=
 (dc rt.call rt.round (.func f) vs st.H).bind λ r=>fV put cK st k r
def CY(rt:RT)(put:AV->T AV->T AV)(cK:Option (List Nat))(st:St)(k:St->gR)(vs:List AV):gR :=
 match vs with
 | .fn (.func f) first cap::args=>(dc rt.call rt.round (.func f) (first++(args++cap)) st.H).bind λ r=>fV put cK st k r
 | .fn (.yield l) first []::args=>(dc rt.call rt.round (.yield l) (first++args) st.H).bind λ r=>fV put cK st k r
 |_=>B5
def tX(name:String)(rt:RT)(put:AV->T AV->T AV)(cK:Option (List Nat))(st:St)(k:St->gR)(vs:List AV):gR :=
 match vs with
 | .iface t v::args=>(rt.AP.kD t name).bind λ f=>(dc rt.call rt.round (.func f) (v::args) st.H).bind λ r=>fV put cK st k r
 |_=>B5
def TD(rt:RT)(put:AV->T AV->T AV)(st:St)(k:St->gR)(vs:List AV):gR :=
 match rt.ctx.round with
 |some _=>B5
 |none=>match vs with
  |[]=>k (Qp put st)
  |_=>B5
def xE(rt:RT)(put:AV->T AV->T AV)(st:St)(k:St->gR)(vs:List AV):gR :=
 match rt.ctx.round with
 |some _=>B5
 |none=>match vs with
  | .fn (.func f) first cap::args=>k ⟨put .undef st.tm,.fn (.func f) (first++(args++cap))::st.aZ,st.up,st.H⟩
  |_=>B5
def xJ(put:AV->T AV->T AV)(cK:Option (List Nat))(st:St)(k:St->gR)(vs:List AV):gR :=
 match vs with
 |[.iface t v]=>fV put cK st k (.panic [(.iface t v,B2)],st.H)
 |_=>B5
structure OpC where
 run:RT->St->(St->gR)->List AV->gR
def rE(put:AV->T AV->T AV)(cK:Option (List Nat)):fN->OpC
 | .pure f=>⟨λ _ st k vs=>BH f put st k vs⟩
 | .read f=>⟨λ _ st k vs=>Eo f put st k vs⟩
 | .alloc f=>⟨λ _ st k vs=>wP f put st k vs⟩
 | .gU f=>⟨λ _ st k vs=>M4 f put st k vs⟩
 | .iq f=>⟨λ rt st k vs=>C6 f rt put cK st k vs⟩
 | .ic=>⟨λ rt st k vs=>CY rt put cK st k vs⟩
 | .invoke name=>⟨λ rt st k vs=>tX name rt put cK st k vs⟩
 | .recover=>⟨λ rt st k vs=>TD rt put st k vs⟩
 | .defer=>⟨λ rt st k vs=>xE rt put st k vs⟩
 | .panic=>⟨λ _ st k vs=>xJ put cK st k vs⟩
def rC(get:T AV->Option AV)(st:St)(vs:List AV):fN->Bool
 | .read f=>match f vs st.H,get st.tm with
  |some v,B1 v'=>cF v v'
  |_,_=>B2
 |_=>B2
def cT(b:Bool):Option AV->Option Bool
 |some (.bool q)=>B1 (cond q b (!b))
 |some (.tuple [])=>B1 B2
 |_=>B5
structure P9 where
 run:RT->(St->gR)->St->gR
def gY(s:aP):P9 :=
 match s.iv with
 |false=>match s.guard with
  |none=>⟨λ rt k st=>((vL s.args).run st.tm).bind λ vs=>(rE (my s.dst).run s.cK s.op).run rt st k vs⟩
  |some g=>⟨λ rt k st=>(cT g.2 ((T.pw (T.path g.1)).run st.tm)).bind λ w =>
   cond w (((vL s.args).run st.tm).bind λ vs=>(rE (my s.dst).run s.cK s.op).run rt st k vs) (k ⟨(my s.dst).run .undef st.tm,st.aZ,st.up,st.H⟩)⟩
 |true=>match s.guard,s.dst with
  |none,B1 d=>⟨λ _ k st=>((vL s.args).run st.tm).bind λ vs=>cond (rC (T.pw (T.path d)).run st vs s.op) (k st) B5⟩
  |some g,B1 d=>⟨λ _ k st=>(cT g.2 ((T.pw (T.path g.1)).run st.tm)).bind λ w =>
   cond w (((vL s.args).run st.tm).bind λ vs=>cond (rC (T.pw (T.path d)).run st vs s.op) (k st) B5) (k st)⟩
  |_,B5=>⟨λ _ _ _=>B5⟩
structure JO where
 run:RT->St->gR
def ia:List aP->JO
 |[]=>⟨λ _ st=>B1 (.normal,st)⟩
 |s::rest=>⟨λ rt st=>(gY s).run rt ((ia rest).run rt) st⟩
def cX(H:ar)(l:Nat)(s:nj)(p:Option im):Option ar :=
 match H.get l with
 |some (.loop _ _ f k tm d)=>B1 (H.set l (.loop s p f k tm d))
 |_=>B5
def CE(H:ar)(l:Nat):Option Nat :=
 match H.get l with
 |some (.loop _ _ _ _ _ d)=>B1 d
 |_=>B5
def Nv(st:St)(aZ:List aK)(l:Nat)(e:bI)(H:ar):gR :=
 match e with
 | .panic c=>B1 (.panic c,{st with aZ:=aZ,H:=H})
 | .ret _=>match H.get l with
  |some (.loop .busy _ _ _ _ _)=>B5
  |some (.loop _ p f k tm d)=>B1 (qP p,{st with aZ:=aZ,H:=H.set l (.loop .exhausted p f k tm d)})
  |_=>B5
def jK(call:cj)(round:iS)(ctx:Ctx)(st:St)(k:Nat)(H0:ar)(aZ:List aK)(d:Nat):AV->gR
 | .fn (.func g) first cap =>
  (dc call round (.func g) (first++(.fn (.yield H0.au) [] []::cap)) (H0.alloc (.loop .ready B5 ctx.fn k st.tm d))).bind λ r =>
   Nv st aZ H0.au r.1 r.2
 |_=>B5
def vK(next:RT->St->gR)(rt:RT)(r:aW×St):gR :=
 match r.1 with
 | .normal=>next rt r.2
 |e=>B1 (e,r.2)
def uG(a b:RT->St->gR)(rt:RT)(st:St)(v:AV):gR :=
 match v with
 | .bool q=>cond q (a rt st) (b rt st)
 |_=>B5
def kP(id:Nat)(r:aW×St):gR :=
 match r.1 with
 | .exit id'=>B1 (cond (JW id id') .normal (.exit id'),r.2)
 |e=>B1 (e,r.2)
def mq(b:ai)(r:aW×St):gR :=
 match r.1 with
 | .goto l=>cond (FU b l) B5 (B1 (.goto l,r.2))
 |e=>B1 (e,r.2)
def qZ(rt:RT)(k:Nat)(st:St)(v:AV):gR :=
 match rt.ctx.round with
 |none=>jK rt.call rt.round rt.ctx st k (st.H.alloc (.deferred (B1 []))) (.iy st.H.au::st.aZ) st.H.au v
 |some l=>(CE st.H l).bind λ d=>jK rt.call rt.round rt.ctx st k st.H st.aZ d v
def bK:ai->JO
 | .skip=>⟨λ _ st=>B1 (.normal,st)⟩
 | .label _=>⟨λ _ st=>B1 (.normal,st)⟩
 | .region steps=>ia steps
 | .seq a b=>⟨λ rt st=>((bK a).run rt st).bind (vK (bK b).run rt)⟩
 | .cond c a b=>⟨λ rt st=>((Oj c).run st.tm).bind (uG (bK a).run (bK b).run rt st)⟩
 | .block id b=>⟨λ rt st=>((bK b).run rt st).bind (kP id)⟩
 | .loop ah b=>⟨λ rt st=>gV ah ((bK b).run rt) rt.n st⟩
 | .exit id=>⟨λ _ st=>B1 (.exit id,st)⟩
 | .goto l=>⟨λ _ st=>B1 (.goto l,st)⟩
 | .ret=>⟨λ _ st=>B1 (.ret,st)⟩
 | .stuck=>⟨λ _ _=>B5⟩
 | .scope b=>⟨λ rt st=>((bK b).run rt st).bind (mq b)⟩
 | .rangeFunc f k=>⟨λ rt st=>((Oj f).run st.tm).bind (qZ rt k st)⟩
def exec(AP:jU)(call:cj)(round:iS)(n:Nat)(ctx:Ctx)(c:ai)(st:St):gR:=(bK c).run ⟨AP,call,round,n,ctx⟩ st
def GA(l:Nat)(r:aW×St):Option (bI×ar) :=
 match r.1 with
 | .panic c=>B1 (.panic c,r.2.H)
 |e=>(cX r.2.H l (cond (Ak e) .ready .done) (kX e)).bind λ H=>B1 (.ret (.bool (Ak e)),H)
def beginRound(H:ar)(l:Nat):Option ar :=
 match H.get l with
 |some (.loop .ready p f k tm d)=>B1 (H.set l (.loop .busy p f k tm d))
 |_=>B5
def roundOf(AP:jU)(ex:Ctx->ai->St->gR)(args:List AV)(l:Nat)(H:ar):Option (bI×ar) :=
 match H.get l with
 |some (.loop _ _ f k tm _) =>
  (AP.func f).bind λ fn=>(nth fn.loops k).bind λ lp=>(Kx tm lp.params args).bind λ tm1 =>
  (ex ⟨B1 l,f⟩ lp.assign {tm:=tm1,aZ:=[],up:=B5,H:=H}).bind λ r=>match r.1 with
   | .normal=>(beginRound r.2.H l).bind λ H2=>(ex ⟨B1 l,f⟩ lp.body {r.2 with H:=H2}).bind λ q=>cond (noDefs q.2.aZ) (GA l q) B5
   |_=>B5
 |_=>B5
 where noDefs:List aK->Bool
 |[]=>B4
 |_=>B2
def Nt(H:ar)(tm:T AV):d9->Option AV
 | .tmp t=>tm.get t
 | .kY a=>(tm.get a).bind λ v=>match v with| .ptr b o=>H.ae b o|_=>B5
 | .cV n a=>(tm.get a).bind λ v=>match v with| .ptr b o=>(H.aq b o n).bind λ l=>B1 (.agg l)|_=>B5
def ep(H:ar)(tm:T AV):List d9->Option (List AV)
 |[]=>B1 []
 |r::rs=>(Nt H tm r).bind λ v=>(ep H tm rs).bind λ vs=>B1 (v::vs)
def jB:List AV->AV
 |[v]=>v
 |l=>.tuple l
def oE(m:Option aG)(up:aG):Option (Option aG) :=
 match m,up with
 |none,[]=>B1 B5
 |some _,(_,B4)::_=>B1 B5
 |some _,(v,B2)::c=>B1 (B1 ((v,B2)::c))
 |_,_=>B5
def ct(call:cj)(rs:List d9)(tm:T AV):List aK->Option aG->ar->Option (bI×ar)
 |[],B5,H=>(ep H tm rs).bind λ l=>B1 (.ret (jB l),H)
 |[],B1 c,H=>B1 (.panic c,H)
 | .iy b::ds,m,H=>match H.get b with
  |some (.deferred (B1 []))=>ct call rs tm ds m (H.set b (.deferred B5))
  |_=>B5
 | .fn (.func f) args::ds,m,H=>(call f args (B1 (m.getD [])) H).bind λ r =>
  match r.1,r.2.1 with
  | .ret _,B1 up'=>(oE m up').bind λ m'=>ct call rs tm ds m' r.2.2
  |_,_=>B5
 | .fn (.yield _) _::_,_,_=>B5
def qO(call:cj)(fn:bZ)(r:aW×St):Option (bI×Option aG×ar) :=
 let fin (m:Option aG):Option (bI×Option aG×ar):=(ct call fn.results r.2.tm r.2.aZ m r.2.H).bind λ q=>B1 (q.1,r.2.up,q.2)
 match r.1 with
 | .normal=>fin B5
 | .ret=>fin B5
 | .panic c=>fin (B1 c)
 |_=>B5
def rounds(AP:jU)(call:cj)(m:Nat):Nat->iS
 |0=>λ _ _ _=>B5
 |n+1=>roundOf AP (exec AP call (rounds AP call m n) m)
def Ig(AP:jU)(call:cj)(n:Nat):cj:=λ f args up H =>
 (AP.func f).bind λ fn =>
  (exec AP call (rounds AP call n n) n ⟨B5,f⟩ fn.body {tm:=jO 0 args .nil,aZ:=[],up:=up,H:=H}).bind λ r =>
   qO call fn r
def Ef(AP:jU):Nat->cj
 |0=>λ _ _ _ _=>B5
 |n+1=>Ig AP (Ef AP n) n
def kN(AP:jU)(told:cj):Nat->cj
 |0=>told
 |n+1=>λ f args up H=>match told f args up H with
  |some r=>B1 r
  |none=>Ig AP (kN AP told n) n f args up H
end
end Go.Am
namespace Go.Am
noncomputable section
mutual
def gj:KP->Option AV
 | .bool b=>B1 (.bool b)
 | .int k n=>B1 (.int k n)
 | .string s=>B1 (.str s.data.toList)
 | .pointer B5=>B1 .nilp
 | .slice B5 0 0=>B1 .nils
 | .map B5=>B1 .mH
 | .nilFunc=>B1 .nilf
 | .nilIface=>B1 .nili
 | .iface t v=>(gj v).bind λ x=>B1 (.iface t x)
 | .agg cs=>(oO cs.toList).bind λ l=>B1 (.agg l)
 | .tuple cs=>(oO cs.toList).bind λ l=>B1 (.tuple l)
 |_=>B5
def oO:List KP->Option (List AV)
 |[]=>B1 []
 |v::vs=>(gj v).bind λ x=>(oO vs).bind λ xs=>B1 (x::xs)
end
def rU(G:Nat):N2->Option bL
 | .tmp t=>B1 (.tmp t)
 | .const v=>(gj v).bind λ x=>B1 (.const x)
 | .global g=>if Pk g G then B1 (.eL g)else B5
 | .func f=>B1 (.func f)
def oe(G:Nat):List N2->Option (List bL)
 |[]=>B1 []
 |x::xs=>(rU G x).bind λ y=>(oe G xs).bind λ ys=>B1 (y::ys)
def zeroOf(P:Jv)(t:Mj):Option AV:=((P.info? t).bind (·.zero)).bind gj
def bU(P:Jv)(t:Mj):Option Nat:=(P.info? t).bind λ i=>B1 i.size
def nh(P:Jv)(t:Mj):Option Nat:=(P.info? t).bind λ i=>B1 i.bytes
def nQ(P:Jv)(t:Mj):Option (Option Nat) :=
 match P.underlying t with
 |some (.struct _)|some (.array _ _)=>(bU P t).bind λ n=>B1 (B1 n)
 |some _=>B1 B5
 |none=>B5
def dF(P:Jv):Nat->Mj->Option aR
 |0,_=>B5
 |d+1,t=>match P.underlying t with
  |some (.int _)=>B1 .int
  |some .string=>B1 .str
  |some .bool=>B1 .bool
  |some (.struct fs)=>if P.stoodInHeld t then B5 else fieldsT (dF P d) fs.toList
  |some (.array n e)=>(bU P e).bind λ s=>(nQ P e).bind λ a=>(dF P d e).bind λ q=>B1 (itemsT s a q n 0)
  |_=>B5
 where
 fieldsT (go:Mj->Option aR):List Field->Option aR
  |[]=>B1 .nil
  |f::fs=>if f.name = "_" then B5 else(nQ P f.type).bind λ a=>(go f.type).bind λ q=>(fieldsT go fs).bind λ r=>B1 (.part f.offset a q r)
 itemsT (s:Nat) (a:Option Nat) (q:aR):Nat->Nat->aR
  |0,_=>.nil
  |n+1,i=>.part (i*s) a q (itemsT s a q n (i+1))
def p9(P:Jv)(t:Mj):Option aR:=dF P 20 t
def gI:Nat->List (Option N2)->List (Option Nat)
 |_,[]=>[]
 |n,B5::r=>B5::gI n r
 |n,B1 _::r=>B1 n::gI (n+1) r
def kO:List (Option N2)->List N2
 |[]=>[]
 |none::r=>kO r
 |some x::r=>x::kO r
def EJ(pl:Nat->Option (Nat×Nat)):List (Nat×N2)->Option (List (Nat×Nat))
 |[]=>B1 []
 |(i,_)::r=>(pl i).bind λ p=>(EJ pl r).bind λ l=>B1 (p::l)
def OD(P:Jv)(fs:Array Field)(i:Nat):Option (Nat×Nat):=(fs[i]?).bind λ f=>(bU P f.type).bind λ n=>B1 (f.offset,n)
def Lb(n:Nat)(i:Nat):Option (Nat×Nat):=B1 (i*n,n)
def VJ(P:Jv)(b:Builtin)(ts:Array Mj)(args:List N2):Option (List N2×fN) :=
 match b with
 | .len=>match(ts[0]?).bind P.underlying with
  |some (.slice _)=>B1 (args,.pure Op.cD)
  |_=>B5
 | .append=>match ts.toList with
  |[t,tx]=>match P.underlying t,P.underlying tx with
   |some (.slice e),B1 (.slice _)=>(bU P e).bind λ n=>(nh P e).bind λ z=>(zeroOf P e).bind λ zv=>if zv.cells.length=n then B1 (args,.gU (Op.append e n z))else B5
   |_,_=>B5
  |_=>B5
 | .min=>B1 (args,.pure (Op.fg B2))
 | .clear=>match(ts[0]?).bind P.underlying with
  |some (.slice e)=>(zeroOf P e).bind λ z=>B1 (args,.gU (Op.bP z.cells))
  |some (.map _ _)=>B1 (args,.gU Op.bS)
  |_=>B5
 | .recover=>B1 (args,.recover)
 | .panic=>B1 (args,.panic)
 |_=>B5
def KH(_P:Jv)(fn:Func)(args:List N2):Option (List N2×fN) :=
 if fn.origin != "" then B5
 else if fn.name == "internal/bytealg.IndexByteString" then B1 (args,.pure Op.aD)
 else B5
def EZ(P:Jv)(src dst:Mj)(x:N2):Option (List N2×fN) :=
 match P.underlying src,P.underlying dst with
 |some (.int _),B1 (.int k)=>B1 ([x],.pure (Op.wrap k))
 |_,_=>B5
def Ou(P:Jv):Nat->Mj->Bool
 |0,_=>B4
 |d+1,t=>match P.underlying t with
  |some (.interface ms)=>!ms.isEmpty
  |some (.struct fs)=>fs.toList.any λ f=>f.name != "_" && Ou P d f.type
  |some (.array _ e)=>Ou P d e
  |_=>B2
def WK(P:Jv):∀(d:Nat)(t:Mj),Ou P d t=P.eqGuardType d t
 |0,_=>rfl
 |d+1,t=>by
  rw[Ou,Jv.eqGuardType];cases P.underlying t with
  |none=>rfl
  |some u =>
   cases u with
   |struct fs =>
    show fs.toList.any _=fs.any _;rw[<-Array.any_toList];congr 1;funext f;rw[WK P d]
   |array _ e=>exact WK P d e
   |_=>rfl
def Il(P:Jv)(t:Mj)(x y:N2):Option xI :=
 match P.underlying t with
 |some .bool=>B1 .bool
 |some (.pointer e)=>match bU P e with
  |some (_+1)=>B1 .ptr
  |_=>B5
 |some (.slice _)=>B1 .slice
 |some (.map _ _)=>B1 .map
 |some (.func _ _ _)=>B1 .func
 |some (.interface _)=>match x,y with
  | .const .nilIface,_=>B1 .iface
  |_,.const .nilIface=>B1 .iface
  |_,_=>B1 (.ifaces λ u=>(P.info? u).bind λ i=>if i.comparable then dF P 20 u else B5)
 |some (.struct _)=>if Ou P P.depth t then B5 else(dF P 20 t).bind λ q=>B1 (.agg q)
 |some (.array _ _)=>if Ou P P.depth t then B5 else(dF P 20 t).bind λ q=>B1 (.agg q)
 |_=>B5
def K7(P:Jv)(op:BinOp)(t:Mj)(x y:N2):Option (List N2×fN) :=
 match P.underlying t with
 |some (.int _)=>B1 ([x,y],.pure (Op.bin op))
 |some .string=>B1 ([x,y],.pure (Op.bin op))
 |_=>match op with
  | .eql=>(Il P t x y).bind λ k=>B1 ([x,y],.read (Op.eq k B2))
  | .neq=>(Il P t x y).bind λ k=>B1 ([x,y],.read (Op.eq k B4))
  |_=>B5
def DB(P:Jv)(c:Call):Option (List N2×fN) :=
 match c.callee with
 | .value (.func f)=>(P.funcs[f]?).bind λ fn =>
  match fn.body with
  |some _=>B1 (c.args.toList,.iq f)
  |none=>KH P fn c.args.toList
 | .value f=>B1 (f::c.args.toList,.ic)
 | .invoke r m=>B1 (r::c.args.toList,.invoke m)
 | .builtin b=>VJ P b c.argTypes c.args.toList
def Rt(P:Jv)(op:Cs):Option (List N2×fN) :=
 match op with
 | .move x=>B1 ([x],.pure Op.move)
 | .assign x=>B1 ([x],.pure Op.move)
 | .pick c a b=>B1 ([c,a,b],.pure Op.pick)
 | .alloc e=>(zeroOf P e).bind λ z=>B1 ([],.alloc (Op.alloc e z.cells))
 | .box e x=>B1 ([x],.alloc (Op.box e))
 | .build t parts=>(zeroOf P t).bind λ z =>
  match P.underlying t with
  |some (.struct fs)=>if fs.toList.all (λ f=>(bU P f.type).isSome)then(EJ (OD P fs) parts.toList).bind λ ps=>B1 (parts.toList.map (·.2),.pure (Op.build z.cells ps))else B5
  |some (.array _ e)=>(bU P e).bind λ n=>(EJ (Lb n) parts.toList).bind λ ps=>B1 (parts.toList.map (·.2),.pure (Op.build z.cells ps))
  |_=>B5
 | .buildSlice t len parts =>
  match P.underlying t with
  |some (.slice e)=>(bU P e).bind λ n=>(zeroOf P e).bind λ z=>(EJ (Lb n) parts.toList).bind λ ps=>if z.cells.length=n/\len*n<=16777216 then B1 (parts.toList.map (·.2),.alloc (Op.buildSlice e len z.cells ps))else B5
  |_=>B5
 | .load t a=>(nQ P t).bind λ r=>match r with
  |none=>B1 ([a],.read Op.ae)
  |some n=>B1 ([a],.read (Op.aq n))
 | .store t a x=>(bU P t).bind λ n=>B1 ([a,x],.gU (Op.store n))
 | .nilCheck x=>B1 ([x],.pure Op.nilCheck)
 | .binOp op t x y _=>K7 P op t x y
 | .unOp op _ x=>B1 ([x],.pure (Op.un op))
 | .convert src dst x=>EZ P src dst x
 | .makeInterface t x=>match P.underlying t with
  |some (.interface _)=>B5
  |some _=>B1 ([x],.pure (Op.dH t))
  |none=>B5
 | .makeFunc (.func f) a b=>B1 (a.toList++b.toList,.pure (Op.bt f a.size))
 | .makeMap _ B5=>B1 ([],.alloc Op.mkMap)
 | .makeMap t (B1 (.const (.int _ _)))=>match P.underlying t with
  |some (.map _ _)=>B1 ([],.alloc Op.mkMap)
  |_=>B5
 | .makeSlice t l c =>
  match P.underlying t with
  |some (.slice e)=>(nh P e).bind λ b=>(zeroOf P e).bind λ z=>(bU P e).bind λ n=>if z.cells.length=n then B1 ([l,c],.alloc (Op.mkSlice e b z.cells))else B5
  |_=>B5
 | .slice t x lo hi mx =>
  match P.underlying t with
  |some (.slice e)=>(bU P e).bind λ n=>B1 (x::kO [lo,hi,mx],.pure (Op.aA n (gI 0 [lo,hi,mx])))
  |some (.array k e)=>(bU P e).bind λ n=>B1 (x::kO [lo,hi,mx],.pure (Op.cP k n (gI 0 [lo,hi,mx])))
  |_=>B5
 | .fieldAddr t x i =>
  match P.underlying t with
  |some (.struct fs)=>(fs[i]?).bind λ f=>(bU P f.type).bind λ n=>if n == 0 then B5 else B1 ([x],.pure (Op.fieldAddr f.offset))
  |_=>B5
 | .indexAddr t x i =>
  match P.underlying t with
  |some (.slice e)=>(bU P e).bind λ n=>B1 ([x,i],.pure (Op.aQ n))
  |some (.array k e)=>(bU P e).bind λ n=>B1 ([x,i],.pure (Op.aV k n))
  |_=>B5
 | .index t x i =>
  match P.underlying t with
  |some .string=>B1 ([x,i],.pure Op.bO)
  |some (.array k e)=>(bU P e).bind λ n=>(nQ P e).bind λ a=>B1 ([x,i],.pure (Op.bG k n a))
  |_=>B5
 | .lookup t m k ok =>
  match P.underlying t with
  |some (.map kt e)=>(p9 P kt).bind λ key=>(zeroOf P e).bind λ z=>B1 ([m,k],.read (Op.lookup key z ok))
  |_=>B5
 | .mapUpdate t m k v =>
  match P.underlying t with
  |some (.map kt _)=>(p9 P kt).bind λ key=>B1 ([m,k,v],.gU (Op.mapUpdate key))
  |_=>B5
 | .insert t m k v =>
  match P.underlying t with
  |some (.map kt _)=>(p9 P kt).bind λ key=>B1 ([m,k,v],.gU (Op.mapUpdate key))
  |_=>B5
 | .extract x i=>B1 ([x],.pure (Op.extract i))
 | .call c=>DB P c
 | .defer c=>match c.callee with
  | .value f=>B1 (f::c.args.toList,.defer)
  |_=>B5
 | .panic x=>B1 ([x],.panic)
 |_=>B5
def gA(P:Jv)(o:Pl):Option (List bL×fN) :=
 match(Rt P o.op).bind λ r=>(oe P.globals.size r.1).bind λ args=>B1 (args,r.2)with
 |some r=>B1 r
 |none=>B1 ([],.pure Op.fail)
inductive M9 where
 |pure|read|alloc|gU
 deriving DecidableEq
def rk:fN->M9
 | .pure _=>.pure
 | .read _=>.read
 | .alloc _=>.alloc
 |_=>.gU
def ng(cls:Nat->M9)(gB:Nat->Nat)(n:Nat):Nat->Nat->List (Bool×Nat)->List (Bool×Nat)
 |0,_,acc=>acc.reverse
 |fuel+1,done,acc =>
  let ready (i:Nat):Bool:=!done.testBit i && (gB i &&& done) == gB i
  let todo:=(N5 n).filter λ i=>!done.testBit i
  match todo.find? (λ i=>ready i && (cls i == .pure ||cls i == .read))with
  |some i=>ng cls gB n fuel (done |||2 ^ i) ((B2,i)::acc)
  |none =>
   -- the next effect: the first one (effects are in a row)
   match todo.find? (λ i=>cls i == .gU)with
   |some e =>
    if ready e then
     let again:=(acc.reverse.filter λ q=>!q.1 && cls q.2 == .read && !(gB e).testBit q.2).map λ q=>(B4,q.2)
     ng cls gB n fuel (done |||2 ^ e) (again.reverse++((B2,e)::acc))
    else match todo.find? (λ i=>ready i && (gB e).testBit i)with
     |some i=>ng cls gB n fuel (done |||2 ^ i) ((B2,i)::acc)
     |none=>acc.reverse
   |none=>match todo.find? ready with
    |some i=>ng cls gB n fuel (done |||2 ^ i) ((B2,i)::acc)
    |none=>acc.reverse
def du{α:Type}:List (Option α)->Option (List α)
 |[]=>B1 []
 |x::xs=>x.bind λ a=>(du xs).bind λ l=>B1 (a::l)
def guardOf(ops:Array Pl):Option (Nat×Bool)->Option (Option (Nat×Bool))
 |none=>B1 B5
 |some g=>((ops[g.1]?).bind (·.dst)).bind λ t=>B1 (B1 (t,g.2))
def jD(ops:Array Pl)(l:List (List bL×fN))(safe:Nat->Option (List Nat))(q:Bool×Nat):Option aP :=
 (ops[q.2]?).bind λ o=>(l[q.2]?).bind λ a=>(guardOf ops o.guard).bind λ g =>
  B1 {iv:=q.1,dst:=o.dst,guard:=g,args:=a.1,op:=a.2,cK:=safe q.2}
def pz(nt:Nat)(o:Pl):Bool :=
 match o.dst with
 |none=>B4
 |some d=>Pk d nt
def qG(a b:Nat):Bool:=JW (Nat.land a b) a
def bitsOf:List (Bool×Nat)->Nat->Nat
 |[],d=>d
 |(B4,_)::l,d=>bitsOf l d
 |(B2,i)::l,d=>bitsOf l (Nat.lor d (2 ^ i))
def nV:List (Bool×Nat)->Nat->Nat
 |(B4,r)::l,d=>nV l (Nat.lor d (2 ^ r))
 |_,d=>d
def rD(c d:M9):Bool:=match c,d with
 | .pure,.pure=>B4
 | .read,.read=>B4
 | .alloc,.alloc=>B4
 | .gU,.gU=>B4
 |_,_=>B2
def jE(p:Nat->Bool):Nat->Nat
 |0=>0
 |n+1=>cond (p n) (Nat.lor (jE p n) (2 ^ n)) (jE p n)
structure mV where
 n:Nat
 gB:Nat->Nat
 cls:Nat->M9
 jN:Nat->Nat->Bool
 self:Nat->Bool
 made:Nat
 reads:Nat
def NJ(I:mV)(done:Nat)(post:List (Bool×Nat)):Bool×Nat->Bool
 |(B2,i)=>Pk i I.n && (!done.testBit i && (qG (I.gB i) done && (match I.cls i with
  | .read=>qG (Nat.land done I.made) (I.gB i)
  | .gU=>qG (Nat.land done I.made) (I.gB i) && qG (Nat.land done I.reads) (Nat.lor (I.gB i) (nV post 0))
  |_=>B4)))
 |(B4,r)=>rD (I.cls r) .read && (I.self r && (done.testBit r && qG (Nat.land done (jE (λ w=>!Nat.beq w r && I.jN r w) I.n)) (I.gB r)))
def Ll(I:mV):List (Bool×Nat)->Nat->Bool
 |[],done=>qG (2 ^ I.n-1) done
 |(B2,i)::post,done=>NJ I done post (B2,i) && Ll I post (Nat.lor done (2 ^ i))
 |(B4,r)::post,done=>NJ I done post (B4,r) && Ll I post done
def sI(p:Nat->Bool):Nat->Bool
 |0=>B4
 |n+1=>p n && sI p n
def yD(I:mV):Bool:=sI (λ r=>sI (λ w=>JW r w ||((I.gB r).testBit w ||((I.gB w).testBit r ||!I.jN r w))) I.n) I.n
def tmpsOf:List bL->List Nat
 |[]=>[]
 | .tmp t::l=>t::tmpsOf l
 |_::l=>tmpsOf l
def oZ(t:Nat):List Nat->Bool
 |[]=>B2
 |x::l=>JW x t ||oZ t l
def jA(ops:Array Pl)(l:List (List bL×fN))(r:Nat):List Nat :=
 match ops[r]?,l[r]? with
 |some o,B1 a=>(match guardOf ops o.guard with|some (B1 g)=>[g.1]|_=>[])++tmpsOf a.1
 |_,_=>[]
def ig(ops:Array Pl)(w:Nat):Option Nat:=(ops[w]?).bind (·.dst)
def gO(ops:Array Pl)(l:List (List bL×fN))(r:Nat):List Nat :=
 (match ig ops r with|some d=>[d]|none=>[])++jA ops l r
def Cd(ops:Array Pl)(l:List (List bL×fN))(r w:Nat):Bool :=
 match ig ops w with
 |some t=>oZ t (gO ops l r)
 |none=>B2
def DD(ops:Array Pl)(l:List (List bL×fN))(r:Nat):Bool :=
 match ig ops r with
 |some t=>!oZ t (jA ops l r)
 |none=>B4
def nN(l:List (List bL×fN))(i:Nat):M9:=rk ((l[i]?.getD ([],.recover)).2)
def xX(c:M9):Bool:=rD c .alloc ||rD c .gU
def aU(ops:Array Pl)(l:List (List bL×fN)):mV :=
 {n:=ops.size,gB:=λ i=>(CP ops).getD i 0,cls:=nN l,jN:=Cd ops l,self:=DD ops l,made:=jE (λ i=>xX (nN l i)) ops.size,reads:=jE (λ i=>rD (nN l i) .read) ops.size}
def vG(i:Nat):List (Bool×Nat)->List (Bool×Nat)
 |[]=>[]
 |(c,j)::l=>cond (!c && JW j i) [] ((c,j)::vG i l)
def OJ(ops:Array Pl)(I:mV)(plan:List (Bool×Nat))(i:Nat):Option (List Nat) :=
 let d:=bitsOf (vG i plan) 0
 cond (sI (λ j=>JW j i ||(d.testBit j ||(I.gB j).testBit i)) I.n) (B1 (ops.toList.filterMap (·.dst))) B5
def iZ(P:Jv)(nt:Nat)(ops:Array Pl)(draw:Bool):Option ai :=
 if ops.toList.all (pz nt)then
 (du (ops.toList.map (gA P))).bind λ l =>
  if draw then
   let I:=aU ops l
   let plan:=ng I.cls I.gB ops.size (2*ops.size) 0 []
   cond (Ll I plan 0 && yD I) ((du (plan.map (jD ops l (OJ ops I plan)))).bind λ steps=>B1 (.region steps)) (B1 .stuck)
  else(du ((N5 ops.size).map λ i=>jD ops l (λ _=>B1 []) (B2,i))).bind λ steps=>B1 (.region steps)
 else B5
def cw(P:Jv)(nt:Nat):Nat->Code->Option (ai×List dT)
 |_,.skip=>B1 (.skip,[])
 |_,.region _ ops draw=>(iZ P nt ops draw).bind λ c=>B1 (c,[])
 |k,.seq a b=>(cw P nt k a).bind λ a=>(cw P nt (k+a.2.length) b).bind λ b=>B1 (.seq a.1 b.1,a.2++b.2)
 |k,.cond c a b=>(rU P.globals.size c).bind λ c=>(cw P nt k a).bind λ a=>(cw P nt (k+a.2.length) b).bind λ b=>B1 (.cond c a.1 b.1,a.2++b.2)
 |k,.block id b=>(cw P nt k b).bind λ b=>B1 (.block id b.1,b.2)
 |k,.loop b=>(cw P nt k b).bind λ b=>B1 (.loop B5 b.1,b.2)
 |k,.rangeFunc f ps a b=>(rU P.globals.size f).bind λ f=>(cw P nt (k+1) a).bind λ a=>(cw P nt (k+1+a.2.length) b).bind λ b =>
  if ps.toList.all λ p=>Pk p nt then B1 (.rangeFunc f k,{params:=ps.toList,assign:=a.1,body:=b.1}::(a.2++b.2))else B5
 |_,.exit id=>B1 (.exit id,[])
 |k,.scope b=>(cw P nt k b).bind λ b=>B1 (.scope b.1,b.2)
 |_,.label l=>B1 (.label l,[])
 |_,.goto l=>B1 (.goto l,[])
 |_,.ret=>B1 (.ret,[])
 |_,.refuse _=>B1 (.stuck,[])
def qT(P:Jv):List ResultVar->Option (List d9)
 |[]=>B1 []
 | .tmp t::r=>(qT P r).bind λ l=>B1 (.tmp t::l)
 | .cell a t::r=>(nQ P t).bind λ n=>(qT P r).bind λ l=>B1 ((match n with|none=>.kY a|some n=>.cV n a)::l)
def vM(P:Jv)(fn:Func):Option bZ :=
 fn.body.bind λ b=>(cw P fn.ntmps 0 b).bind λ c=>(qT P fn.results.toList).bind λ r=>B1 {results:=r,body:=c.1,loops:=c.2}
def zT(P:Jv)(t:Mj)(name:String):Option Nat :=
 (P.info? t).bind λ i=>(i.methods.find? (·.name == name)).bind λ m =>
  if !m.path.isEmpty then B5 else m.func.bind λ p =>
   match P.underlying t,p.2 with
   |none,_=>B5
   |some (.pointer _),B4=>B1 p.1
   |some (.pointer _),B2=>B5
   |some _,B4=>B5
   |some _,B2=>B1 p.1
def aX(P:Jv):jU:={func:=λ f=>(P.funcs[f]?).bind (vM P),kD:=zT P}
end
end Go.Am
namespace Go.Am
namespace T
variable{α:Type}
def go_eq(f:Nat):∀(g i:Nat),i<=f->i<=g->path.go f i=path.go g i:=by
 induction f with
 |zero=>intro g i a hg;obtain rfl:i=0:=by omega
        cases g<;>simp[path.go]
 |succ f ih =>
  intro g i a hg;cases i with
  |zero=>grind
  |succ n =>
   cases g with
   |zero=>omega
   |succ g =>
    simp only[path.go];have h:n / 2<=n:=Nat.div_le_self n 2;congr 1;exact ih g (n / 2) (by omega) (by omega)
theorem xng:path 0=[]:=rfl
theorem ZE(n:Nat):path (n+1)=JW (n % 2) 0::path (n / 2):=by
 show path.go (n+1) (n+1)=_;simp only[path.go];have h:n / 2<=n:=Nat.div_le_self n 2;exact congrArg (JW (n % 2) 0 :: ·) (go_eq n (n / 2) (n / 2) h (qm _))
theorem DV:∀(i j:Nat),path i=path j->i=j:=by
 intro i
 induction i using Nat.strongRecOn with
 |_ i ih =>
  intro j h;cases i with
  |zero=>cases j with
   |zero=>rfl
   |succ m=>grind [xng,ZE]
  |succ n=>cases j with
   |zero=>grind
   |succ m =>
    rw[ZE,ZE]at h;injection h with d c
    have f:=ih (n / 2) (by have:=Nat.div_le_self n 2;omega) (m / 2) c;have g:n % 2=m % 2:=by
     rcases Nat.mod_two_eq_zero_or_one n with a|a<;>rcases Nat.mod_two_eq_zero_or_one m with b|b<;>simp_all
    omega
def af4(p:List Bool):wQ p (.nil:T α)=none:=by
 induction p with
 |nil=>rfl
 |cons b p ih=>cases b<;>exact ih
theorem q7p(v:Option α):∀(p:List Bool)(t:T α),wQ p (fU v p t)=v:=by
 intro p
 induction p with
 |nil=>intro t;rfl
 |cons b p ih=>intro t;cases b<;>exact ih _
theorem xc1(v:Option α):∀(p q:List Bool)(t:T α),p≠q->wQ q (fU v p t)=wQ q t:=by
 intro p
 induction p with
 |nil =>
  intro q t h;cases q with
  |nil=>grind
  |cons b q=>cases b<;>rfl
 |cons b p ih =>
  intro q t h;cases q with
  |nil=>cases b<;>rfl
  |cons c q =>
   cases b<;>cases c
   .exact ih q _ (λ e=>h (by rw[e]))
   .rfl
   .rfl
   .exact ih q _ (λ e=>h (by rw[e]))
theorem kI(t:T α)(i j:Nat)(v:Option α):(t.put i v).get j=if i=j then v else t.get j:=by
 unfold get put
 by_cases h:i=j
 .grind [q7p]
 .simp only[h,oX];grind [xc1,DV]
theorem aJ(t:T α)(i j:Nat)(v:α):(t.set i v).get j=if i=j then B1 v else t.get j:=kI t i j (B1 v)
theorem get_nil(j:Nat):(T.nil:T α).get j=none:=af4 _
def jR(p:List Bool)(t:T α):(pw p).run t=wQ p t:=by
 induction p generalizing t with
 |nil=>rfl
 |cons b p ih=>cases b<;>exact ih _
def Bq(v:Option α)(p:List Bool)(t:T α):(DN p).run v t=fU v p t:=by
 induction p generalizing t with
 |nil=>rfl
 |cons b p ih =>
  grind [DN,fU]
end T
section
variable{α:Type}
theorem jP(l:List α)(i:Nat):nth l i=l[i]?:=by
 induction l generalizing i with
 |nil=>rfl
 |cons x l ih=>cases i with
  |zero=>rfl
  |succ n=>exact ih n
theorem pO(a b:List α):kK a b=a++b:=by
 induction a with
 |nil=>rfl
 |cons x a ih=>exact congrArg (x :: ·) ih
def IY(l:List α):cQ l=l.length:=by
 induction l with
 |nil=>rfl
 |cons x l ih=>exact congrArg (·+1) ih
theorem af7(n:Nat)(l:List α):di n l=l.drop n:=by
 induction n generalizing l with
 |zero=>rfl
 |succ n ih=>cases l with
  |nil=>exact(ih []).trans (by simp)
  |cons x l=>exact ih l
theorem EY(n:Nat)(l:List α):Cy n l=if n<=l.length then B1 (l.take n)else none:=by
 induction n generalizing l with
 |zero=>rfl
 |succ n ih=>cases l with
  |nil=>rfl
  |cons x l =>
   show(Cy n l).bind (λ r=>B1 (x::r))=_
   grind
def ae1(new l:List α):zM new l=if new.length<=l.length then B1 (new++l.drop new.length)else none:=by
 induction new generalizing l with
 |nil=>rfl
 |cons x new ih=>cases l with
  |nil=>rfl
  |cons y l =>
   show(zM new l).bind (λ r=>B1 (x::r))=_
   grind
def AZ(o:Nat)(new l:List α):putAt o new l=if o+new.length<=l.length then B1 (l.take o++new++l.drop (o+new.length))else none:=by
 induction o generalizing l with
 |zero=>show zM new l=_;rw[ae1];simp
 |succ o ih=>cases l with
  |nil =>
   show B5=_
   grind
  |cons x l =>
   show(putAt o new l).bind (λ r=>B1 (x::r))=_
   grind
def tR(l:List α)(o n:Nat):fR l o n=if n<=l.length-o then B1 ((l.drop o).take n)else none:=by
 grind [fR,EY,af7]
end
theorem OK(a b:Int):vN a b=decide (a<=b):=by
 cases a<;>cases b<;>rw[Cl]<;>simp[vN,uh]<;>try omega
def MD(a b:Int):AR a b=decide (a<b):=by
 unfold AR;rw[OK];grind
theorem BV(a b:Int):u6 a b=(a == b):=by
 rw[Cl,beq_iff_eq];cases a<;>cases b<;>simp[u6]<;>omega
def UP(a b:PJ):sO a b=decide (a=b):=by cases a<;>cases b<;>rfl
theorem Vt(a b:UInt8):Fv a b=(a == b):=by
 unfold Fv;rw[Cl];simp_all[UInt8.toNat_inj]
theorem MP(a b:List UInt8):A5 a b=(a == b):=by
 induction a generalizing b with
 |nil=>cases b<;>rfl
 |cons x a ih=>cases b with
  |nil=>rfl
  |cons y b =>
   show cond (Fv x y) (A5 a b) B2=_
   grind [Vt]
end Go.Am
namespace Go.Am
structure Th where
 cm:Nat->Nat
 off:Nat->Nat
 ext:Nat->Nat
def fJ(θ:Th):mF->Fn
 | .func f=>.func f
 | .yield l=>.yield (θ.cm l)
def DQ:Nat->Option Nat
 |0=>B5
 |n+1=>B1 n
mutual
def az(θ:Th):AV->KP
 | .bool b=>.bool b
 | .int k n=>.int k n
 | .str s=>.string ⟨s.toArray⟩
 | .nilp=>.pointer B5
 | .ptr b o=>.pointer (B1 ⟨θ.cm b,θ.off b+o,B5⟩)
 | .nils=>.slice B5 0 0
 | .slice b o n c=>.slice (B1 ⟨θ.cm b,θ.off b+o,B5⟩) n c
 | .gslice b i m s alt n=>.slice (B1 ⟨θ.cm b,θ.off b+(if(m-i) + θ.ext b=0 then alt else i*s),B5⟩) n ((m-i) + θ.ext b)
 | .eslice b=>.slice (B1 ⟨θ.cm b,θ.off b,DQ (θ.ext b)⟩) 0 0
 | .mH=>.map B5
 | .map b=>.map (B1 (θ.cm b))
 | .fn f a b=>.func (fJ θ f) (bT θ a).toArray (bT θ b).toArray
 | .nilf=>.nilFunc
 | .iface t v=>.iface t (az θ v)
 | .nili=>.nilIface
 | .agg l=>.agg (bT θ l).toArray
 | .tuple l=>.tuple (bT θ l).toArray
def bT(θ:Th):List AV->List KP
 |[]=>[]
 |v::vs=>az θ v::bT θ vs
end
theorem vO(θ:Th)(l:List AV):bT θ l=l.map (az θ):=by
 induction l with
 |nil=>rfl
 |cons x l ih=>simp[bT,ih]
def Ag(D:Nat->Prop)(θ θ':Th):Prop:=∀b,D b -> θ'.cm b = θ.cm b /\ θ'.off b = θ.off b /\ θ'.ext b = θ.ext b
theorem Ag.refl(D:Nat->Prop)(θ:Th):Ag D θ θ:=λ _ _=>⟨rfl,rfl,rfl⟩
theorem Ag.trans{D D':Nat->Prop}{θ θ' θ'':Th}(h:Ag D θ θ')(a:Ag D' θ' θ'')(c:∀b,D b->D' b):Ag D θ θ'':=λ b hb =>
 let⟨a1,a2,a3⟩:=h b hb;let⟨b1,b2,b3⟩:=a b (c b hb);(by omega)
def Ag.mono{D D':Nat->Prop}{θ θ':Th}(h:Ag D θ θ')(a:∀b,D' b->D b):Ag D' θ θ':=λ b hb=>h b (a b hb)
def VR(D:Nat->Prop)(θ:Th)(v:AV)(c:KP):Prop:=∀θ',Ag D θ θ'->az θ' v=c
def bM(D:Nat->Prop)(θ:Th)(l:List AV)(cs:List KP):Prop:=∀θ',Ag D θ θ'->bT θ' l=cs
section
variable{D D':Nat->Prop}{θ θ':Th}
def VR.now{v:AV}{c:KP}(h:VR D θ v c):az θ v=c:=h θ (Ag.refl D θ)
def bM.now{l:List AV}{cs:List KP}(h:bM D θ l cs):bT θ l=cs:=h θ (Ag.refl D θ)
theorem VR.up{v:AV}{c:KP}(h:VR D θ v c)(ha:Ag D θ θ')(d:∀b,D b->D' b):VR D' θ' v c:=λ θ'' a=>h θ'' (ha.trans a d)
theorem bM.up{l:List AV}{cs:List KP}(h:bM D θ l cs)(ha:Ag D θ θ')(c:∀b,D b->D' b):bM D' θ' l cs:=λ θ'' a=>h θ'' (ha.trans a c)
def bM.nil:bM D θ [] []:=λ _ _=>rfl
def bM.cons{v:AV}{c:KP}{l:List AV}{cs:List KP}(h:VR D θ v c)(hl:bM D θ l cs):bM D θ (v::l) (c::cs) :=
 λ θ' ha=>by simp[bT,h θ' ha,hl θ' ha]
def bM.eF{v:AV}{l:List AV}{cs:List KP}(h:bM D θ (v::l) cs):∃c cs',cs=c::cs'/\VR D θ v c/\bM D θ l cs':=by
 refine⟨az θ v,bT θ l,(by rw[<-h.now];rfl),λ θ' ha=>?_,λ θ' ha=>?_⟩
 .have:=(h θ' ha).trans h.now.symm;grind [bT]
 .have:=(h θ' ha).trans h.now.symm;grind [bT]
def bM.mC{cs:List KP}(h:bM D θ [] cs):cs=[]:=h.now.symm
def bM.length{l:List AV}{cs:List KP}(h:bM D θ l cs):cs.length=l.length:=by rw[<-h.now,vO];simp
def bM.app{l a:List AV}{cs cs':List KP}(h:bM D θ l cs)(b:bM D θ a cs'):bM D θ (l++a) (cs++cs'):=by
 intro θ' ha;rw[vO,Jt,<-vO,<-vO,h θ' ha,b θ' ha]
def bM.qR{l:List AV}{cs:List KP}(h:bM D θ l cs){i:Nat}{v:AV}(b:l[i]? = B1 v):∃c,cs[i]? = B1 c/\VR D θ v c:=by
 refine⟨az θ v,?_,λ θ' ha=>?_⟩
 .rw [<-h.now,vO,xm,b];rfl
 .have:=(h θ' ha).trans h.now.symm;rw[vO,vO]at this;have a:=congrArg (λ l=>l[i]?) this;simp only[xm,b,Gl,qk]at a;exact a
theorem bM.drop{l:List AV}{cs:List KP}(h:bM D θ l cs)(n:Nat):bM D θ (l.drop n) (cs.drop n):=by
 intro θ' ha;rw[vO,List.map_drop,<-vO,h θ' ha]
def bM.take{l:List AV}{cs:List KP}(h:bM D θ l cs)(n:Nat):bM D θ (l.take n) (cs.take n):=by
 intro θ' ha;rw[vO,List.map_take,<-vO,h θ' ha]
def bM.one{v:AV}{c:KP}(h:VR D θ v c):bM D θ [v] [c]:=.cons h .nil
def VR.agg{l:List AV}{cs:List KP}(h:bM D θ l cs):VR D θ (.agg l) (.agg cs.toArray):=λ θ' ha=>by simp[az,h θ' ha]
def VR.tuple{l:List AV}{cs:List KP}(h:bM D θ l cs):VR D θ (.tuple l) (.tuple cs.toArray):=λ θ' ha=>by simp[az,h θ' ha]
def VR.fA{l:List AV}{c:KP}(h:VR D θ (.agg l) c):∃cs:List KP,c=.agg cs.toArray/\bM D θ l cs:=by
 refine⟨bT θ l,h.now.symm,λ θ' ha=>?_⟩;have:=(h θ' ha).trans h.now.symm;simpa[az]using this
def VR.Ao{l:List AV}{c:KP}(h:VR D θ (.tuple l) c):∃cs:List KP,c=.tuple cs.toArray/\bM D θ l cs:=by
 refine⟨bT θ l,h.now.symm,λ θ' ha=>?_⟩;have:=(h θ' ha).trans h.now.symm;simpa[az]using this
def VR.iface{t:Nat}{v:AV}{c:KP}(h:VR D θ v c):VR D θ (.iface t v) (.iface t c):=λ θ' ha=>by simp[az,h θ' ha]
def VR.mA{t:Nat}{v:AV}{c:KP}(h:VR D θ (.iface t v) c):∃a,c=.iface t a/\VR D θ v a:=by
 refine⟨az θ v,h.now.symm,λ θ' ha=>?_⟩;have:=(h θ' ha).trans h.now.symm;simpa[az]using this
def VR.undef:VR D θ .undef Go.undef:=λ _ _=>rfl
def VR.bool(b:Bool):VR D θ (.bool b) (.bool b):=λ _ _=>rfl
def VR.int(k:PJ)(n:Int):VR D θ (.int k n) (.int k n):=λ _ _=>rfl
def VR.str(s:List UInt8):VR D θ (.str s) (.string ⟨s.toArray⟩):=λ _ _=>rfl
def VR.ptr{b o:Nat}(hb:D b):VR D θ (.ptr b o) (.pointer (B1 ⟨θ.cm b,θ.off b+o,B5⟩)):=λ θ' ha=>by obtain⟨a,c,_⟩:=ha b hb;grind [az]
theorem VR.map{b:Nat}(hb:D b):VR D θ (.map b) (.map (B1 (θ.cm b))):=λ θ' ha=>by obtain⟨a,_,_⟩:=ha b hb;simp[az,a]
def VR.slice{b o n c:Nat}(hb:D b):VR D θ (.slice b o n c) (az θ (.slice b o n c)):=λ θ' ha=>by obtain⟨a,d,_⟩:=ha b hb;grind [az]
def VR.gslice{b i m s alt n:Nat}(hb:D b):VR D θ (.gslice b i m s alt n) (az θ (.gslice b i m s alt n)):=λ θ' ha=>by
 obtain⟨a,c,d⟩:=ha b hb;grind [az]
end
def Tp(fz cfz:Nat×Nat)(off size:Nat):Prop:=cfz.1=cfz.2\/(cfz.1<cfz.2/\off+fz.1<=cfz.1/\cfz.2<=off+fz.2)\/(fz.2<fz.1/\(size<=cfz.1\/cfz.2<=off))
def j3(fz cfz:Nat×Nat):Prop:=cfz.1=cfz.2\/(cfz.1<cfz.2/\fz.1<=cfz.1/\cfz.2<=fz.2)
def own:bE->Bool
 | .row _ _ _ o=>o
 |_=>B4
def qH(D:Nat->Prop)(θ:Th)(tm:T AV)(a:Array KP):Prop:=∀t v,tm.get t=B1 v -> ∃c,a[t]? = B1 c/\VR D θ v c
def j':nj->LoopState
 | .ready=>.ready| .busy=>.busy| .done=>.done| .exhausted=>.exhausted
def mJ:im->Code
 | .exit id=>.exit id
 | .goto l=>.goto l
 | .ret=>.ret
def Q3(D:Nat->Prop)(θ:Th)(e:AV×AV×Nat)(m:Bh):Prop:=VR D θ e.1 m.key/\VR D θ e.2.1 m.val/\m.born=e.2.2
def dB(D:Nat->Prop)(θ:Th):List (AV×AV×Nat)->List Bh->Prop
 |[],[]=>True
 |e::es,m::ms=>Q3 D θ e m/\dB D θ es ms
 |_,_=>False
def wM(P:Jv)(f k n:Nat)(params:Array Tmp)(assign body:Code):Prop :=
 ∃fn af lp ka kb L1 L2,P.funcs[f]? = B1 fn/\vM P fn=B1 af/\nth af.loops k=B1 lp/\lp.params=params.toList/\(∀p∈params.toList,p<fn.ntmps)/\fn.ntmps<=n /\
  cw P fn.ntmps ka assign=B1 (lp.assign,L1)/\(∀i l,nth L1 i=B1 l->nth af.loops (ka+i)=B1 l) /\
  cw P fn.ntmps kb body=B1 (lp.body,L2)/\(∀i l,nth L2 i=B1 l->nth af.loops (kb+i)=B1 l)
def Xy(D:Nat->Prop)(θ:Th):aK->Deferred->Prop
 | .iy b,d=>D b/\d = {target:=.collected (θ.cm b),args:=#[]}
 | .fn f args,d=>∃c cap:Array KP,d = {target:=.fn (fJ θ f) cap,args:=c}/\(∀θ',Ag D θ θ'->fJ θ' f=fJ θ f)/\bM D θ args (c++cap).toList
def oR(P:Jv)(D:Nat->Prop)(θ:Th)(b:Nat):bE->Obj->Prop
 | .row cells e fz ow,o=>∃pre cs post cfz e',o=.cells (pre++cs++post).toArray e' cfz/\pre.length = θ.off b/\bM D θ cells cs /\
  (ow=B4->e'=e/\pre=[]/\post=[]/\j3 fz cfz)
 | .grown m size cells e fz,o=>∃pre cs post cfz,o=.cells (pre++cs++post).toArray e cfz/\pre.length = θ.off b/\bM D θ cells cs /\
  cells.length=m*size/\post.length = θ.ext b*size/\0<size/\m + θ.ext b<=maxLen/\Tp fz cfz (θ.off b) (pre.length+cs.length+post.length)
 | .map es clock,o=>∃ms:List Bh,o=.map ms.toArray clock/\dB D θ es ms
 | .mE s pos,o=>o=.stringIter ⟨s.toArray⟩ pos /\ θ.off b=0
 | .loop st pend f k tm d,o=>∃r:Loop,o=.loop r/\r.state=j' st/\r.pending=pend.map mJ/\r.fn=f/\qH D θ tm r.tmps/\wM P f k r.tmps.size r.params r.assign r.body /\
  D d/\r.defers = θ.cm d
 | .deferred calls,o=>∃ds,o=.deferred ds/\(match calls,ds with
  |none,B5=>True
  |some l,B1 l'=>l=[]/\l'=[]
  |_,_=>False)
structure HR(P:Jv)(base:Nat)(D:Nat->Prop)(θ:Th)(H:ar)(w:NG):Prop where
 obj:∀b o,H.get b=B1 o->D b /\ ∃co,w.heap[θ.cm b]? = B1 co/\oR P D θ b o co
 inj:∀b b' o o',H.get b=B1 o->H.get b'=B1 o'->own o=B4->b≠b' -> θ.cm b≠θ.cm b'
 lP:∀b o,H.get b=B1 o->own o=B4->base <= θ.cm b
 eL:∀g,g<P.globals.size->D g /\ θ.cm g=g /\ θ.off g=0
 low:base<=w.heap.size
def Lt(n:Nat):Nat->Prop:=λ b=>b<n
end Go.Am
namespace Go.Am
theorem yJ(k o i:Nat):(⟨k,o,B5⟩:Addr).add i=⟨k,o+i,B5⟩:=by grind [Addr.add]
def fF(w:NG)(k:Nat)(o:Obj):World:={w with heap:=w.heap.setIfInBounds k o}
def Uc(w:NG)(k:Nat)(o:Obj):(fF w k o).heap.size=w.heap.size:=by simp[fF]
theorem Mb(w:NG)(k j:Nat)(o:Obj)(h:k<w.heap.size):(fF w k o).heap[j]? = if k=j then B1 o else w.heap[j]?:=by
 grind [fF]
def xof(w:NG)(k:Nat)(o o':Obj):fF (fF w k o) k o'=fF w k o':=by
 simp[fF]
def xoe(w:NG)(k:Nat)(o:Obj)(h:w.heap[k]? = B1 o):fF w k o=w:=by
 have:w.heap.setIfInBounds k o=w.heap:=by
  grind
 simp_all[fF]
def Dv(w:NG)(o:Obj)(j:Nat):(w.alloc o).heap[j]? = if j=w.heap.size then B1 o else w.heap[j]?:=by
 grind [NG.alloc]
section
variable{P:Jv}{w:NG}{k:Nat}{arr:Array KP}{e:Mj}{fz:Nat×Nat}
theorem PF(h:w.heap[k]? = B1 (.cells arr e fz))(o:Nat):w.cell? ⟨k,o,B5⟩=arr[o]?:=by simp[World.cell?,h]
theorem xnx(h:w.heap[k]? = B1 (.cells arr e fz)){o:Nat}{v:KP}(a:arr[o]? = B1 v):(load ⟨k,o,B5⟩).run P w=.ok v w:=by
 rw[run_load,PF h,a]
def _s(h:w.heap[k]? = B1 (.cells arr e fz))(o n:Nat)(hn:n<=arr.size-o) :
 (loadCells ⟨k,o,B5⟩ n).run P w=.ok ((arr.toList.drop o).take n).toArray w:=by
 have hl:((arr.toList.drop o).take n).length=n:=by grind
 grind [run_loadCells_list,yJ,PF]
def S8(a:Nat):∀(vs:List KP)(i:Nat)(arr:Array KP)(w:NG),w.heap[k]? = B1 (.cells arr e fz) ->
 a+i+vs.length<=arr.size->(∀j,j<vs.length -> ¬(fz.1<=a+i+j/\a+i+j<fz.2))->(∀v∈vs,v.oneCell'=B4) ->
 (storeCells ⟨k,a,B5⟩ vs i).run P w=.ok () (fF w k (.cells (arr.toList.take (a+i)++vs++arr.toList.drop (a+i+vs.length)).toArray e fz))
 |[],i,arr,w,hg,_,_,_=>by
  simp only[storeCells,zn,j7,vx,yt,CD];rw[xoe w k _ hg];rfl
 |v::rest,i,arr,w,hg,hl,hf,h1=>by
  have m:a+i<arr.size:=by grind
  have hk:k<w.heap.size:=(Ul.1 hg).1;have b:w.cell? ⟨k,a+i,B5⟩=B1 arr[a+i]:=by rw[PF hg];grind
  have d:w.frozen? ⟨k,a+i,B5⟩=false:=by
   have:=hf 0 (by simp)
   grind [NG.frozen?]
  have f:w.setCell ⟨k,a+i,B5⟩ v=fF w k (.cells (arr.setIfInBounds (a+i) v) e fz):=by
   simp only[NG.setCell,fF];congr 1
   grind
  have c:(store ((⟨k,a,B5⟩:Addr).add i) v).run P w=.ok () (fF w k (.cells (arr.setIfInBounds (a+i) v) e fz)):=by
   grind [yJ,run_store]
  have h:=S8 a rest (i+1) (arr.setIfInBounds (a+i) v) (fF w k (.cells (arr.setIfInBounds (a+i) v) e fz))
   (by grind [Mb]) (by grind)
   (λ j g=>by have:=hf (j+1) (by simpa using g);rwa [show a+i+(j+1)=a+(i+1)+j from by omega]at this)
   (by grind)
  simp only[storeCells,Nw,c,NO,h,xof];congr 3;have l:=list_seg_step arr.toList (a+i) v rest (by simp at hl⊢;omega);simp_all[wq]
end
def Up(D:Nat->Prop)(n m:Nat):Nat->Prop:=λ b=>D b\/(n<=b/\b<m)
def Up.of{D:Nat->Prop}{n m:Nat}:∀b,D b->Up D n m b:=λ _ h=>.inl h
def eC(D:Nat->Prop)(n m:Nat):Prop:=∀b,n<=b->b<m -> ¬D b
theorem Up.up{D:Nat->Prop}{n m k:Nat}(h:n<=m)(a:m<=k):Up (Up D n m) m k=Up D n k:=by
 funext b;simp only[Up,eq_iff_iff]
 grind
theorem Up.none{D:Nat->Prop}{n:Nat}:Up D n n=D:=by
 funext b;simp only[Up,eq_iff_iff]
 grind
def eC.left{D:Nat->Prop}{n m k:Nat}(h:eC D n k)(hk:m<=k):eC D n m:=λ b a c=>h b a (by omega)
def eC.right{D:Nat->Prop}{n m k:Nat}(h:eC D n k)(hm:n<=m):eC (Up D n m) m k:=λ b d c a=>by
 rcases a with a|⟨_,f⟩
 .exact h b (by omega) c a
 .omega
structure bD(D:Nat->Prop)(H:ar)(θ:Th)(w:NG)(H':ar)(θ':Th)(w':NG):Prop where
 au:H.au<=H'.au
 ag:Ag D θ θ'
 size:w.heap.size<=w'.heap.size
 os:w'.os=w.os
 tape:w'.tape=w.tape
 output:w'.output=w.output
 ah:∀k,k<w.heap.size->(∀b o,H.get b=B1 o->own o=B4 -> θ.cm b≠k)->w'.heap[k]? = w.heap[k]?
 news:∀b o,H'.get b=B1 o->own o=B4 -> θ'.cm b<w.heap.size -> ∃b' o',H.get b'=B1 o'/\own o'=B4 /\ θ.cm b' = θ'.cm b
theorem bD.refl(D:Nat->Prop)(H:ar)(θ:Th)(w:NG):bD D H θ w H θ w :=
 ⟨qm _,Ag.refl _ _,qm _,rfl,rfl,rfl,λ _ _ _=>rfl,λ b o h ho _=>(by grind)⟩
theorem bD.trans{D D':Nat->Prop}{H H' c:ar}{θ θ' θ'':Th}{w w' d:NG}(a:bD D H θ w H' θ' w')(b:bD D' H' θ' w' c θ'' d)(p:∀b,D b->D' b):bD D H θ w c θ'' d:=by
 refine⟨x9 a.au b.au,a.ag.trans b.ag p,x9 a.size b.size,b.os.trans a.os,b.tape.trans a.tape,b.output.trans a.output,?_,?_⟩
 .intro k hk g;refine(b.ah k (qn hk a.size) ?_).trans (a.ah k hk g);intro x o h ho he;have⟨i,o',j,l,n⟩:=a.news x o h ho (by omega)
  grind
 .intro x o h ho f;have⟨i,o',j,l,n⟩:=b.news x o h ho (qn f a.size);have⟨m,q,r,s,t⟩:=a.news i o' j l (by omega)
  grind
def bD.draw{D:Nat->Prop}{H:ar}{θ:Th}{w w':NG}(a:w'.heap=w.heap)(ho:w'.os=w.os)(c:w'.tape=w.tape)(hp:w'.output=w.output):bD D H θ w H θ w' :=
 ⟨qm _,Ag.refl _ _,by grind,ho,c,hp,λ _ _ _=>by rw[a],λ b o h hw _=>(by grind)⟩
def HR.draw{P:Jv}{base:Nat}{D:Nat->Prop}{θ:Th}{H:ar}{w w':NG}(h:HR P base D θ H w)(a:w'.heap=w.heap):HR P base D θ H w' :=
 ⟨λ b o hb=>by rw[a];exact h.obj b o hb,h.inj,h.lP,h.eL,by rw[a];exact h.low⟩
theorem dB.up{D D':Nat->Prop}{θ θ':Th}(ha:Ag D θ θ')(a:∀b,D b->D' b):∀(es:List (AV×AV×Nat))(ms:List Bh),dB D θ es ms->dB D' θ' es ms
 |[],[],_=>trivial
 |e::es,m::ms,⟨⟨h1,h2,h3⟩,h⟩=>⟨⟨h1.up ha a,h2.up ha a,h3⟩,dB.up ha a es ms h⟩
 |[],_::_,h=>h.elim
 |_::_,[],h=>h.elim
theorem oR.up{P:Jv}{D D':Nat->Prop}{θ θ':Th}{b:Nat}{o:bE}{co:Obj}(h:oR P D θ b o co)(hb:D b)(ha:Ag D θ θ')(n:∀b,D b->D' b):oR P D' θ' b o co:=by
 have⟨e1,e2,A⟩:=ha b hb;cases o with
 |row cells e fz ow =>
  have⟨pre,cs,post,a,y,g,i,j,l⟩:=h;exact⟨pre,cs,post,a,y,g,by omega,j.up ha n,l⟩
 |grown m size cells e fz =>
  have⟨pre,cs,post,a,g,i,j,l,u,p,q,x⟩:=h;exact⟨pre,cs,post,a,g,by omega,j.up ha n,l,by grind,p,by omega,by grind⟩
 |map es clock =>
  have⟨ms,g,i⟩:=h;exact⟨ms,g,dB.up ha n _ _ i⟩
 |mE s pos=>exact⟨h.1,e2.trans h.2⟩
 |loop st pend f k tm d =>
  have⟨r,g,i,j,l,u,p,q,x⟩:=h;exact⟨r,g,i,j,l,λ t v z=>let⟨c,hc,hr⟩:=u t v z;⟨c,hc,hr.up ha n⟩,p,n d q,by rw[(ha d q).1];exact x⟩
 |deferred calls=>exact h
theorem HR.up{P:Jv}{base:Nat}{D D':Nat->Prop}{θ:Th}{H:ar}{w:NG}(h:HR P base D θ H w)(a:∀b,D b->D' b):HR P base D' θ H w :=
 ⟨λ b o hb=>let⟨h1,co,h2,h3⟩:=h.obj b o hb;⟨a b h1,co,h2,h3.up h1 (Ag.refl _ _) a⟩,h.inj,h.lP,λ g hg=>⟨a g (h.eL g hg).1,(h.eL g hg).2⟩,h.low⟩
section
variable{P:Jv}{base:Nat}{D:Nat->Prop}{θ:Th}{H:ar}{w:NG}
def HR.lt(h:HR P base D θ H w){b:Nat}{o:bE}(hb:H.get b=B1 o):θ.cm b<w.heap.size:=by
 have⟨_,co,a,_⟩:=h.obj b o hb
 grind
theorem ar.aJ(H:ar)(b a:Nat)(o:bE):(H.set b o).get a=if b=a then B1 o else H.get a:=T.aJ _ _ _ _
def ar.bN(H:ar)(a:Nat)(o:bE):(H.alloc o).get a=if H.au=a then B1 o else H.get a:=T.aJ _ _ _ _
theorem ar.rH(H:ar)(b a:Nat):(H.kill b).get a=if b=a then B5 else H.get a:=T.kI _ _ _ _
theorem HR.set(h:HR P base D θ H w){b:Nat}{o o':bE}{co':Obj}(hb:H.get b=B1 o)(ho:own o=B4)(p:own o'=B4)(hr:oR P D θ b o' co') :
 HR P base D θ (H.set b o') (fF w (θ.cm b) co'):=by
 have i:=h.lt hb;refine⟨λ x f a=>?_,λ x y f j a g c d=>?_,λ x f a c=>?_,h.eL,by rw[Uc];exact h.low⟩
 .rw [ar.aJ]at a
  by_cases e:b=x
  .subst e;simp only[vF,qk]at a;subst a;exact⟨(h.obj b o hb).1,co',by grind [Mb],hr⟩
  .simp only[e,oX]at a;have⟨l,co,m,n⟩:=h.obj x f a;exact⟨l,co,by rw[Mb _ _ _ _ i,qy (h.inj b x o f hb a ho e)];exact m,n⟩
 .rw [ar.aJ]at a g
  by_cases e:b=x<;>by_cases e':b=y
  .omega
  .subst e;simp only[e',oX]at g;exact h.inj b y o j hb g ho d
  .subst e';simp only[e,oX]at a;exact h.inj x b f o a hb c d
  .simp only[e,e',oX]at a g;exact h.inj x y f j a g c d
 .rw [ar.aJ]at a
  by_cases e:b=x
  .subst e;exact h.lP b o hb ho
  .simp only[e,oX]at a;exact h.lP x f a c
theorem bD.set{b:Nat}{o o':bE}{co':Obj}(hb:H.get b=B1 o)(ho:own o=B4)(a:θ.cm b<w.heap.size) :
 bD D H θ w (H.set b o') θ (fF w (θ.cm b) co'):=by
 refine⟨qm _,Ag.refl _ _,by simp_all[Uc],rfl,rfl,rfl,λ k hk c=>?_,λ x g f d _=>?_⟩
 .simp_all [Mb]
 .rw [ar.aJ]at f
  grind
def Th.add(θ:Th)(n cm off ext:Nat):Th:={cm:=λ b=>if b=n then cm else θ.cm b,off:=λ b=>if b=n then off else θ.off b,ext:=λ b=>if b=n then ext else θ.ext b}
def Th.eO(θ:Th)(n cm off ext:Nat):(θ.add n cm off ext).cm n=cm/\(θ.add n cm off ext).off n=off/\(θ.add n cm off ext).ext n=ext:=by simp[Th.add]
def Th.gZ(θ:Th)(n cm off ext:Nat){D:Nat->Prop}(hn:¬D n):Ag D θ (θ.add n cm off ext):=λ b hb=>by
 grind [Th.add]
end
section
variable{P:Jv}{base:Nat}{D:Nat->Prop}{θ:Th}{H:ar}{w:NG}
theorem HR.alloc(h:HR P base D θ H w)(hn:¬D H.au){o:bE}{co:Obj}{k off ext:Nat}{w':NG}(hk:w'.heap[k]? = B1 co)(p:∀j,j<w.heap.size->w'.heap[j]? = w.heap[j]?)(u:w.heap.size<=k)
 (hs:w.heap.size<=w'.heap.size) (hr:oR P (Up D H.au (H.au+1)) (θ.add H.au k off ext) H.au o co) :
 HR P base (Up D H.au (H.au+1)) (θ.add H.au k off ext) (H.alloc o) w':=by
 have d:=Th.gZ θ H.au k off ext hn;have⟨e1,e2,v⟩:=Th.eO θ H.au k off ext;have old:∀x b,H.get x=B1 b->(θ.add H.au k off ext).cm x = θ.cm x:=λ x b a=>(d x (h.obj x b a).1).1;refine⟨λ x b a=>?_,λ x y b q a i f m=>?_,λ x b a f=>?_,λ g hg=>?_,by have:=h.low;omega⟩
 .rw [ar.bN]at a
  by_cases e:H.au=x
  .subst e;simp only[vF,qk]at a;subst a;exact⟨.inr ⟨qm _,zu _⟩,co,by rw[e1];exact hk,hr⟩
  .simp only[e,oX]at a;have⟨l,c,r,n⟩:=h.obj x b a;refine⟨.inl l,c,?_,n.up l d Up.of⟩
   grind
 .rw [ar.bN]at a i
  by_cases e:H.au=x<;>by_cases e':H.au=y
  .exact absurd (e.symm.trans e') m
  .subst e;simp only[e',oX]at i;rw[e1,old y q i];have:=h.lt i;omega
  .subst e';simp only[e,oX]at a;rw[e1,old x b a];have:=h.lt a;omega
  .simp only[e,e',oX]at a i;rw[old x b a,old y q i];exact h.inj x y b q a i f m
 .rw [ar.bN]at a
  by_cases e:H.au=x
  .subst e;rw[e1];have:=h.low;omega
  .simp only[e,oX]at a;rw[old x b a];exact h.lP x b a f
 .have ⟨l,r,n⟩:=h.eL g hg;have⟨s,t,_⟩:=d g l;exact⟨.inl l,s.trans r,t.trans n⟩
theorem bD.alloc(h:HR P base D θ H w)(hn:¬D H.au)(o:bE)(co:Obj)(off ext:Nat):bD D H θ w (H.alloc o) (θ.add H.au w.heap.size off ext) (w.alloc co):=by
 have a:=Th.gZ θ H.au w.heap.size off ext hn;have⟨e1,e2,g⟩:=Th.eO θ H.au w.heap.size off ext;refine⟨jy _,a,by simp,rfl,rfl,rfl,λ k hk _=>?_,λ x f b d c=>?_⟩
 .rw [Dv,qy (K5 hk)]
 .rw [ar.bN]at b
  by_cases e:H.au=x
  .grind
  .simp only[e,oX]at b;have:=(a x (h.obj x f b).1).1
   grind
end
section
variable{P:Jv}{base:Nat}{D:Nat->Prop}{θ:Th}{H:ar}{w:NG}
def HR.cells(h:HR P base D θ H w){b:Nat}{l:List AV}(hb:H.bW b=B1 l) :
 ∃pre cs post e fz,w.heap[θ.cm b]? = B1 (.cells (pre++cs++post).toArray e fz)/\pre.length = θ.off b/\bM D θ l cs:=by
 unfold ar.bW at hb;cases hg:H.get b with
 |none=>grind
 |some o =>
  rw[hg]at hb;have⟨_,co,i,hr⟩:=h.obj b o hg;cases o with
  |row cells e fz ow =>
   have⟨pre,cs,post,a,g,c,d,f,_⟩:=hr
   grind
  |grown m size cells e fz =>
   have⟨pre,cs,post,a,c,d,f,_⟩:=hr
   grind
  |map _ _=>cases hb
  |mE _ _=>cases hb
  |loop _ _ _ _ _ _=>cases hb
  |deferred _=>cases hb
def _i(pre cs post:List KP)(o n:Nat)(h:n<=cs.length-o):(((pre++cs++post).toArray.toList.drop (pre.length+o)).take n)=(cs.drop o).take n:=by
 simp_all[IQ,Qy]
def HR.ae(h:HR P base D θ H w){b o:Nat}{v:AV}(hl:H.ae b o=B1 v) :
 ∃c,(load ⟨θ.cm b,θ.off b+o,B5⟩).run P w=.ok c w/\VR D θ v c:=by
 unfold ar.ae at hl;cases a:H.bW b with
 |none=>grind
 |some l =>
  rw[a]at hl;have⟨pre,cs,post,e,fz,i,j,d⟩:=h.cells a;simp only[qr,jP]at hl;have⟨c,f,g⟩:=d.qR hl
  grind [xnx]
def HR.aq(h:HR P base D θ H w){b o n:Nat}{l:List AV}(hl:H.aq b o n=B1 l) :
 ∃cs:List KP,(loadCells ⟨θ.cm b,θ.off b+o,B5⟩ n).run P w=.ok cs.toArray w/\bM D θ l cs/\l.length=n:=by
 unfold ar.aq at hl;cases c:H.bW b with
 |none=>grind
 |some l0 =>
  rw[c]at hl;have⟨pre,cs,post,e,fz,d,f,a⟩:=h.cells c;simp only[qr,tR]at hl;split at hl
  .rename_i hn;cases hl;have hlen:=a.length;refine⟨(cs.drop o).take n,?_,(a.drop o).take n,by grind⟩;rw[<-f,_s d (pre.length+o) n (by grind),_i pre cs post o n (by omega)]
  grind
theorem xdu{v:AV}{c:KP}(h:VR D θ v c)(a:aB v=B4):c.oneCell'=true:=by
 rw[<-h.now];cases v<;>simp_all[aB,az,KP.oneCell']
theorem vh(l:List AV):aN l=l.all aB:=by
 induction l with
 |nil=>rfl
 |cons x l ih =>
  show cond (aB x) (aN l) B2=_
  grind
def tN{l:List AV}{cs:List KP}(h:bM D θ l cs)(b:aN l=B4):∀c∈cs,c.oneCell'=true:=by
 intro c d;have⟨i,m⟩:=L7 d;rw[vh,Gm]at b;have a:i<l.length:=by rw[<-h.length];grind
 have⟨f,g,j⟩:=h.qR (xc a)
 grind [xdu]
end
end Go.Am
namespace Go.Am
def sZ(P:Jv)(s:Sem Next)(w:NG)(c:KP)(w':NG):Prop:=s.run P w=.ok (.value c) w'\/(s.run P w=.ok .skip w'/\c=Go.undef)
def dt(P:Jv)(o:Pl)(xs:List N2)(f:List AV->Option AV):Prop :=
 ∀(D:Nat->Prop)θ(ρ:N2->KP)w vs v,bM D θ vs (xs.map ρ)->f vs=B1 v -> ∃c,sZ P (execOp ρ o) w c w/\VR D θ v c
section
variable{P:Jv}{w:NG}
def ya{t:Mj}{d:TypeDesc}(h:P.underlying t=B1 d):(underlying t).run P w=.ok d w:=run_underlying h w
def vH{t:Mj}{n:Nat}(h:bU P t=B1 n):(sizeOf t).run P w=.ok n w:=by
 unfold bU at h;cases a:P.info? t with
 |none=>grind
 |some i=>simp_all[sizeOf,typeInfo]
def He{t:Mj}{n:Nat}(h:bU P t=B1 n):∃i,P.info? t=B1 i/\i.size=n:=by
 unfold bU at h;cases a:P.info? t with
 |none=>grind
 |some i=>grind
def TC{t:Mj}{n:Option Nat}(h:nQ P t=B1 n):(isAgg t).run P w=.ok n.isSome w /\ ∀k,n=B1 k->(sizeOf t).run P w=.ok k w:=by
 unfold nQ at h;cases hu:P.underlying t with
 |none=>grind
 |some d =>
  rw[hu]at h;cases d
  case struct fs =>
   simp only at h;cases hs:bU P t with
   |none=>grind
   |some m =>
    rw[hs]at h;cases h;simp_all[isAgg,ya,vH]
  case array m e =>
   simp only at h;cases hs:bU P t with
   |none=>grind
   |some m =>
    rw[hs]at h;cases h;simp_all[isAgg,ya,vH]
  all_goals
   (cases h
    simp_all[isAgg,ya])
mutual
def ZA(θ:Th):∀(c:KP)(v:AV),gj c=B1 v->az θ v=c
 | .bool b,v,h=>by simp[gj]at h;subst h;rfl
 | .int k n,v,h=>by simp[gj]at h;subst h;rfl
 | .string s,v,h=>by simp[gj]at h;subst h;simp[az]
 | .pointer B5,v,h=>by simp[gj]at h;subst h;rfl
 | .pointer (B1 a),v,h=>by grind [gj]
 | .slice B5 0 0,v,h=>by simp[gj]at h;subst h;rfl
 | .slice B5 0 (n+1),v,h=>by grind [gj]
 | .slice B5 (n+1) c,v,h=>by grind [gj]
 | .slice (B1 a) n c,v,h=>by grind [gj]
 | .map B5,v,h=>by simp[gj]at h;subst h;rfl
 | .map (B1 r),v,h=>by grind [gj]
 | .nilFunc,v,h=>by simp[gj]at h;subst h;rfl
 | .nilIface,v,h=>by simp[gj]at h;subst h;rfl
 | .iface t x,v,h=>by
  simp only[gj]at h;cases d:gj x with
  |none=>grind
  |some y=>rw[d]at h;cases h;simp[az,ZA θ x y d]
 | .agg cs,v,h=>by
  simp only[gj]at h;cases d:oO cs.toList with
  |none=>grind
  |some l=>rw[d]at h;cases h;simp[az,XN θ cs.toList l d]
 | .tuple cs,v,h=>by
  simp only[gj]at h;cases d:oO cs.toList with
  |none=>grind
  |some l=>rw[d]at h;cases h;simp[az,XN θ cs.toList l d]
 | .float _ _,v,h=>by grind [gj]
 | .complex _ _ _,v,h=>by grind [gj]
 | .chan _,v,h=>by grind [gj]
 | .func _ _ _,v,h=>by grind [gj]
def XN(θ:Th):∀(cs:List KP)(l:List AV),oO cs=B1 l->bT θ l=cs
 |[],l,h=>by simp[oO]at h;subst h;rfl
 |c::cs,l,h=>by
  simp only[oO]at h;cases a:gj c with
  |none=>grind
  |some y =>
   rw[a]at h;simp only[qr]at h;cases b:oO cs with
   |none=>grind
   |some ys=>rw[b]at h;cases h;simp[bT,ZA θ c y a,XN θ cs ys b]
end
def Tj{D:Nat->Prop}{θ:Th}{c:KP}{v:AV}(h:gj c=B1 v):VR D θ v c:=λ θ' _=>ZA θ' c v h
def KZ{t:Mj}{z:AV}(h:zeroOf P t=B1 z):∃c,(zeroValue t).run P w=.ok c w /\ ∀D θ,VR D θ z c:=by
 unfold zeroOf at h;cases a:P.info? t with
 |none=>grind
 |some i =>
  rw[a]at h;simp only[qr]at h;cases b:i.zero with
  |none=>grind
  |some c=>simp_all[zeroValue,typeInfo,Tj]
end
section
variable{D:Nat->Prop}{θ:Th}
def VR.cells{v:AV}{c:KP}(h:VR D θ v c):bM D θ v.cells c.cells.toList:=by
 intro θ' ha;have a:=h θ' ha;subst a;cases v<;>simp[AV.cells,az,KP.cells,bT]
end
section
variable{P:Jv}{D:Nat->Prop}{θ:Th}{ρ:N2->KP}{w:NG}
theorem bM.iP{x:N2}{vs:List AV}(h:bM D θ vs ([x].map ρ)):∃v,vs=[v]/\VR D θ v (ρ x):=by
 cases vs with
 |nil=>have:=h.length;grind
 |cons v vs =>
  have⟨c,cs,a,d,b⟩:=h.eF;simp only[kh,F1,z8]at a;obtain⟨rfl,rfl⟩:=a;have:=b.length
  grind
theorem bM.tD{x y:N2}{vs:List AV}(h:bM D θ vs ([x,y].map ρ)):∃a b,vs=[a,b]/\VR D θ a (ρ x)/\VR D θ b (ρ y):=by
 cases vs with
 |nil=>have:=h.length;grind
 |cons v vs =>
  have⟨c,cs,d,f,g⟩:=h.eF
  grind [bM.iP]
def bM.ti{x y z:N2}{vs:List AV}(h:bM D θ vs ([x,y,z].map ρ)):∃a b c,vs=[a,b,c]/\VR D θ a (ρ x)/\VR D θ b (ρ y)/\VR D θ c (ρ z):=by
 cases vs with
 |nil=>have:=h.length;grind
 |cons v vs =>
  have⟨c,cs,d,f,g⟩:=h.eF
  grind [bM.tD]
def _a{o:Pl}{x:N2}(ho:o.op=.move x\/o.op=.assign x):dt P o [x] Op.move:=by
 intro D θ ρ w vs v h b;obtain⟨a,rfl,ha⟩:=bM.iP h;simp only[Op.move,qk]at b;subst b;refine⟨ρ x,.inl ?_,ha⟩;rcases ho with ho|ho<;>simp[execOp,ho]
def xnk{o:Pl}{c a b:N2}(ho:o.op=.pick c a b):dt P o [c,a,b] Op.pick:=by
 intro D θ ρ w vs v h g;obtain⟨q,x,y,rfl,l,m,n⟩:=bM.ti h;unfold Op.pick at g;split at g
 .rename_i i p r heq;injection heq with j d;subst j;injection d with d f;subst d;injection f with f _;subst f
  cases g;have hb:ρ c=.bool i:=l.now.symm;cases i
  .exact ⟨ρ b,.inl (by simp[execOp,ho,hb,asBool]),n⟩
  .exact ⟨ρ a,.inl (by simp[execOp,ho,hb,asBool]),m⟩
 grind
def Ie{o:Pl}{op:UnOp}{t:Mj}{x:N2}(ho:o.op=.unOp op t x):dt P o [x] (Op.un op):=by
 intro D θ ρ w vs v h b;obtain⟨a,rfl,ha⟩:=bM.iP h;simp only[Op.un,n_]at b;have hr:=ha.now;split at b
 .rename_i k n;cases b;exact⟨_,.inl (by simp[execOp,ho,<-hr,az,Cs.unary,Cs.intArith]<;>rfl),.int _ _⟩
 .rename_i k n;simp only[gH]at b;cases b;exact⟨_,.inl (by simp[execOp,ho,<-hr,az,Cs.unary,Cs.intBits]<;>rfl),.int _ _⟩
 .cases b;exact⟨_,.inl (by simp[execOp,ho,<-hr,az,Cs.unary]),.bool _⟩
 grind
def xnl{o:Pl}{src dst:Mj}{x:N2}{k j:PJ}(ho:o.op=.convert src dst x)(c:P.underlying src=B1 (.int j))(d:P.underlying dst=B1 (.int k)):dt P o [x] (Op.wrap k):=by
 intro D θ ρ w vs v h b;obtain⟨a,rfl,ha⟩:=bM.iP h;have hr:=ha.now;unfold Op.wrap at b;split at b
 .rename_i k' n heq;cases heq;cases b;exact⟨_,.inl (by simp[execOp,ho,<-hr,az,convert,ya c,ya d,Conv.intToInt]<;>rfl),.int _ _⟩
 grind
def xd1{o:Pl}{t:Mj}{x:N2}(ho:o.op=.makeInterface t x)(g:∃d,P.underlying t=B1 d/\(match d with| .interface _=>B2|_=>B4)=B4):dt P o [x] (Op.dH t):=by
 intro D θ ρ w vs v h b;obtain⟨a,rfl,ha⟩:=bM.iP h;simp only[Op.dH,qk]at b;subst b;have⟨d,c,f⟩:=g;refine⟨.iface t (ρ x),.inl ?_,ha.iface⟩;cases d<;>simp_all[execOp,Instr.makeInterface,ya c]
def xge{o:Pl}{f:FuncId}{a b:Array N2}(ho:o.op=.makeFunc (.func f) a b):dt P o (a.toList++b.toList) (Op.bt f a.size):=by
 intro D θ ρ w vs v h c;simp only[Op.bt,qk]at c;subst c;refine⟨.func (.func f) (a.map ρ) (b.map ρ),.inl (by simp[execOp,ho,Instr.makeFunc]),λ θ' hg=>?_⟩;have d:=(h.take a.size) θ' hg;have g:=(h.drop a.size) θ' hg;simp only[az,fJ,d,g];congr 1
 .grind
 grind
def xdz{o:Pl}{x:N2}{i:Nat}(ho:o.op=.extract x i):dt P o [x] (Op.extract i):=by
 intro D θ ρ w vs v h b;obtain⟨a,rfl,ha⟩:=bM.iP h;unfold Op.extract at b;split at b
 .rename_i l heq;cases heq;have⟨cs,g,hl⟩:=ha.Ao;rw[jP]at b;have⟨c,d,f⟩:=hl.qR b;exact⟨c,.inl (by simp[execOp,ho,g,Instr.extract,d]),f⟩
 grind
def LA{o:Pl}{c:Call}{b:Builtin}(ho:o.op=.call c)(a:c.callee=.builtin b) :
 ∃consts,execOp ρ o=builtin b c.argTypes o.type consts (c.args.map ρ):=by
 refine⟨c.args.map λ| .const _=>B4|_=>B2,?_⟩
 grind [execOp,resolve,invoke]
def AL{c:Call}{xs:List N2}(a:c.args.toList=xs):c.args.map ρ = (xs.map ρ).toArray:=by
 grind
def bM.p7{xs:List N2}{a:AV}(h:bM D θ [a] (xs.map ρ)):∃x,xs=[x]/\VR D θ a (ρ x):=by
 have:=h.length
 match xs,this,h with
 |[x],_,h=>grind [bM.iP]
def bM.rB{xs:List N2}{a b:AV}(h:bM D θ [a,b] (xs.map ρ)):∃x y,xs=[x,y]/\VR D θ a (ρ x)/\VR D θ b (ρ y):=by
 have:=h.length
 match xs,this,h with
 |[x,y],_,h =>
  grind [bM.tD]
theorem LC(s:List UInt8):(⟨s.toArray⟩:ByteArray).size=s.length:=by simp[ByteArray.size]
def xj4{o:Pl}{c:Call}{xs:List N2}{t e:Mj}(ho:o.op=.call c)(f:c.callee=.builtin .len)(d:c.args.toList=xs)(b:c.argTypes[0]? = B1 t)
 (hu:P.underlying t=B1 (.slice e)):dt P o xs Op.cD:=by
 intro D θ ρ w vs v h a;have⟨consts,he⟩:=LA (ρ:=ρ) ho f;unfold Op.cD at a;split at a
 .obtain ⟨x,rfl,ha⟩:=h.p7;cases a;refine⟨_,.inl ?_,.int _ _⟩;rw[he,AL d];simp[builtin,D9,ya hu,b,<-ha.now,az,goInt]<;>rfl
 .obtain ⟨x,rfl,ha⟩:=h.p7;cases a;refine⟨_,.inl ?_,.int _ _⟩;rw[he,AL d];simp[builtin,D9,ya hu,b,<-ha.now,az,goInt]<;>rfl
 .obtain ⟨x,rfl,ha⟩:=h.p7;cases a;refine⟨_,.inl ?_,.int _ _⟩;rw[he,AL d];simp[builtin,D9,ya hu,b,<-ha.now,az,goInt]<;>rfl
 .obtain ⟨x,rfl,ha⟩:=h.p7;cases a;refine⟨_,.inl ?_,.int _ _⟩;rw[he,AL d];simp[builtin,D9,ya hu,b,<-ha.now,az,goInt]<;>rfl
 grind
def xjc{op:BinOp}{k:PJ}{a b:Int}{v:AV}(hs:eB op=B2)(h:gH op k a b=B1 v)(t:Mj) :
 ∃c,(binOp op t (.int k a) (.int k b)).run P w=.ok c w/\VR D θ v c:=by
 cases op<;>simp only[gH,eB,qk,BV,MD,OK,Bool.true_eq_false]at h hs
 case quo =>
  cases hb:(b == 0)<;>rw[hb]at h<;>simp at h;subst h;exact⟨_,by simp[binOp,Cs.intDiv,by simpa using hb]<;>rfl,.int _ _⟩
 case rem =>
  cases hb:(b == 0)<;>rw[hb]at h<;>simp at h;subst h;exact⟨_,by simp_all[binOp,Cs.intDiv],.int _ _⟩
 all_goals
  subst h
  first|refine⟨_,?_,VR.int _ _⟩|refine⟨_,?_,VR.bool _⟩
  simp only[binOp,ne_eq,not_true_eq_false,oX,Cs.intBits,Cs.intArith,Cs.intCmp];rfl
def xci(a b:List UInt8):bytesLess a b=Cs.bytesLess a b:=by
 induction a generalizing b with
 |nil=>cases b<;>rfl
 |cons x a ih=>cases b with
  |nil=>rfl
  |cons y b =>
   simp only[bytesLess,Cs.bytesLess,ih,Vt];congr 1;rw[Cl];simp[UInt8.lt_iff_toNat_lt]
def z0(s:List UInt8):(⟨s.toArray⟩:ByteArray).toList=s:=by rw[ByteArray.toList_eq]
def xkm{op:BinOp}{a b:List UInt8}{v:AV}(h:rX op a b=B1 v)(t:Mj) :
 ∃c,(binOp op t (.string ⟨a.toArray⟩) (.string ⟨b.toArray⟩)).run P w=.ok c w/\VR D θ v c:=by
 cases op<;>simp only[rX,qk,reduceCtorEq,MP,xci]at h
 case add =>
  cases hb:Oh (a.length+b.length) 140737488355328<;>rw[hb]at h<;>simp at h;subst h;have hle:a.length+b.length<=140737488355328:=by simp_all
  refine⟨.string (⟨a.toArray⟩++⟨b.toArray⟩),?_,λ θ' _=>?_⟩
  .simp only[binOp,Cs.stringOp,LC,Sem.run_ite];rw[qy (by grind [PJ.max,IntKind.bits])];rfl
  .show KP.string ⟨(a++b).toArray⟩=_;congr 1
 all_goals
  subst h;exact⟨_,by simp[binOp,Cs.stringOp]<;>rfl,.bool _⟩
def Θ{o:Pl}{op:BinOp}{t p:Mj}{x y:N2}(ho:o.op=.binOp op t x y p):dt P o [x,y] (Op.bin op):=by
 intro D θ ρ w vs v h d;obtain⟨a,b,rfl,ha,hb⟩:=bM.tD h;simp only[Op.bin,nP]at d;have g:=ha.now;have i:=hb.now;have guard:∀(u n:KP),(∀l,u≠ .agg l)->u≠ .nilIface->(eqGuard op t x y u n).run P w=.ok () w:=by
  intro u n q r;unfold eqGuard;cases u<;>cases op<;>simp_all
 split at d
 .rename_i k a k' b;cases hs:eB op
  .rw [hs]at d;simp only[zp,UP]at d
   by_cases hk:k=k'
   .subst hk;simp only[decide_true,xu]at d;have⟨c,m,j⟩:=xjc (P:=P) (w:=w) (D:=D) (θ:=θ) hs d t;refine⟨c,.inl ?_,j⟩;have hg:=guard (.int k a) (.int k b) (λ _=>by simp) (by simp);simp_all[execOp,az]
   grind
  .rw [hs]at d;simp only[xu,ud,MD]at d
   by_cases f:b<0
   .grind
   .simp only[f,J5,zp]at d;have hg:=guard (.int k a) (.int k' b) (λ _=>by simp) (by simp);cases op<;>simp only[eB,zr]at hs
    all_goals
     cases d;exact⟨_,.inl (by simp[execOp,ho,<-g,<-i,az,hg,binOp,Cs.shift,f]<;>rfl),.int _ _⟩
 .rename_i a b;have⟨c,m,j⟩:=xkm (P:=P) (w:=w) (D:=D) (θ:=θ) d t;have hg:=guard (.string ⟨a.toArray⟩) (.string ⟨b.toArray⟩) (λ _=>by simp) (by simp);exact⟨c,.inl (by simp[execOp,ho,<-g,<-i,az,hg,m]),j⟩
 grind
end
end Go.Am
namespace Go.Am
section
variable{P:Jv}{D:Nat->Prop}{θ:Th}{ρ:N2->KP}{w:NG}
def KA{t:Mj}{l:List AV}{cs:List KP}{off:Nat}{n:Option Nat}{v:AV}(hn:nQ P t=B1 n)(hl:bM D θ l cs)(h:partAt l off n=B1 v) :
 ∃c,(part t cs.toArray off).run P w=.ok c w/\VR D θ v c:=by
 have⟨a,b⟩:=TC (w:=w) hn;cases n with
 |none =>
  simp only[partAt,jP]at h;have⟨c,d,f⟩:=hl.qR h;simp_all[part]
 |some k =>
  simp only[partAt,tR]at h;split at h
  .rename_i hk;cases h;refine⟨.agg ((cs.drop off).take k).toArray,?_,VR.agg ((hl.drop off).take k)⟩;have hlen:=hl.length;simp only[part,Nw,a,NO,vz,vF,b k rfl];simp_all
  grind
def TA{i:Int}{n k:Nat}(h:within i n=B1 k):i=(k:Int)/\k<n:=by
 unfold within at h;cases i with
 |ofNat m =>
  grind [zU]
 |negSucc m=>cases h
def q8a{o:Pl}{t:Mj}{x:N2}{i:Nat}{fs:Array Field}{f:Field}{n:Nat}(ho:o.op=.fieldAddr t x i)(j:P.underlying t=B1 (.struct fs))(g:fs[i]? = B1 f)(hn:bU P f.type=B1 n)(a:n≠0) :
 dt P o [x] (Op.fieldAddr f.offset):=by
 intro D θ ρ w vs v h c;unfold Op.fieldAddr at c;split at c
 .rename_i b d;have⟨y,heq,ha⟩:=h.p7;injection heq with heq _;subst heq
  cases c;have hr:=ha.now;refine⟨.pointer (B1 ⟨θ.cm b,θ.off b+d+f.offset,B5⟩),.inl ?_,λ θ' hg=>?_⟩
  .simp [execOp,ho,Instr.fieldAt,ya j,g,<-hr,az,CF,fieldPlace,vH hn,a,yJ]
  .have:=ha θ' hg
   grind [az]
 grind
def xbe{o:Pl}{t e:Mj}{x i:N2}{len size:Nat}{n:Option Nat}(ho:o.op=.index t x i)(q:P.underlying t=B1 (.array len e))(hs:bU P e=B1 size)(hn:nQ P e=B1 n) :
 dt P o [x,i] (Op.bG len size n):=by
 intro D θ ρ w vs v h b;unfold Op.bG at b;split at b
 .rename_i l k j;have⟨y,z,heq,ha,hb⟩:=h.rB;injection heq with d a;injection a with a _;subst d;subst a
  cases hw:within j len with
  |none=>grind
  |some m =>
   rw[hw]at b;obtain⟨rfl,p⟩:=TA hw;have⟨cs,f,hl⟩:=ha.fA;have⟨c,d,a⟩:=KA (w:=w) hn hl b;refine⟨c,.inl ?_,a⟩;have g:(0:Int)<=(m:Int)/\(m:Int)<(len:Int):=by omega
   simp[execOp,ho,Instr.index,ya q,f,<-hb.now,az,asIntOf,g,vH hs,d];omega
 grind
def xbg{o:Pl}{t:Mj}{x i:N2}(ho:o.op=.index t x i)(l:P.underlying t=B1 .string):dt P o [x,i] Op.bO:=by
 intro D θ ρ w vs v h a;unfold Op.bO at a;split at a
 .rename_i s k j;have⟨y,z,heq,ha,hb⟩:=h.rB;injection heq with f b;injection b with b _;subst f;subst b
  cases hw:within j s.length with
  |none=>grind
  |some m =>
   rw[hw]at a;obtain⟨rfl,c⟩:=TA hw;simp only[qr,jP]at a;obtain⟨u,hu⟩:∃u,s[m]? = B1 u:=⟨_,xc c⟩
   rw[hu]at a;cases a;refine⟨.int .u8 u.toNat,.inl ?_,.int _ _⟩;have d:(0:Int)<=(m:Int):=by omega
   have hg:getElem? (⟨s.toArray⟩:ByteArray) m=B1 u:=by
    have n:m<(⟨s.toArray⟩:ByteArray).size:=by grind [LC]
    rw[getElem?_pos (⟨s.toArray⟩:ByteArray) m n];have g:=(qo.1 hu).2;simp only[qk];exact g
   simp[execOp,ho,Instr.index,ya l,<-ha.now,<-hb.now,az,asIntOf,d,hg]
 grind
def l_{x:AV}{c:KP}{size j b o:Nat}(h:VR D θ x c)(he:elemAt size x j=B1 (b,o)) :
 ∃n m,c=.slice (B1 ⟨θ.cm b,θ.off b+o-j*size,B5⟩) n m/\j<n/\j*size<=o/\(∀θ',Ag D θ θ' -> θ'.cm b = θ.cm b /\ θ'.off b+o = θ.off b+o):=by
 have hr:=h.now;unfold elemAt at he;split at he
 .rename_i d o' n' i;cases hb:Pk j n'<;>rw[hb]at he
  .cases he
  .simp only[xu,qk,zk]at he;obtain⟨rfl,rfl⟩:=he;refine⟨n',i,?_,by simp_all,by omega,λ θ' ha=>?_⟩
   .grind [az]
   .have:=h θ' ha;grind [az]
 .rename_i d f g p a n';cases hb:(Pk j n' && JW p size && Pk (f+j) g)<;>rw[hb]at he
  .cases he
  .simp only[xu,qk,zk]at he;obtain⟨rfl,rfl⟩:=he;simp only[zf,zU,ke]at hb;obtain⟨⟨l,rfl⟩,q⟩:=hb;refine⟨n',g-f + θ.ext d,?_,l,by omega,λ θ' ha=>?_⟩
   .rw [<-hr];simp only[az];grind
   .have:=h θ' ha;rw[<-hr]at this;simp only[az,BP,qk,C7]at this
    grind
 grind
def xd0{o:Pl}{t e:Mj}{x i:N2}{size:Nat}(ho:o.op=.indexAddr t x i)(B:P.underlying t=B1 (.slice e))(hs:bU P e=B1 size) :
 dt P o [x,i] (Op.aQ size):=by
 intro D θ ρ w vs v h d;unfold Op.aQ at d;split at d
 .rename_i a k j;have⟨y,z,heq,ha,hb⟩:=h.rB;injection heq with l g;injection g with g _;subst l;subst g
  cases hl:eJ a with
  |none=>grind
  |some n0 =>
   rw[hl]at d;simp only[qr]at d;cases hw:within j n0 with
   |none=>grind
   |some m =>
    rw[hw]at d;simp only[qr]at d;obtain⟨rfl,u⟩:=TA hw;cases he:elemAt size a m with
    |none=>grind
    |some p =>
     have⟨b,f⟩:=p;rw[he]at d;cases d;have⟨n,c,q,s,hle,A⟩:=l_ ha he;refine⟨.pointer (B1 ⟨θ.cm b,θ.off b+f,B5⟩),.inl ?_,λ θ' hg=>?_⟩
     .have r:(0:Int)<=(m:Int)/\(m:Int)<(n:Int):=by omega
      have heq:θ.off b+f-m*size+m*size = θ.off b+f:=by omega
      simp[execOp,ho,Instr.indexAt,ya B,q,<-hb.now,az,asIntOf,r,vH hs,yJ,heq];omega
     grind [az]
 grind
def xbf{o:Pl}{t e:Mj}{x i:N2}{len size:Nat}(ho:o.op=.indexAddr t x i)(n:P.underlying t=B1 (.array len e))(hs:bU P e=B1 size) :
 dt P o [x,i] (Op.aV len size):=by
 intro D θ ρ w vs v h a;unfold Op.aV at a;split at a
 .rename_i b d k j;have⟨y,z,heq,ha,hb⟩:=h.rB;injection heq with f c;injection c with c _;subst f;subst c
  cases hw:within j len with
  |none=>grind
  |some m =>
   rw[hw]at a;cases a;obtain⟨rfl,l⟩:=TA hw;have g:(0:Int)<=(m:Int)/\(m:Int)<(len:Int):=by omega
   refine⟨.pointer (B1 ⟨θ.cm b,θ.off b+d+m*size,B5⟩),.inl ?_,λ θ' hg=>?_⟩
   .simp [execOp,ho,Instr.indexAt,ya n,<-ha.now,<-hb.now,az,asIntOf,CF,g,vH hs,yJ];omega
   .have:=ha θ' hg;rw[<-ha.now]at this
    grind [az]
 grind
def xbh{o:Pl}{x:N2}(ho:o.op=.nilCheck x):dt P o [x] Op.nilCheck:=by
 intro D θ ρ w vs v h b;obtain⟨a,rfl,ha⟩:=bM.iP h;have hr:=ha.now;unfold Op.nilCheck at b;split at b
 .cases b
 .cases b
 .cases b
 .rename_i f d g heq;injection heq with heq;subst heq
  injection b with b;subst b
  exact⟨ρ x,.inl (by simp[execOp,ho,<-hr,az,fJ]),ha⟩
 .cases b
 .rename_i c i j l m n heq;injection heq with heq;subst heq
  injection b with b;subst b
  refine⟨ρ x,.inl ?_,ha⟩;have p:=hr.symm;clear hr ha h;cases a
  case nilp=>grind
  case nili=>grind
  case nilf=>grind
  case fn f' c b'=>grind
  all_goals simp_all[az,execOp]
 grind
def xhl(off:Nat):∀(cs:List KP)(j:Nat)(arr:List KP),off+j+cs.length<=arr.length ->
 ((cs.zipIdx j).foldl (λ acc(p:KP×Nat)=>acc.setIfInBounds (off+p.2) p.1) arr.toArray)=(arr.take (off+j)++cs++arr.drop (off+j+cs.length)).toArray
 |[],j,arr,_=>by simp
 |c::cs,j,arr,h=>by
  simp only[List.zipIdx_cons,List.foldl_cons,List.setIfInBounds_toArray];rw[xhl off cs (j+1) (arr.set (off+j) c) (by grind)];congr 1;have a:=list_seg_step arr (off+j) c cs (by simp at h⊢;omega)
  simpa[wq]using a
theorem xmr(off:Nat)(cs:Array KP)(arr:List KP)(h:off+cs.size<=arr.length) :
 (cs.zipIdx.foldl (λ acc(p:KP×Nat)=>acc.setIfInBounds (off+p.2) p.1) arr.toArray)=(arr.take off++cs.toList++arr.drop (off+cs.size)).toArray:=by
 have:=xhl off cs.toList 0 arr (by simpa using h);rw[<-Array.foldl_toList]
 simpa using this
def U5:∀(places:List (Nat×Nat))(vs:List AV)(parts:List (Nat×N2))(pl:Nat->Option (Nat×Nat))(out:List AV),
 EJ pl parts=B1 places->bM D θ vs (parts.map λ p=>ρ p.2) -> ∀(cells:List AV)(a:List KP),bM D θ cells a->jH cells places vs=B1 out ->
 ∃cout:List KP,Instr.fill pl a.toArray (parts.map λ p=>(p.1,ρ p.2))=B1 cout.toArray/\bM D θ out cout:=by
 intro places vs parts
 induction parts generalizing places vs with
 |nil =>
  intro pl out hp m cells a f d;simp only[EJ,qk]at hp;subst hp;have:vs=[]:=by have:=m.length;grind
  subst this;simp only[jH,qk]at d;subst d;exact⟨a,rfl,f⟩
 |cons p parts ih =>
  intro pl out hp m cells a f d;have⟨i,x⟩:=p;simp only[EJ]at hp;cases h:pl i with
  |none=>grind
  |some q =>
   have⟨off,size⟩:=q;rw[h]at hp;simp only[qr]at hp;cases hr:EJ pl parts with
   |none=>grind
   |some l =>
    rw[hr]at hp;cases hp;cases vs with
    |nil=>grind [jH]
    |cons v vs =>
     have⟨c,cs',n,o,r⟩:=m.eF;simp only[kh,z8]at n;obtain⟨rfl,rfl⟩:=n;simp only[jH,IY]at d;cases hb:JW v.cells.length size
     .grind
     .rw [hb]at d;simp only[xu,AZ]at d;have b:=o.cells;have hlen:=b.length;have j:(ρ x).cells.size=size:=by simp_all
      split at d
      .rename_i hle;simp only[qr]at d;have t:=f.length;have g:bM D θ (cells.take off++v.cells++cells.drop (off+v.cells.length)) (a.take off++(ρ x).cells.toList++a.drop (off+v.cells.length)) :=
        ((f.take off).app b).app (f.drop _)
       have⟨cout,u,s⟩:=ih l vs pl out hr r _ _ g d;refine⟨cout,?_,s⟩;simp only[kh,Instr.fill,h];rw[qy (by simp only[List.size_toArray];rw[j];rw[<-Array.length_toList]at j;simp;omega)]
       grind [xmr]
      grind
def xnf(parts:Array (Nat×N2)):(parts.map λ(p:Nat×N2)=>(p.1,ρ p.2)).toList=parts.toList.map λ p=>(p.1,ρ p.2):=by simp
def xbz(fs:Array Field)(a:∀f∈fs,∃n,bU P f.type=B1 n) :
 ∃pl:Array (Nat×Nat),(fs.mapM λ(f:Field)=>(do pure (f.offset,<-sizeOf f.type):Sem (Nat×Nat))).run P w=.ok pl w /\ ∀i:Nat,pl[i]? = OD P fs i:=by
 have key:∀l:List Field,(∀f∈l,∃n,bU P f.type=B1 n) ->
  ∃pl:List (Nat×Nat),(l.mapM λ(f:Field)=>(do pure (f.offset,<-sizeOf f.type):Sem (Nat×Nat))).run P w=.ok pl w /\ ∀i:Nat,pl[i]? = (l[i]?).bind λ(f:Field)=>(bU P f.type).bind λ n=>B1 (f.offset,n):=by
  intro l
  induction l with
  |nil=>simp_all
  |cons f l ih =>
   intro hl;have⟨n,hn⟩:=hl f (by simp);have⟨pl,b,c⟩:=ih (λ g hg=>hl g (by simp[hg]));refine⟨(f.offset,n)::pl,?_,λ i=>?_⟩
   .simp_all [vH]
   grind
 have⟨pl,b,c⟩:=key fs.toList (by grind);simp_all[Array.mapM_eq_mapM_toList,OD]
def qyo{o:Pl}{t:Mj}{parts:Array (Nat×N2)}{z:AV}{fs:Array Field}{b:List (Nat×Nat)}(ho:o.op=.build t parts)(r:zeroOf P t=B1 z)
 (A:P.underlying t=B1 (.struct fs)) (a:∀f∈fs,∃n,bU P f.type=B1 n) (hp:EJ (OD P fs) parts.toList=B1 b):dt P o (parts.toList.map (·.2)) (Op.build z.cells b):=by
 intro D θ ρ w vs v h c;have⟨u,s,d⟩:=KZ (w:=w) r;have⟨pl,x,l⟩:=xbz (w:=w) fs a;unfold Op.build at c;cases g:jH z.cells b vs with
 |none=>grind
 |some out =>
  rw[g]at c;cases c;have j:bM D θ vs (parts.toList.map λ p=>ρ p.2):=by grind [Function.comp_def]
  have⟨cout,y,m⟩:=U5 (ρ:=ρ) b vs parts.toList (OD P fs) out hp j z.cells u.cells.toList (d D θ).cells g;refine⟨.agg cout.toArray,.inl ?_,VR.agg m⟩;have q:(λ i=>pl[i]?)=OD P fs:=funext l;simp_all[execOp,Instr.build,ya]
def q1f{o:Pl}{t e:Mj}{parts:Array (Nat×N2)}{z:AV}{len n:Nat}{a:List (Nat×Nat)}(ho:o.op=.build t parts)(r:zeroOf P t=B1 z)
 (q:P.underlying t=B1 (.array len e)) (hn:bU P e=B1 n) (hp:EJ (Lb n) parts.toList=B1 a):dt P o (parts.toList.map (·.2)) (Op.build z.cells a):=by
 intro D θ ρ w vs v h b;have⟨s,c,d⟩:=KZ (w:=w) r;unfold Op.build at b;cases f:jH z.cells a vs with
 |none=>grind
 |some out =>
  rw[f]at b;cases b;have g:bM D θ vs (parts.toList.map λ p=>ρ p.2):=by grind [Function.comp_def]
  have⟨cout,j,l⟩:=U5 (ρ:=ρ) a vs parts.toList (Lb n) out hp g z.cells s.cells.toList (d D θ).cells f;refine⟨.agg cout.toArray,.inl ?_,VR.agg l⟩;simp only[execOp,ho,Instr.build,Nw,c,NO,ya q,vH hn];have e:(parts.map λ(p:Nat×N2)=>(p.1,ρ p.2)).toList=parts.toList.map λ p=>(p.1,ρ p.2):=by simp
  simp only[CD]at j;have m:(λ i=>B1 (i*n,n))=Lb n:=rfl;simp_all
end
end Go.Am
namespace Go.Am
section
variable{P:Jv}{D:Nat->Prop}{θ:Th}{ρ:N2->KP}{w:NG}
def ny(D:Nat->Prop)(θ:Th)(ρ:N2->KP):Option N2->Option AV->Prop
 |none,a=>a=B5
 |some x,a=>∃v,a=B1 v/\VR D θ v (ρ x)
def Td:∀(opts:List (Option N2))(pre rest:List AV),bM D θ rest ((kO opts).map ρ) -> ∀(j:Nat)(o:Option N2)(idx:Option Nat),opts[j]? = B1 o->(gI pre.length opts)[j]? = B1 idx ->
 ∀a,arg (pre++rest) idx=B1 a->ny D θ ρ o a
 |[],pre,rest,h,j,o,idx,ho,hi,a,ha=>by grind
 |none::opts,pre,rest,h,j,o,idx,ho,hi,a,ha=>by
  cases j with
  |zero =>
   simp only[gI,zo,qk]at ho hi;subst ho;subst hi;simp only[arg,qk]at ha;exact ha.symm
  |succ j=>exact Td opts pre rest h j o idx (by simpa using ho) (by simpa[gI]using hi) a ha
 |some x::opts,pre,rest,h,j,o,idx,ho,hi,a,ha=>by
  cases rest with
  |nil=>have:=h.length;grind [kO]
  |cons v rest =>
   have⟨c,cs,b,d,f⟩:=h.eF;simp only[kO,kh,z8]at b;obtain⟨rfl,rfl⟩:=b;cases j with
   |zero =>
    simp only[gI,zo,qk]at ho hi;subst ho;subst hi;simp only[arg,jP]at ha;rw[je (qm _)]at ha;simp at ha;exact⟨v,ha.symm,d⟩
   |succ j =>
    refine Td opts (pre ++ [v]) rest f j o idx (by simpa using ho) (by simpa[gI]using hi) a ?_
    simpa using ha
def WT{o:Option N2}{a:Option AV}{d mx r:Nat}(h:ny D θ ρ o a)(hb:bound a d mx=B1 r) :
 (match o with
  |none=>r=d
  |some x=>(∀code y,mx<=y->(Instr.sliceBound (ρ x) y code).run P w=.ok r w)/\r<=mx):=by
 cases o with
 |none =>
  grind [ny,bound]
 |some x =>
  obtain⟨v,rfl,g⟩:=h;unfold bound at hb;split at hb
  .grind
  .rename_i k i heq;cases heq;cases hle:Oh i mx<;>rw[hle]at hb
   .cases hb
   .injection hb with hb;subst hb
    have b:i<=mx:=by simpa[uh]using hle
    refine⟨λ code y j=>?_,b⟩;have c:(0:Int)<=(i:Int)/\(i:Int)<=(y:Int):=by omega
    have f:i<=y:=by omega
    simp[Instr.sliceBound,<-g.now,az,asIntOf,c]
  .cases hb
def Se{lo c mx:Option N2}{a b m:Option AV}{g:Bool}{len cap low M Y h l:Nat}(ha:ny D θ ρ lo a)(hb:ny D θ ρ c b)(hm:ny D θ ρ mx m)
 (i:(mx=B5/\M=cap) \/ ∃d,bound m d low=B1 M/\low<=cap/\mx.isSome=B4) (q:Y<=M) (n:bound b len Y=B1 h) (hl:bound a 0 h=B1 l) (o:mx.isSome=B4->c.isSome=B4) :
 (BJ g len cap (lo.map ρ) (c.map ρ) (mx.map ρ)).run P w=.ok (l,h,M) w:=by
 have e2:=WT (P:=P) (w:=w) hb n;have p:=WT (P:=P) (w:=w) ha hl;cases mx with
 |none =>
  obtain⟨_,rfl⟩|⟨_,_,_,f⟩:=i
  .cases c with
   |none =>
    simp only at e2;subst e2;cases lo with
    |none=>simp_all[BJ]
    |some x=>simp_all[BJ]
   |some y =>
    cases lo with
    |none=>simp_all[BJ]
    |some x=>simp_all[BJ]
  grind
 |some z =>
  obtain⟨f,_⟩|⟨d,f,j,_⟩:=i
  .cases f
  .have e1:=WT (P:=P) (w:=w) hm f;cases c with
   |none=>grind
   |some y =>
    cases lo with
    |none=>simp_all[BJ]
    |some x=>simp_all[BJ]
theorem xiy(v:AV)(d a:Nat){mx:Nat}:bound (B1 v) d mx=bound (B1 v) a mx:=by
 cases v<;>try rfl
 rename_i k n;cases n<;>rfl
def JV{o:Option N2}{a:Option AV}{d mx r:Nat}(h:ny D θ ρ o a)(hb:bound a d mx=B1 r)(b:d<=mx):r<=mx:=by
 cases o with
 |none=>grind [ny,bound]
 |some x =>
  obtain⟨v,rfl,c⟩:=h;unfold bound at hb;split at hb
  .grind
  .grind [uh]
  grind
def _0(lo a mx:Option N2):∃i j k,gI 0 [lo,a,mx]=[i,j,k]:=by cases lo<;>cases a<;>cases mx<;>simp[gI]
def J'{size:Nat}{x:AV}{c:KP}{lo A mx:Option N2}{a b m:Option AV}{v:AV}(F:VR D θ x c)(ha:ny D θ ρ lo a)(hb:ny D θ ρ A b)(hm:ny D θ ρ mx m)(f:df size x a b m=B1 v) :
 ∃ad len cap l h M,c=.slice ad len cap/\(∀o,(BJ o len cap (lo.map ρ) (A.map ρ) (mx.map ρ)).run P w=.ok (l,h,M) w) /\
  VR D θ v (.slice (if M=l then ad else ad.map (·.add (l*size))) (h-l) (M-l)):=by
 have hr:=F.now;unfold df at f;split at f
 .-- nil
  split at f
  .rename_i R;cases j:bound b 0 0 with
   |none=>grind
   |some h =>
    rw[j]at f;simp only[qr]at f;cases hl:bound a 0 h with
    |none=>grind
    |some l =>
     rw[hl]at f;cases f;have p:mx=none:=by
      cases mx with
      |none=>rfl
      |some z=>have⟨_,q,_⟩:=hm;cases q
     subst p;have G:h=0/\l=0:=by
      have S:=JV hb j (qm _);have T:=JV ha hl (xx _);omega
     obtain⟨rfl,rfl⟩:=G;refine⟨B5,0,0,0,0,0,hr.symm,λ o=>Se (low:=0) ha hb hm (by grind) (qm _) j hl (by simp),λ θ' _=>by simp[az]⟩
  grind
 .-- a slice of a known capacity
  rename_i bb oo n t;split at f
  .cases f
  .rename_i hnn;cases C:bound m t t with
   |none=>grind
   |some M =>
    rw[C]at f;simp only[qr]at f;cases j:bound b n M with
    |none=>grind
    |some h =>
     rw[j]at f;simp only[qr]at f;cases hl:bound a 0 h with
     |none=>grind
     |some l =>
      rw[hl]at f;cases f;have O:mx.isSome=B4->A.isSome=true:=by
       intro q;cases mx with
       |none=>cases q
       |some z =>
        have⟨_,X,_⟩:=hm;cases A with
        |some _=>rfl
        |none=>grind [ny]
      have I:(mx=B5/\M=t) \/ ∃d,bound m d t=B1 M/\t<=t/\mx.isSome=true:=by
       cases mx with
       |none=>grind [ny,bound]
       |some z=>grind
      refine⟨_,n,t,l,h,M,hr.symm,λ o=>Se ha hb hm I (qm _) j hl O,λ θ' hg=>?_⟩;have g:=F θ' hg;rw[<-hr]at g;simp only[az,BP,qk,C7]at g⊢
      by_cases e:M=l
      .simp_all
      .have e':JW M l=false:=by simp_all[Bool.eq_false_iff]
       grind [yJ]
 .-- a grown row's slice
  rename_i bb i B s alt n;cases J:(JW s size && Oh i B)<;>rw[J]at f
  .cases f
  .simp only[zf,ke,uh]at J;obtain⟨rfl,him⟩:=J;simp only[xu]at f;split at f
   .-- no third bound
    rename_i hi';have p:mx=none:=by
     cases mx with
     |none=>rfl
     |some z=>have⟨_,q,_⟩:=hm;cases q
    subst p;cases j:bound b n (B-i)with
    |none=>grind
    |some h =>
     rw[j]at f;simp only[qr]at f;cases hl:bound a 0 h with
     |none=>grind
     |some l =>
      rw[hl]at f;simp only[qr]at f;cases u:Oh h (B-i)<;>rw[u]at f
      .cases f
      .cases f;have Z:h<=B-i:=by simp_all
       have L:=JV ha hl (xx _);refine⟨_,n,_,l,h,_,hr.symm,λ o=>Se (low:=0) ha hb hm (.inl ⟨rfl,rfl⟩) (OC _ _) j hl (by simp),λ θ' hg=>?_⟩;have g:=F θ' hg;rw[<-hr]at g;simp only[az,BP,qk,C7,uw,Gn]at g;have⟨⟨q1,S⟩,T⟩:=g;have r:θ'.ext bb = θ.ext bb:=by omega
       have hmul:(i+l)*s=i*s+l*s:=y9 i l s;simp only[az,BP,Gn,r,hmul];refine⟨?_,by omega⟩
       by_cases e:B-i + θ.ext bb=l
       .rw [xg e,xg (by omega)];simp_all
       .rw [qy e,qy (by omega)];simp only[Gl,yJ,qk,C7,uw]
        grind
   .cases f
   .-- a third bound
    rename_i V W;cases C:bound m 0 (B-i)with
    |none=>grind
    |some M =>
     rw[C]at f;simp only[qr]at f;cases j:bound b 0 M with
     |none=>grind
     |some h =>
      rw[j]at f;simp only[qr]at f;cases hl:bound a 0 h with
      |none=>grind
      |some l =>
       rw[hl]at f;simp only[qr]at f;cases u:JW M l<;>rw[u]at f
       .cases f;have N:M≠l:=by intro e;simp_all
        obtain⟨z,X,Q⟩:∃z,mx=B1 z /\ ∃v,m=B1 v:=by
         cases mx with
         |none=>grind [ny]
         |some z=>have⟨v,q,_⟩:=hm;grind
        have⟨mv,hmv⟩:=Q;have E:A.isSome=true:=by
         cases A with
         |some _=>rfl
         |none=>grind [ny]
        have U:=JV hm C (xx _);have Y:=JV hb j (xx _);have L:=JV ha hl (xx _);have K:bound b n M=B1 h:=by
         have⟨y,hy⟩:=Option.isSome_iff_exists.1 E;subst hy;have⟨bv,q,_⟩:=hb
         grind [xiy]
        refine⟨_,n,_,l,h,M,hr.symm,λ o=>Se ha hb hm (.inr ⟨0,C,OC _ _,by rw[X];rfl⟩) (qm _) K hl (λ _=>E),λ θ' hg=>?_⟩;have g:=F θ' hg;rw[<-hr]at g;simp only[az,BP,qk,C7,uw,Gn]at g;have⟨⟨q1,S⟩,T⟩:=g;have r:θ'.ext bb = θ.ext bb:=by omega
        have hmul:(i+l)*s=i*s+l*s:=y9 i l s;simp only[az,BP,uw,hmul,qy N,Gl,yJ,qk,C7]
        grind
       grind
 .-- a slice without room
  rename_i bb;split at f
  .rename_i R;cases j:bound b 0 0 with
   |none=>grind
   |some h =>
    rw[j]at f;simp only[qr]at f;cases hl:bound a 0 h with
    |none=>grind
    |some l =>
     rw[hl]at f;cases f;have p:mx=none:=by
      cases mx with
      |none=>rfl
      |some z=>have⟨_,q,_⟩:=hm;cases q
     subst p;have G:h=0/\l=0:=by
      have S:=JV hb j (qm _);have T:=JV ha hl (xx _);omega
     obtain⟨rfl,rfl⟩:=G;refine⟨_,0,0,0,0,0,hr.symm,λ o=>Se (low:=0) ha hb hm (by grind) (qm _) j hl (by simp),λ θ' hg=>?_⟩;rw[F θ' hg,<-hr];rfl
  grind
 grind
def xd3{o:Pl}{t e:Mj}{x:N2}{lo n mx:Option N2}{size:Nat}(ho:o.op=.slice t x lo n mx)(K:P.underlying t=B1 (.slice e))(hs:bU P e=B1 size) :
 dt P o (x::kO [lo,n,mx]) (Op.aA size (gI 0 [lo,n,mx])):=by
 intro D θ ρ w vs v h f;have⟨i,j,k,s⟩:=_0 lo n mx;rw[s]at f;unfold Op.aA at f;split at f
 .rename_i F E G y g heq;injection heq with e1 e2;injection e2 with e2 r;injection r with r _;subst e1;subst e2;subst r
  have⟨c,cs,p,z,C⟩:=h.eF;simp only[kh,z8]at p;obtain⟨rfl,rfl⟩:=p;have d:=λ(q:Nat)(B:Option N2)(idx:Option Nat)(p:[lo,n,mx][q]? = B1 B)(z:[i,j,k][q]? = B1 idx)=>Td [lo,n,mx] [] g C q B idx p (by grind);cases ha:arg g i with
  |none=>grind
  |some a =>
   rw[ha]at f;simp only[qr]at f;cases hb:arg g j with
   |none=>grind
   |some b =>
    rw[hb]at f;simp only[qr]at f;cases hm:arg g k with
    |none=>grind
    |some m =>
     rw[hm]at f;simp only[qr]at f;have⟨ad,len,cap,l,J,M,I,A,u⟩:=J' (P:=P) (w:=w) z (d 0 lo i rfl rfl a ha) (d 1 n j rfl rfl b hb) (d 2 mx k rfl rfl m hm) f;refine⟨_,.inl ?_,u⟩;simp_all[execOp,Instr.sliceAt,ya,Instr.slice,vH]
 grind
def xbi{o:Pl}{t e:Mj}{x:N2}{lo r mx:Option N2}{n size:Nat}(ho:o.op=.slice t x lo r mx)(O:P.underlying t=B1 (.array n e))(hs:bU P e=B1 size) :
 dt P o (x::kO [lo,r,mx]) (Op.cP n size (gI 0 [lo,r,mx])):=by
 intro D θ ρ w vs v h f;have⟨i,j,k,C⟩:=_0 lo r mx;rw[C]at f;unfold Op.cP at f;split at f
 .rename_i R N S p y g heq;injection heq with e1 e2;injection e2 with e2 B;injection B with B _;subst e1;subst e2;subst B
  have⟨c,cs,z,A,K⟩:=h.eF;simp only[kh,z8]at z;obtain⟨rfl,rfl⟩:=z;have d:=λ(q:Nat)(F:Option N2)(idx:Option Nat)(z:[lo,r,mx][q]? = B1 F)(A:[i,j,k][q]? = B1 idx)=>Td [lo,r,mx] [] g K q F idx z (by grind);cases ha:arg g i with
  |none=>grind
  |some a =>
   rw[ha]at f;simp only[qr]at f;cases hb:arg g j with
   |none=>grind
   |some b =>
    rw[hb]at f;simp only[qr]at f;cases hm:arg g k with
    |none=>grind
    |some m =>
     rw[hm]at f;simp only[qr]at f;have Q:VR D θ (.slice p y n n) (.slice (B1 ⟨θ.cm p,θ.off p+y,B5⟩) n n):=λ θ' hg=>by
      have:=A θ' hg;rw[<-A.now]at this;grind [az]
     have⟨ad,len,cap,l,T,M,L,u,E⟩:=J' (P:=P) (w:=w) Q (d 0 lo i rfl rfl a ha) (d 1 r j rfl rfl b hb) (d 2 mx k rfl rfl m hm) f;injection L with G I J;subst G;subst I;subst J
     refine⟨_,.inl ?_,E⟩;have s:=u B2;simp only[execOp,ho,Instr.sliceAt,Nw,ya O,NO,<-A.now,az,CF,B8,s,vH hs]
     grind
 grind
def _y{mx:Bool}{k:PJ}:∀(l:List AV)(cs:List KP)(a r:Int),bM D θ l cs->Op.iI mx a l=B1 r ->
 (cs.foldlM (λ x y=>if mx then Builtin.max2 x y else Builtin.min2 x y) (KP.int k a)).run P w=.ok (.int k r) w
 |[],cs,a,r,h,hg=>by
  have:=h.mC;simp_all[Op.iI]
 |v::l,cs,a,r,h,hg=>by
  obtain⟨c,cs',rfl,f,hl⟩:=h.eF;cases v with
  |int k' b =>
   simp only[Op.iI]at hg;have g:=_y (mx:=mx) (k:=k) l cs' _ r hl hg;have d:=f.now;simp only[az]at d;subst d;simp only[MD]at g;have s1:(Builtin.min2 (.int k a) (.int k' b)).run P w=.ok (.int k (if b<a then b else a)) w:=rfl;have s2:(Builtin.max2 (.int k a) (.int k' b)).run P w=.ok (.int k (if b > a then b else a)) w:=rfl;cases mx
   .simp only[List.foldlM_cons,zr,oX,Nw,s1,NO]
    grind
   .simp only[List.foldlM_cons,vF,Nw,s2,NO]
    grind
  |_=>grind [Op.iI]
def xgd{o:Pl}{c:Call}{xs:List N2}{mx:Bool}(ho:o.op=.call c)(m:c.callee=.builtin (if mx then .max else .min))(n:c.args.toList=xs):dt P o xs (Op.fg mx):=by
 intro D θ ρ w vs v h d;have⟨consts,he⟩:=LA (ρ:=ρ) ho m;unfold Op.fg at d;split at d
 .rename_i k a l;cases hg:Op.iI mx a l with
  |none=>rw[hg]at d;cases d
  |some r =>
   rw[hg]at d;cases d;have⟨p,cs',g,i,j⟩:=h.eF;have b:=_y (P:=P) (w:=w) (k:=k) l cs' a r j hg;have f:=i.now;simp only[az]at f;subst f;refine⟨.int k r,.inl ?_,.int _ _⟩;rw[he,AL n,g];cases mx
   .simp only[zr,oX]at b⊢;simp[builtin,Builtin.min_,b]
   simp_all[builtin,Builtin.max_]
 grind
def ad1{o:Pl}{c:Call}{f:FuncId}{fn:Func}{e:Array KP->Sem KP}(ho:o.op=.call c)(d:c.callee=.value (.func f))(h:ρ (.func f)=.func (.func f) #[] #[])(g:P.funcs[f]? = B1 fn)(hb:fn.body=B5)
 (hn:fn.name≠ "runtime.NumGoroutine") (a:Extern.findNext fn=B5) (b:Extern.find fn=B1 e) :
 (execOp ρ o).run P w=((e (c.args.map ρ)).run P w).andThen λ v w'=>.ok (.value v) w':=by
 simp[execOp,ho,resolve,d,h,Bb,invoke,callFunc,g,hb,hn,a,b]
def xe7(s:List UInt8):(Extern.Bytes.bytesOf (.string ⟨s.toArray⟩)).run P w=.ok ⟨s.toArray⟩ w:=rfl
def xit(n:Int):(Extern.Bytes.asByte (.int .u8 n)).run P w=.ok (BX n.toNat) w:=rfl
theorem xfm(c:UInt8)(s:List UInt8)(k:Nat):IA c s k=((N5 s.length).find? λ i=>s[i]! == c).map (·+k):=by
 induction s generalizing k with
 |nil=>rfl
 |cons x s ih =>
  simp only[IA,Vt,zz];rw[List.range_succ_eq_map,List.find?_cons];have hm:(List.find? (λ i=>(x::s)[i]! == c) (List.map Nat.succ (N5 s.length)))=((N5 s.length).find? λ i=>s[i]! == c).map Nat.succ:=by
   rw[List.find?_map];rfl
  rw[hm,ih (k+1)];have a:(x::s)[0]! = x:=rfl;rw[a];cases h:(x == c)
  .simp only[zp,Option.map_map];congr 1
   grind
  .simp
def zI(s:List UInt8)(i:Nat):(⟨s.toArray⟩:ByteArray)[i]! = s[i]!:=by
 by_cases h:i<s.length
 .have a:i<(⟨s.toArray⟩:ByteArray).size:=by grind [LC]
  rw[getElem!_pos (⟨s.toArray⟩:ByteArray) i a,getElem!_pos s i h];rfl
 grind [LC]
def xc6{P:Jv}{w:NG}(s:List UInt8)(n:Int):(Extern.BytealgIndexByte.indexByte #[.string ⟨s.toArray⟩,.int .u8 n]).run P w =
 .ok (match(N5 s.length).find? (λ i=>s[i]! == BX n.toNat)with|some i=>goInt i|none=>goInt (-1)) w:=by
 change Sem.run P (Extern.Bytes.bytesOf (.string ⟨s.toArray⟩) >>= _) w=_;rw[Nw,xe7];change Sem.run P (Extern.Bytes.asByte (.int .u8 n) >>= _) w=_;rw[Nw,xit];have a:(λ i=>(⟨s.toArray⟩:ByteArray)[i]! == BX n.toNat)=(λ i=>s[i]! == BX n.toNat):=funext λ i=>by rw[zI]
 simp only[NO,LC,a];cases(N5 s.length).find? (λ i=>s[i]! == BX n.toNat)<;>rfl
def qs4{o:Pl}{c:Call}{f:FuncId}{fn:Func}{xs:List N2}(ho:o.op=.call c)(l:c.callee=.value (.func f))(m:P.funcs[f]? = B1 fn)(hb:fn.body=B5)
 (hn:fn.name≠ "runtime.NumGoroutine") (g:Extern.findNext fn=B5) (j:Extern.find fn=B1 Extern.BytealgIndexByte.indexByte) (p:c.args.toList=xs) :
 ∀(D:Nat->Prop)θ(ρ:N2->KP)w vs v,ρ (.func f)=.func (.func f) #[] #[]->bM D θ vs (xs.map ρ)->Op.aD vs=B1 v -> ∃c,sZ P (execOp ρ o) w c w/\VR D θ v c:=by
 intro D θ ρ w vs v q h b;unfold Op.aD at b;split at b
 .rename_i s n;obtain⟨x,y,rfl,ha,a⟩:=h.rB;cases b;refine⟨_,.inl ?_,.int _ _⟩;rw[ad1 ho l q m hb hn g j,AL p];have d:(λ i=>(⟨s.toArray⟩:ByteArray)[i]! == BX n.toNat)=(λ i=>s[i]! == BX n.toNat):=funext λ i=>by rw[zI]
  simp only[kh,F1,<-ha.now,<-a.now,az,xc6,NO]
  grind [xfm,goInt]
 grind
def xnj{o:Pl}(xs:List N2):dt P o xs Op.fail:=by
 intro D θ ρ w vs v _ a;cases a
end
end Go.Am
namespace Go.Am
def rT(P:Jv)(o:Pl)(xs:List N2)(f:List AV->ar->Option AV):Prop :=
 ∀(base:Nat)(D:Nat->Prop)θ H(ρ:N2->KP)w vs v,HR P base D θ H w->bM D θ vs (xs.map ρ)->f vs H=B1 v -> ∃c,sZ P (execOp ρ o) w c w/\VR D θ v c
section
variable{P:Jv}
def xj5{o:Pl}{t:Mj}{x:N2}(ho:o.op=.load t x)(j:nQ P t=B1 B5):rT P o [x] Op.ae:=by
 intro base D θ H ρ w vs v i h a;unfold Op.ae at a;split at a
 .rename_i b off;have⟨l,he,ha⟩:=h.p7;simp only[z8,uw]at he;subst he;have⟨c,f,g⟩:=i.ae a;refine⟨c,.inl ?_,g⟩;have⟨d,_⟩:=TC (w:=w) j;simp only[execOp,ho,<-ha.now,az,Instr.loadAt,CF,loadVar,Nw,B8,NO,d,N8,zr,oX,f]
 grind
def xj6{o:Pl}{t:Mj}{x:N2}{n:Nat}(ho:o.op=.load t x)(j:nQ P t=B1 (B1 n)):rT P o [x] (Op.aq n):=by
 intro base D θ H ρ w vs v i h a;unfold Op.aq at a;split at a
 .rename_i b off;have⟨m,he,ha⟩:=h.p7;simp only[z8,uw]at he;subst he;cases hl:H.aq b off n with
  |none=>grind
  |some l =>
   rw[hl]at a;cases a;have⟨cs,f,g,_⟩:=i.aq hl;refine⟨.agg cs.toArray,.inl ?_,.agg g⟩;have⟨c,d⟩:=TC (w:=w) j;simp only[execOp,ho,<-ha.now,az,Instr.loadAt,CF,loadVar,Nw,B8,NO,c,d n rfl,vz,vF,f]
 grind
theorem HR.fj{base:Nat}{D:Nat->Prop}{θ:Th}{H:ar}{w:NG}(h:HR P base D θ H w){b:Nat}{m:List (AV×AV×Nat)×Nat}(hb:H.fj b=B1 m) :
 H.get b=B1 (.map m.1 m.2)/\D b /\ ∃ms:List Bh,w.heap[θ.cm b]? = B1 (.map ms.toArray m.2)/\dB D θ m.1 ms:=by
 unfold ar.fj at hb;cases hg:H.get b with
 |none=>grind
 |some o =>
  rw[hg]at hb;have⟨f,co,d,hr⟩:=h.obj b o hg;cases o<;>simp only[reduceCtorEq,qk]at hb;subst hb;have⟨ms,a,c⟩:=hr
  grind
def KM{w:NG}{r:Nat}{ms:Array Bh}{c:Nat}(h:w.heap[r]? = B1 (.map ms c)):(getObj r).run P w=.ok (.map ms c) w:=by
 simp[getObj,Sem.run,h]
def dB.length{D:Nat->Prop}{θ:Th}:∀(es:List (AV×AV×Nat))(ms:List Bh),dB D θ es ms->es.length=ms.length
 |[],[],_=>rfl
 |_::es,_::ms,⟨_,h⟩=>by simp[dB.length es ms h]
 |[],_::_,h=>h.elim
 |_::_,[],h=>h.elim
def VR.isAgg{D:Nat->Prop}{θ:Th}{l:List AV}{c:KP}(h:VR D θ (.agg l) c):∃cs:List KP,c=.agg cs.toArray/\bM D θ l cs:=h.fA
def xfk{t:Mj}{fs:Array Field}(h:P.underlying t=B1 (.struct fs)):P.fieldsOf t=fs:=by
 simp[Jv.fieldsOf,h]
def xi6{x y:AV}{r:Bool}(h:aY .int x y=B1 r):∃k a b,x=.int k a/\y=.int k b/\r=(a == b):=by
 cases x<;>cases y<;>simp only[aY,reduceCtorEq]at h;rename_i k a k' b;cases hk:sO k k' with
 |false=>grind
 |true =>
  rw[hk]at h;simp only[xu,qk]at h;have:k=k':=by simpa[UP]using hk
  subst this
  grind [BV]
def xi7{x y:AV}{r:Bool}(h:aY .str x y=B1 r):∃a b,x=.str a/\y=.str b/\r=(a == b):=by
 cases x<;>cases y<;>simp only[aY,reduceCtorEq,qk]at h
 grind [MP]
def xfi{x y:AV}{r:Bool}(h:aY .bool x y=B1 r):∃a b,x=.bool a/\y=.bool b/\r=(a == b):=by
 cases x<;>cases y<;>simp only[aY,reduceCtorEq,qk]at h
 grind
theorem UM{off:Nat}{n:Option Nat}{t rest:aR}{x y:AV}{r:Bool}(h:aY (.part off n t rest) x y=B1 r) :
 ∃l c a b q,x=.agg l/\y=.agg c/\partAt l off n=B1 a/\partAt c off n=B1 b/\aY t a b=B1 q/\(q=B4->aY rest (.agg l) (.agg c)=B1 r)/\(q=B2->r=B2):=by
 cases x<;>cases y<;>simp only[aY,reduceCtorEq]at h
 grind [qj]
theorem TH{x y:AV}{r:Bool}(h:aY .nil x y=B1 r):r=B4/\(∃l,x=.agg l)/\(∃l,y=.agg l):=by
 cases x<;>cases y<;>simp only[aY,reduceCtorEq,qk]at h
 grind
def q8z(s:Nat)(a:Option Nat)(q:aR)(n i:Nat){x y:AV}{r:Bool}(h:aY (dF.itemsT s a q n i) x y=B1 r):(∃l,x=.agg l)/\(∃l,y=.agg l):=by
 cases n with
 |zero=>exact(TH h).2
 |succ n=>have⟨l,d,_,_,_,b,c,_⟩:=UM h;grind
def pf{go:Mj->Option aR}{fs:List Field}{q:aR}(a:dF.fieldsT P go fs=B1 q){x y:AV}{r:Bool}(h:aY q x y=B1 r):(∃l,x=.agg l)/\(∃l,y=.agg l):=by
 cases fs with
 |nil=>cases a;grind [TH]
 |cons f fs =>
  simp only[dF.fieldsT]at a;split at a
  .cases a
  .simp only[qj]at a
   grind [UM]
def DU(P:Jv)(w:NG)(D:Nat->Prop)(θ:Th)(m:Nat)(t:Mj)(q:aR):Prop :=
 ∀(x y:AV)(cx cy:KP)(r:Bool),VR D θ x cx->VR D θ y cy->aY q x y=B1 r->(BK m t cx cy).run P w=.ok r w
def mo{w:NG}{D:Nat->Prop}{θ:Th}{m:Nat}{go:Mj->Option aR}(o:∀t q,go t=B1 q->DU P w D θ m t q){l p:List AV}{cs cs':List KP}(hl:bM D θ l cs)(d:bM D θ p cs') :
 ∀(fs:List Field)(q:aR)(r:Bool),dF.fieldsT P go fs=B1 q->aY q (.agg l) (.agg p)=B1 r->(Op.eqFields m cs.toArray cs'.toArray fs).run P w=.ok r w
 |[],q,r,b,h=>by
  cases b;rw[(TH h).1];simp[Op.eqFields]
 |f::fs,q,r,b,h=>by
  simp only[dF.fieldsT]at b;split at b
  .cases b
  .rename_i hn;simp only[qj]at b;have⟨a,ha,F,j,G,n,b⟩:=b;cases b;have⟨l1,l2,x,y,e,g,i,u,v,z,A,I⟩:=UM h;injection g with g;injection i with i;subst g;subst i
   have⟨c,B,v1⟩:=KA (w:=w) ha hl u;have⟨s,C,v2⟩:=KA (w:=w) ha d v;have E:=o f.type F j x y c s e v1 v2 z;simp only[Op.eqFields,hn,ne_eq,not_false_eq_true,vF,Nw,B,C,E,NO];cases e
   .simp_all
   .simpa using mo o hl d fs G r n (A rfl)
def D_{w:NG}{D:Nat->Prop}{θ:Th}{m:Nat}{e:Mj}{s:Nat}{a:Option Nat}{q:aR}(ha:nQ P e=B1 a)(j:DU P w D θ m e q){l o:List AV}{cs cs':List KP}(hl:bM D θ l cs)(d:bM D θ o cs') :
 ∀(n i:Nat)(r:Bool),aY (dF.itemsT s a q n i) (.agg l) (.agg o)=B1 r->(Op.eqItems m e s cs.toArray cs'.toArray (List.range' i n)).run P w=.ok r w
 |0,i,r,h=>by rw[(TH h).1];simp[Op.eqItems]
 |n+1,i,r,h=>by
  have⟨l1,l2,x,y,b,f,g,t,u,v,z,E⟩:=UM h;injection f with f;injection g with g;subst f;subst g
  have⟨c,A,v1⟩:=KA (w:=w) ha hl t;have⟨p,B,v2⟩:=KA (w:=w) ha d u;have C:=j x y c p b v1 v2 v;simp only[List.range'_succ,Op.eqItems,Nw,A,B,C,NO];cases b
  .simp_all
  .simpa using D_ ha j hl d n (i+1) r (z rfl)
def S3(m:Nat){D:Nat->Prop}{θ:Th}(w:NG):∀(d:Nat)(t:Mj)(q:aR),dF P d t=B1 q->DU P w D θ (d+m) t q
 |0,_,_,h=>by cases h
 |d+1,t,q,h=>by
  intro x y G I r g j hr;unfold dF at h;have v:d+1+m=(d+m)+1:=by omega
  rw[v];cases hu:P.underlying t with
  |none=>grind
  |some kd =>
   rw[hu]at h;cases kd
   case int k0 =>
    cases h;obtain⟨k,a,b,rfl,rfl,rfl⟩:=xi6 hr;rw[<-g.now,<-j.now,az,az,run_equalIn_int w _ t k k0 a b hu]
   case string =>
    cases h;obtain⟨a,b,rfl,rfl,rfl⟩:=xi7 hr;rw[<-g.now,<-j.now,az,az,run_equalIn_string w _ t _ _ hu,z0,z0]
   case bool =>
    cases h;obtain⟨a,b,rfl,rfl,rfl⟩:=xfi hr;rw[<-g.now,<-j.now,az,az,run_equalIn_bool' w _ t _ _ hu]
   case struct fs =>
    simp only at h;split at h
    .cases h
    .rename_i p;have f:P.stoodInHeld t=false:=by simpa using p
     obtain⟨⟨l,rfl⟩,⟨E,rfl⟩⟩:=pf h hr;obtain⟨cs,rfl,hl⟩:=g.fA;obtain⟨cs',rfl,c⟩:=j.fA;have u:=xfk hu;rw[run_equalIn_struct w _ t _ _ (by rw[u];exact hu) f,u];exact mo (λ t q C=>S3 m w d t q C) hl c _ _ _ h hr
   case array n e =>
    simp only[qj]at h;have⟨s,hs,a,ha,F,o,h⟩:=h;cases h;obtain⟨⟨l,rfl⟩,⟨E,rfl⟩⟩:=q8z _ _ _ _ _ hr;obtain⟨cs,rfl,hl⟩:=g.fA;obtain⟨cs',rfl,c⟩:=j.fA;have⟨i,A,B⟩:=He hs;rw[run_equalIn_array _ _ _ _ hu A,List.range_eq_range'];have z:P.cellsOf e=s:=by grind [Jv.cellsOf]
    rw[z];exact D_ ha (S3 m w d e F o) hl c n 0 r hr
   all_goals grind
theorem SB{off:Nat}{n:Option Nat}{t rest:aR}{x:AV}(h:db (.part off n t rest) x=B4) :
 ∃l a,x=.agg l/\partAt l off n=B1 a/\db t a=B4/\db rest (.agg l)=true:=by
 cases x<;>simp only[db,zr]at h
 grind
def q85{x:AV}(h:db .nil x=B4):∃l,x=.agg l:=by
 cases x<;>simp only[db,zr]at h
 grind
def xga(s:Nat)(a:Option Nat)(q:aR)(n i:Nat){x:AV}(h:db (dF.itemsT s a q n i) x=B4):∃l,x=.agg l:=by
 cases n with
 |zero=>exact q85 h
 |succ n=>have⟨l,_,b,_⟩:=SB h;grind
def xdt{go:Mj->Option aR}{fs:List Field}{q:aR}(a:dF.fieldsT P go fs=B1 q){x:AV}(h:db q x=B4):∃l,x=.agg l:=by
 cases fs with
 |nil=>cases a;exact q85 h
 |cons f fs =>
  simp only[dF.fieldsT]at a;split at a
  .cases a
  .simp only[qj]at a
   grind [SB]
def Jo(P:Jv)(w:NG)(D:Nat->Prop)(θ:Th)(em:Bool)(m:Nat)(t:Mj)(q:aR):Prop :=
 ∀(x:AV)(cx:KP),VR D θ x cx->db q x=B4->(Bf em m t cx).run P w=.ok () w
def _j{w:NG}{D:Nat->Prop}{θ:Th}{em:Bool}{m:Nat}{e:Mj}{s:Nat}{a:Option Nat}{q:aR}(ha:nQ P e=B1 a)(hs:bU P e=B1 s)(b:Jo P w D θ em m e q){l:List AV}{cs:List KP}(hl:bM D θ l cs) :
 ∀(n i:Nat),db (dF.itemsT s a q n i) (.agg l)=B4 ->
  (forIn (List.range' i n) PUnit.unit (λ i _=>(do Bf em m e (<-part e cs.toArray (i*(<-sizeOf e)));pure (ForInStep.yield PUnit.unit):Sem (ForInStep PUnit)))).run P w=.ok PUnit.unit w
 |0,i,h=>by simp
 |n+1,i,h=>by
  have⟨l1,x,d,f,g,j⟩:=SB h;cases d;have⟨c,o,v1⟩:=KA (w:=w) ha hl f;have p:=b x c v1 g;simp only[List.range'_succ,List.forIn_cons,Nw,vH hs,o,p,NO,B8]
  simpa using _j ha hs b hl n (i+1) j
def Wg(em:Bool)(m:Nat){D:Nat->Prop}{θ:Th}(w:NG):∀(d:Nat)(t:Mj)(q:aR),dF P d t=B1 q->Jo P w D θ em (d+m) t q
 |0,_,_,h=>by cases h
 |d+1,t,q,h=>by
  intro x B j hr;unfold dF at h;have o:d+1+m=(d+m)+1:=by omega
  rw[o];cases hu:P.underlying t with
  |none=>grind
  |some kd =>
   rw[hu]at h;cases kd
   case int k0=>simp[Bf,ya hu]
   case string=>simp[Bf,ya hu]
   case bool=>simp[Bf,ya hu]
   case struct fs =>
    simp only at h;split at h
    .cases h
    .obtain ⟨l,rfl⟩:=xdt h hr;obtain⟨cs,rfl,hl⟩:=j.fA;simp only[Bf,Nw,ya hu,NO];rw[<-Array.forIn_toList];clear hu;generalize fs.toList=L at h
     induction L generalizing q with
     |nil=>simp
     |cons f L ihL =>
      simp only[dF.fieldsT]at h;split at h
      .cases h
      .rename_i hn;simp only[qj]at h;have⟨a,ha,i,b,A,g,h⟩:=h;cases h;have⟨l1,x,p,r,u,v⟩:=SB hr;cases p;have⟨c,y,v1⟩:=KA (w:=w) ha hl r;have z:=Wg em m w d f.type i b x c v1 u;simp only[List.forIn_cons,Nw,hn,ne_eq,not_false_eq_true,vF,NO,y,z,B8];exact ihL A v g
   case array n e =>
    simp only[qj]at h;have⟨s,hs,a,ha,i,b,h⟩:=h;cases h;obtain⟨l,rfl⟩:=xga _ _ _ _ _ hr;obtain⟨cs,rfl,hl⟩:=j.fA;have:=_j (w:=w) (em:=em) ha hs (Wg em m w d e i b) hl n 0 hr;simp_all[Bf,ya]
   all_goals grind
def XG{em:Bool}{D:Nat->Prop}{θ:Th}{w:NG}{t:Mj}{q:aR}(h:p9 P t=B1 q){x:AV}{a:KP}(b:VR D θ x a)(hr:db q x=B4) :
 (Bf em 10000 t a).run P w=.ok () w:=Wg em 9980 w 20 t q h x a b hr
def DF{D:Nat->Prop}{θ:Th}{w:NG}{t:Mj}{q:aR}(h:p9 P t=B1 q){x y:AV}{a b:KP}{r:Bool}(c:VR D θ x a)(d:VR D θ y b)(hr:aY q x y=B1 r) :
 (D8 t a b).run P w=.ok r w:=S3 9980 w 20 t q h x y a b r c d hr
def Jg(D:Nat->Prop)(θ:Th):Option (Nat×AV)->Option (Nat×KP)->Prop
 |none,B5=>True
 |some (i,v),B1 (j,c)=>i=j/\VR D θ v c
 |_,_=>False
def _Q{D:Nat->Prop}{θ:Th}{w:NG}{t:Mj}{q:aR}(h:p9 P t=B1 q){k:AV}{d:KP}(hk:VR D θ k d) :
 ∀(es:List (AV×AV×Nat))(ms:List Bh)(i:Nat)(r:Option (Nat×AV)),dB D θ es ms->findKey q k es i=B1 r ->
  ∃a,(BM t d ms i).run P w=.ok a w/\Jg D θ r a
 |[],[],i,r,_,hr=>by
  simp only[findKey,qk]at hr;subst hr;exact⟨B5,by simp[BM],trivial⟩
 |(k',v,b)::es,e::ms,i,r,⟨⟨h1,h2,_⟩,hes⟩,hr=>by
  simp only[findKey,qj]at hr;have⟨c,j,hr⟩:=hr;have:=DF (w:=w) h hk h1 j;cases c
  .have ⟨a,f,g⟩:=_Q (w:=w) h hk es ms (i+1) r hes hr;exact⟨a,by simp[BM,this,f],g⟩
  .simp only[xu,qk]at hr;subst hr;exact⟨B1 (i,e.val),by simp[BM,this],rfl,h2⟩
 |[],_::_,_,_,h,_=>h.elim
 |_::_,[],_,_,h,_=>h.elim
def xgk{t:Mj}{d:TypeDesc}(hu:P.underlying t=B1 d){x y:KP}{b:Bool}(h:Instr.sameNow d x y=B1 b)(w:NG):(D8 t x y).run P w=.ok b w:=by
 unfold Instr.sameNow at h;split at h
 .rename_i k a k' c;split at h
  .rename_i hk;subst hk;cases h;exact run_equalIn_int w _ t _ _ _ _ hu
  grind
 .cases h;show(BK (9999+1) t _ _).run P w=_
  grind [run_equalIn_string,beq_toListBytes]
 .cases h;exact run_equalIn_bool' w _ t _ _ hu
 grind
def oS{t:Mj}{d:TypeDesc}(hu:P.underlying t=B1 d){c:KP}(w:NG):∀(ms:List Bh)(i:Nat)(r a:Option (Nat×KP)),
 Ce d c ms i=B1 r->(BM t c ms i).run P w=.ok a w->r=a
 |[],i,r,a,h,h'=>by
  simp_all[Ce,BM]
 |e::ms,i,r,a,h,h'=>by
  simp only[Ce]at h;cases hs:Instr.sameNow d c e.key with
  |none=>grind
  |some b =>
   rw[hs]at h;have:=xgk hu hs w;cases b
   .simp [BM,this]at h';exact oS hu w ms (i+1) r a h h'
   simp_all[BM]
def h_{D:Nat->Prop}{θ:Th}{w:NG}{t:Mj}{q:aR}(h:p9 P t=B1 q){k:AV}{b:KP}(hk:VR D θ k b){es:List (AV×AV×Nat)}{ms:List Bh}{r:Option (Nat×AV)}
 (c:dB D θ es ms) (hr:findKey q k es 0=B1 r):∃a,(D7 t b ms).run P w=.ok a w/\Jg D θ r a:=by
 have⟨a,f,g⟩:=_Q (w:=w) h hk es ms 0 r c hr;have hu:∃d,P.underlying t=B1 d:=by
  grind [p9,dF]
 have⟨d,hu⟩:=hu;refine⟨a,?_,g⟩;simp only[D7,Nw,ya hu,NO];cases hn:Ce d b ms 0 with
 |none=>simpa using f
 |some r2=>simp[oS hu w ms 0 r2 a hn f]
def xgg{o:Pl}{t u e:Mj}{E kk:N2}{ok:Bool}{q:aR}{z:AV}(ho:o.op=.lookup t E kk ok)(hu:P.underlying t=B1 (.map u e))(B:p9 P u=B1 q)(J:zeroOf P e=B1 z) :
 rT P o [E,kk] (Op.lookup q z ok):=by
 intro base D θ H ρ w vs v I h a;have⟨A,f,g⟩:=KZ (w:=w) J;unfold Op.lookup at a;split at a
 .rename_i k;have⟨x,y,he,ha,hb⟩:=h.rB;simp only[z8,uw]at he;obtain⟨rfl,rfl⟩:=he;cases c:db q k with
  |false=>grind
  |true =>
   rw[c]at a;simp only[xu,qk]at a;have j:=λ em=>XG (em:=em) (w:=w) B hb c;have C:(D7 u (ρ kk) []).run P w=.ok B5 w:=by
    have hu:∃d,P.underlying u=B1 d:=by
     grind [p9,dF]
    have⟨d,hu⟩:=hu;simp[D7,ya hu,Ce]
   subst a;cases ok
   .refine ⟨A,.inl ?_,g _ _⟩;simp[execOp,ho,Cc,ya hu,<-ha.now,az,j,C,f]
   .refine ⟨.tuple [A,.bool B2].toArray,.inl ?_,.tuple (.cons (g _ _) (.one (.bool _)))⟩;simp[execOp,ho,Cc,ya hu,<-ha.now,az,j,C,f]
 .rename_i b k;have⟨x,y,he,ha,hb⟩:=h.rB;simp only[z8,uw]at he;obtain⟨rfl,rfl⟩:=he;cases c:db q k with
  |false=>grind
  |true =>
   rw[c]at a;simp only[xu,qj]at a;have⟨m,hm,r,hr,a⟩:=a;have⟨_,_,ms,s,G⟩:=I.fj hm;have j:=λ em=>XG (em:=em) (w:=w) B hb c;have⟨F,n,l⟩:=h_ (w:=w) B hb G hr;cases r with
   |none =>
    cases F with
    |some _=>exact l.elim
    |none =>
     simp only[qk]at a;subst a;cases ok
     .refine ⟨A,.inl ?_,g _ _⟩;simp[execOp,ho,Cc,ya hu,<-ha.now,az,j,n,f,KM s]
     .refine ⟨.tuple [A,.bool B2].toArray,.inl ?_,.tuple (.cons (g _ _) (.one (.bool _)))⟩;simp[execOp,ho,Cc,ya hu,<-ha.now,az,j,n,f,KM s]
   |some p =>
    have⟨i,pv⟩:=p;cases F with
    |none=>exact l.elim
    |some p' =>
     have⟨K,pc⟩:=p';have⟨_,l⟩:=l;simp only[qk]at a;subst a;cases ok
     .refine ⟨pc,.inl ?_,l⟩;simp[execOp,ho,Cc,ya hu,<-ha.now,az,j,n,KM s]
     .refine ⟨.tuple [pc,.bool B4].toArray,.inl ?_,.tuple (.cons l (.one (.bool _)))⟩;simp[execOp,ho,Cc,ya hu,<-ha.now,az,j,n,KM s]
 grind
end
end Go.Am
namespace Go.Am
section
variable{P:Jv}{base:Nat}{D:Nat->Prop}{θ:Th}{H:ar}{w:NG}
def isStr:AV->Bool
 | .str _=>B4
 |_=>B2
def UZ(g:HR P base D θ H w){x:AV}{c:KP}{size n k:Nat}{l:List AV}(d:VR D θ x c)(hk:eJ x=B1 k)(hn:n<=k)(hs:isStr x=B2)
 (h:firstCells H size n x=B1 l):∃a len cap,c=.slice a len cap/\len=k/\((a=B5/\l=[]/\n=0/\k=0) \/
  ∃ad cs,a=B1 ad/\(loadCells ad (n*size)).run P w=.ok cs.toArray w/\bM D θ l cs/\l.length=n*size):=by
 have t:∀a,(loadCells a 0).run P w=.ok ([]:List KP).toArray w:=λ a=>rfl;cases x<;>simp only[eJ,reduceCtorEq,qk]at hk
 case str s=>cases hs
 case nils =>
  subst hk;simp only[firstCells,qk]at h;subst h;exact⟨B5,0,0,d.now.symm,rfl,(by grind)⟩
 case slice b o n' cp =>
  subst hk;simp only[firstCells]at h;refine⟨_,_,_,d.now.symm,rfl,.inr ?_⟩;cases hb:JW n 0 with
  |true =>
   have:n=0:=by simpa using hb
   subst this;rw[hb]at h;cases h;exact⟨_,[],rfl,by grind,.nil,by simp⟩
  |false =>
   rw[hb]at h;have⟨cs,j,p,q⟩:=g.aq h
   grind
 case eslice b =>
  subst hk;have:n=0:=by omega
  subst this;simp only[firstCells,JW,xu,qk]at h;subst h;exact⟨_,_,_,d.now.symm,rfl,.inr ⟨_,[],rfl,by grind,.nil,by simp⟩⟩
 case gslice b i m s alt n' =>
  subst hk;simp only[firstCells]at h;refine⟨_,_,_,d.now.symm,rfl,.inr ?_⟩;cases hb:JW n 0 with
  |true =>
   have:n=0:=by simpa using hb
   subst this;rw[hb]at h;cases h;exact⟨_,[],rfl,by grind,.nil,by simp⟩
  |false =>
   rw[hb]at h;simp only[zp]at h;cases f:(JW s size && Pk i m)with
   |false=>grind
   |true =>
    rw[f]at h;simp only[zf,ke,zU]at f;obtain⟨rfl,r⟩:=f;have⟨cs,j,p,q⟩:=g.aq h
    grind
end
end Go.Am
namespace Go.Am
section
variable{P:Jv}{base:Nat}{D:Nat->Prop}{θ:Th}{H:ar}{w:NG}
def YG{w:NG}{r:Nat}{c:Array KP}{e:Mj}{fz:Nat×Nat}(h:w.heap[r]? = B1 (.cells c e fz)):w.shape? r=B1 (e,c.size):=by
 simp[NG.shape?,h]
def q1m{w:NG}{r:Nat}{c:Array KP}{e:Mj}{fz:Nat×Nat}(h:w.heap[r]? = B1 (.cells c e fz)):(viewAt r).run P w=.ok B5 w:=by
 simp[viewAt,YG h]
def w_{w:NG}{a:Addr}{c:Array KP}{e:Mj}{fz:Nat×Nat}(h:w.heap[a.block]? = B1 (.cells c e fz)):(noView a).run P w=.ok () w:=by
 simp[noView,q1m h]
def TR{a b:AV->Bool}{x y:AV}{q:Bool}(h:tt a b x y=B1 q) :
 (a x=B4/\a y=B4/\q=B4)\/(a x=B4/\b y=B4/\q=B2)\/(b x=B4/\a y=B4/\q=B2):=by
 grind [tt]
def j3.not{a:Nat×Nat}(h:j3 (0,0) a)(i:Nat):¬(a.1<=i/\i<a.2):=by
 rcases h with h|⟨_,h⟩<;>simp at *<;>omega
def xni(p:HR P base D θ H w){b d o o':Nat}(J:b≠d)(h:zF H b d=B4) :
 (sameAddr ⟨θ.cm b,θ.off b+o,B5⟩ ⟨θ.cm d,θ.off d+o',B5⟩).run P w=.ok B2 w:=by
 have key:∀(f g o1 o2:Nat)(z A:Array KP)(e1 e2:Mj)(m n:Nat×Nat),f≠g->w.heap[f]? = B1 (.cells z e1 m)->w.heap[g]? = B1 (.cells A e2 n) ->
  ((∀i,¬(m.1<=i/\i<m.2))/\A.size≠0\/(∀i,¬(n.1<=i/\i<n.2))/\z.size≠0)->(sameAddr ⟨f,o1,B5⟩ ⟨g,o2,B5⟩).run P w=.ok B2 w:=by
  intro f g o1 o2 z A e1 e2 m n hk G r u;have s1:=YG G;have s2:=YG r;have n1:(noView ⟨f,o1,B5⟩).run P w=_:=w_ G;have n2:(noView ⟨g,o2,B5⟩).run P w=_:=w_ r;have O:∀i,w.frozen? ⟨f,i,B5⟩=(decide (m.1<=i) && decide (i<m.2)):=λ i=>by simp[NG.frozen?,G]
  have Q:∀i,w.frozen? ⟨g,i,B5⟩=(decide (n.1<=i) && decide (i<n.2)):=λ i=>by simp[NG.frozen?,r]
  have v:(f == g)=false:=by simpa using hk
  rcases u with⟨S,T⟩|⟨S,T⟩
  .have E:∀i,w.frozen? ⟨f,i,B5⟩=false:=λ i=>by simp_all
   simp only[sameAddr,Nw,run_frozen,E,n1,n2,v,mayBeOne,stringish,run_shape,s1,s2,Sem.run_ite,Bool.false_and,zr,oX,B8,NO];simp_all
  .have F:∀i,w.frozen? ⟨g,i,B5⟩=false:=λ i=>by simp_all
   simp only[sameAddr,Nw,run_frozen,F,n1,n2,v,mayBeOne,stringish,run_shape,s1,Sem.run_ite,Bool.and_false,zr,oX,B8,NO];simp_all
 unfold zF at h;split at h
 .rename_i c e x M e' R U hb a;obtain⟨_,co,u,pre,cs,post,B,N,rfl,r,K,L⟩:=p.obj b _ hb;obtain⟨_,co',j,y,cs',l,q,C,rfl,I,s,t⟩:=p.obj d _ a;refine key _ _ _ _ _ _ _ _ _ _ (p.inj b d _ _ hb a rfl J) u j (.inl ⟨(L rfl).2.2.2.not,?_⟩);have:=s.length
  grind
 .rename_i c e fz ow M e' hb a;obtain⟨_,co,u,pre,cs,post,B,N,rfl,r,K,L⟩:=p.obj b _ hb;obtain⟨_,co',j,y,cs',l,q,C,rfl,I,s,t⟩:=p.obj d _ a;refine key _ _ _ _ _ _ _ _ _ _ (λ e=>p.inj d b _ _ a hb rfl (by omega) e.symm) u j (.inr ⟨(t rfl).2.2.2.not,?_⟩);have:=K.length
  grind
 grind
def xC(P:Jv)(t:Mj)(x y:N2):xI->Prop
 | .bool=>P.underlying t=B1 .bool
 | .ptr=>∃e n,P.underlying t=B1 (.pointer e)/\bU P e=B1 (n+1)
 | .slice=>∃e,P.underlying t=B1 (.slice e)
 | .map=>∃k e,P.underlying t=B1 (.map k e)
 | .func=>∃a b c,P.underlying t=B1 (.func a b c)
 | .iface=>∃ms,P.underlying t=B1 (.interface ms)/\((∃v,x=.const v) \/ ∃v,y=.const v)
 | .ifaces f=>(∃ms,P.underlying t=B1 (.interface ms)) /\ ∀u q,f u=B1 q->dF P 20 u=B1 q /\ ∃i,P.info? u=B1 i/\i.comparable=B4
 | .agg q=>P.eqGuardType P.depth t=B2/\p9 P t=B1 q/\((∃fs,P.underlying t=B1 (.struct fs)) \/ ∃n e,P.underlying t=B1 (.array n e))
set_option maxHeartbeats 2000000 in
def Mr(hh:HR P base D θ H w){t:Mj}{x y:N2}{ρ:N2->KP}{k:xI}(hk:xC P t x y k){a b:AV}(ha:VR D θ a (ρ x))(hb:VR D θ b (ρ y)){q:Bool}
 (h:Kn H k a b=B1 q) (op:BinOp) (g:op=.eql\/op=.neq) :
 ((do eqGuard op t x y (ρ x) (ρ y);binOp op t (ρ x) (ρ y)):Sem KP).run P w=.ok (.bool (if op=.neq then !q else q)) w:=by
 have fin:(eqGuard op t x y (ρ x) (ρ y)).run P w=.ok () w->(D8 t (ρ x) (ρ y)).run P w=.ok q w->(binOp .eql t (ρ x) (ρ y)).run P w=((do pure (.bool (<-D8 t (ρ x) (ρ y)))):Sem KP).run P w ->
  (binOp .neq t (ρ x) (ρ y)).run P w=((do pure (.bool (!(<-D8 t (ρ x) (ρ y))))):Sem KP).run P w ->
  ((do eqGuard op t x y (ρ x) (ρ y);binOp op t (ρ x) (ρ y)):Sem KP).run P w=.ok (.bool (if op=.neq then !q else q)) w:=by
  intro G F Z h4;rw[Nw,G,NO];rcases g with rfl|rfl
  .rw [Z];simp[F]
  .rw [h4];simp[F]
 obtain⟨dd,e1,V⟩:∃d,(∀p q,D8 t p q=BK (d+1) t p q) /\ ∃m,d=20+m:=⟨9999,λ _ _=>rfl,9979,rfl⟩
 cases k
 case bool =>
  cases a<;>cases b<;>simp only[Kn,reduceCtorEq,qk]at h;subst h;have hu:P.underlying t=B1 .bool:=hk;rw[<-ha.now,<-hb.now];rw[<-ha.now,<-hb.now]at fin;refine fin ?_ (run_equalIn_bool' w _ t _ _ hu) (by simp only[az,binOp]) (by simp only[az,binOp]);rcases g with rfl|rfl<;>simp[eqGuard,az]
 case ptr =>
  have⟨e,n,hu,hs⟩:=hk;have K:=vH (w:=w) hs;have A:(D8 t (ρ x) (ρ y)).run P w=.ok q w:=by
   cases a<;>cases b<;>simp only[Kn,reduceCtorEq,qk]at h
   .subst h;rw[<-ha.now,<-hb.now,e1];simp[az,BK,ya hu]
   .subst h;rw[<-ha.now,<-hb.now,e1];simp[az,BK,ya hu]
   .subst h;rw[<-ha.now,<-hb.now,e1];simp[az,BK,ya hu]
   .rename_i C o1 E o2;rw[<-ha.now,<-hb.now,e1];simp only[az,BK,Nw,ya hu,NO,K,ne_eq,Nat.succ_ne_zero,not_false_eq_true,vF];cases r:JW C E with
    |true =>
     rw[r]at h;have:C=E:=by simpa using r
     subst this;simp only[xu,qk]at h;subst h;simp only[sameAddr,beq_self_eq_true,vF,B8];congr 1
     by_cases ho:o1=o2
     .subst ho;simp
     .have:JW o1 o2=false:=by simpa[<-Bool.not_eq_true,ke]using ho
      rw[this];simp[ho]
    |false =>
     rw[r]at h;simp only[zp]at h;cases hp:zF H C E with
     |false=>rw[hp]at h;cases h
     |true =>
      rw[hp]at h;simp only[xu,qk]at h;subst h;have u:C≠E:=λ e=>by subst e;simp at r
      exact xni hh u hp
  cases a<;>cases b<;>simp only[Kn,reduceCtorEq,qk]at h <;>
   (rw[<-ha.now,<-hb.now]at A⊢;rw[<-ha.now,<-hb.now]at fin
    exact fin (by rcases g with rfl|rfl<;>simp[eqGuard,az]) A (by simp only[az,binOp]) (by simp only[az,binOp]))
 case slice =>
  have⟨e,hu⟩:=hk;have o:=TR h;cases a<;>cases b<;>simp[EU,isSlice]at o <;>
   (subst o;rw[<-ha.now,<-hb.now];rw[<-ha.now,<-hb.now]at fin
    exact fin (by rcases g with rfl|rfl<;>simp[eqGuard,az]) (by rw[e1];simp[az,BK,ya hu]) (by simp only[az,binOp]) (by simp only[az,binOp]))
 case map =>
  have⟨k,e,hu⟩:=hk;have o:=TR h;cases a<;>cases b<;>simp[Fx,isMap]at o <;>
   (subst o;rw[<-ha.now,<-hb.now];rw[<-ha.now,<-hb.now]at fin
    exact fin (by rcases g with rfl|rfl<;>simp[eqGuard,az]) (by rw[e1];simp[az,BK,ya hu]) (by simp only[az,binOp]) (by simp only[az,binOp]))
 case func =>
  have⟨p1,p2,p3,hu⟩:=hk;have o:=TR h;cases a<;>cases b<;>simp[CW,Sj]at o <;>
   (subst o;rw[<-ha.now,<-hb.now];rw[<-ha.now,<-hb.now]at fin
    exact fin (by rcases g with rfl|rfl<;>simp[eqGuard,az]) (by rw[e1];simp[az,BK,ya hu]) (by simp only[az,binOp]) (by simp only[az,binOp]))
 case iface =>
  have⟨ms,hu,O⟩:=hk;have o:=TR h;cases a<;>cases b<;>simp[EG,isIface]at o <;>
   (subst o;rw[<-ha.now,<-hb.now];rw[<-ha.now,<-hb.now]at fin
    exact fin (by rcases g with rfl|rfl<;>rcases O with⟨v,rfl⟩|⟨v,rfl⟩<;>simp[eqGuard,az]) (by rw[e1];simp[az,BK,ya hu]) (by simp only[az,binOp]) (by simp only[az,binOp]))
 case ifaces f =>
  have⟨⟨ms,hu⟩,hf⟩:=hk;cases a<;>cases b<;>simp only[Kn,reduceCtorEq,qk]at h
  .rename_i Q v1 S v2;have⟨T,I,M⟩:=ha.mA;have⟨U,J,N⟩:=hb.mA;rw[I,J]at fin⊢;refine fin (by rcases g with rfl|rfl<;>simp[eqGuard]) ?_ (by simp only[binOp]) (by simp only[binOp]);rw[e1];cases j:JW Q S with
   |true =>
    rw[j]at h;simp only[ke]at j;subst j;simp only[xu,qj]at h;have⟨R,L,h⟩:=h;have⟨W,i,X,Y⟩:=hf _ _ L;obtain⟨m,rfl⟩:=V;have B:=S3 m (D:=D) (θ:=θ) w 20 Q R W v1 v2 T U q M N h;simp[BK,ya hu,typeInfo,X,Y,B]
   |false =>
    rw[j]at h;have u:Q≠S:=λ e=>by subst e;simp at j
    simp only[zp,qk]at h;subst h;simp[BK,ya hu,u]
  .subst h;rw[<-ha.now,<-hb.now];rw[<-ha.now,<-hb.now]at fin;exact fin (by rcases g with rfl|rfl<;>simp[eqGuard,az]) (by rw[e1];simp[az,BK,ya hu]) (by simp only[az,binOp]) (by simp only[az,binOp])
  .subst h;rw[<-ha.now,<-hb.now];rw[<-ha.now,<-hb.now]at fin;exact fin (by rcases g with rfl|rfl<;>simp[eqGuard,az]) (by rw[e1];simp[az,BK,ya hu]) (by simp only[az,binOp]) (by simp only[az,binOp])
 case agg R =>
  have⟨hg,c,hu⟩:=hk;have A:=DF (w:=w) c ha hb h;have z:(∃l,a=.agg l) /\ ∃l,b=.agg l:=by
   have c:dF P (19+1) t=B1 R:=c;rw[dF]at c;rcases hu with⟨fs,hu⟩|⟨n,e,hu⟩
   .rw [hu]at c;simp only at c;split at c
    .cases c
    .exact pf c h
   .rw [hu]at c;simp only[qj]at c;have⟨s,hs,a',ha',q1,hq1,c⟩:=c;cases c;exact q8z _ _ _ _ _ h
  obtain⟨⟨l,rfl⟩,⟨l',rfl⟩⟩:=z;have⟨cs,G,_⟩:=ha.fA;have⟨cs',F,_⟩:=hb.fA;rw[G,F]at A fin⊢;exact fin (run_eqGuard_agg w _ t x y _ _ hg) A (by simp only[binOp]) (by simp only[binOp])
def xnp{o:Pl}{t g:Mj}{x y:N2}{k:xI}{neg:Bool}(ho:o.op=.binOp (if neg then .neq else .eql) t x y g)(hk:xC P t x y k):rT P o [x,y] (Op.eq k neg):=by
 intro base D θ H ρ w vs v d h c;unfold Op.eq at c;split at c
 .rename_i a b;have⟨i,j,he,ha,hb⟩:=h.rB;simp only[z8,uw]at he;obtain⟨rfl,rfl⟩:=he;simp only[qj]at c;have⟨q,f,c⟩:=c;cases c;have:=Mr d hk ha hb f (if neg then .neq else .eql) (by grind);refine⟨_,.inl ?_,.bool _⟩;simp only[execOp,ho];rw[Nw,this];simp_all
 grind
end
end Go.Am
namespace Go.Am
structure nS(w w0:NG):Prop where
 heap:w0.heap=w.heap
 os:w0.os=w.os
 tape:w0.tape=w.tape
 output:w0.output=w.output
theorem nS.refl(w:NG):nS w w:=⟨rfl,rfl,rfl,rfl⟩
theorem nS.trans{a b c:NG}(h:nS a b)(d:nS b c):nS a c:=⟨d.heap.trans h.heap,d.os.trans h.os,d.tape.trans h.tape,d.output.trans h.output⟩
def mB(P:Jv)(o:Pl)(xs:List N2)(f:List AV->Option (bE×(Nat->AV))):Prop :=
 ∀(D:Nat->Prop)θ(ρ:N2->KP)w vs ob mk,bM D θ vs (xs.map ρ)->f vs=B1 (ob,mk) ->
  own ob=B4 /\ ∃w0 co ext c,(execOp ρ o).run P w=.ok (.value c) (w0.alloc co)/\nS w w0 /\
   ∀(D':Nat->Prop)θ' id,Ag D θ θ'->(∀b,D b->D' b)->D' id -> θ'.cm id=w.heap.size -> θ'.off id=0 -> θ'.ext id=ext->oR P D' θ' id ob co/\VR D' θ' (mk id) c
section
variable{P:Jv}
def Uk{D':Nat->Prop}{θ':Th}{id:Nat}{cells:List AV}{cs:List KP}{e:Mj}(h:bM D' θ' cells cs)(ho:θ'.off id=0) :
 oR P D' θ' id (.row cells e (0,0) B4) (.cells cs.toArray e (0,0)) :=
 ⟨[],cs,[],(0,0),_,by simp,by grind,h,λ _=>⟨rfl,rfl,rfl,.inl rfl⟩⟩
def xhv{D':Nat->Prop}{θ':Th}{id k:Nat}(a:D' id)(hb:θ'.cm id=k)(ho:θ'.off id=0):VR D' θ' (Op.ptrTo id) (.pointer (B1 ⟨k,0,B5⟩)):=by
 have:=VR.ptr (θ:=θ') (o:=0) a;rw[hb,ho]at this;exact this
def kn{D':Nat->Prop}{θ':Th}{id k n m:Nat}(a:D' id)(hb:θ'.cm id=k)(ho:θ'.off id=0):VR D' θ' (Op.sliceTo n m id) (.slice (B1 ⟨k,0,B5⟩) n m):=by
 have:=VR.slice (θ:=θ') (o:=0) (n:=n) (c:=m) a;simp only[az,hb,ho]at this;exact this
def xe0{o:Pl}{e:Mj}{z:AV}(ho:o.op=.alloc e)(f:zeroOf P e=B1 z):mB P o [] (Op.alloc e z.cells):=by
 intro D θ ρ w vs l mk h c;unfold Op.alloc at c;split at c
 .cases c;have⟨i,g,d⟩:=KZ (w:=w) f;refine⟨rfl,w,.cells i.cells e (0,0),0,.pointer (B1 ⟨w.heap.size,0,B5⟩),?_,.refl w,λ D' θ' id ha j b hb a _=>⟨?_,xhv b hb a⟩⟩
  .simp_all [execOp,Instr.alloc,newVar,newRow]
  .have:=Uk (P:=P) (e:=e) (d D' θ').cells a
   simpa using this
 grind
def xk7{o:Pl}{e:Mj}{x:N2}(ho:o.op=.box e x):mB P o [x] (Op.box e):=by
 intro D θ ρ w vs f mk h c;unfold Op.box at c;split at c
 .rename_i v;have⟨g,he,ha⟩:=h.p7;simp only[z8,uw]at he;subst he;cases c;refine⟨rfl,w,.cells (ρ x).cells e (0,0),0,.pointer (B1 ⟨w.heap.size,0,B5⟩),?_,.refl w,λ D' θ' id hg d b hb a _=>⟨?_,xhv b hb a⟩⟩
  .simp [execOp,ho,Instr.box,newVar,newRow]
  .have:=Uk (P:=P) (e:=e) (ha.up hg d).cells a
   simpa using this
 grind
def _e{o:Pl}{t:Mj}{r:Option N2}(ho:o.op=.makeMap t r)(hr:r=B5\/(∃k n,r=B1 (.const (.int k n)) /\ ∃a b,P.underlying t=B1 (.map a b)))
 (j:∀(ρ:N2->KP),True):∀(D:Nat->Prop)θ(ρ:N2->KP)w vs d mk,(∀v,ρ (.const v)=v)->bM D θ vs (([]:List N2).map ρ)->Op.mkMap vs=B1 (d,mk) ->
 own d=B4 /\ ∃w0 co ext c,(execOp ρ o).run P w=.ok (.value c) (w0.alloc co)/\nS w w0 /\
  ∀(D':Nat->Prop)θ' id,Ag D θ θ'->(∀b,D b->D' b)->D' id -> θ'.cm id=w.heap.size -> θ'.off id=0 -> θ'.ext id=ext->oR P D' θ' id d co/\VR D' θ' (mk id) c:=by
 intro D θ ρ w vs d mk m h f;unfold Op.mkMap at f;split at f
 .cases f;refine⟨rfl,w,.map #[] 0,0,.map (B1 w.heap.size),?_,.refl w,λ D' θ' id hg l i hb g _=>⟨⟨[],rfl,trivial⟩,?_⟩⟩
  .rcases hr with rfl|⟨k,n,rfl,a,b,hu⟩
   .simp [execOp,ho,Instr.makeMap]
   simp_all[execOp,Instr.makeMap,ya,asInt,asIntOf]
  grind [VR.map]
 grind
def Xe{D:Nat->Prop}{θ:Th}{z:List AV}{a:List KP}(h:bM D θ z a)(n:Nat):bM D θ (fM n z) (Jr n a).flatten:=by
 induction n with
 |zero=>exact .nil
 |succ n ih =>
  simp only[fM,pO,Rc,List.flatten_cons];exact h.app ih
def YI(a:List KP)(n:Nat):((Cz (n*a.length)).map (λ i=>a.toArray[i % a.toArray.size]!))=(Jr n a).flatten.toArray:=by
 apply Array.ext';simp only[Array.toList_map,Array.toList_range,List.size_toArray]
 induction n with
 |zero=>simp
 |succ n ih =>
  rw[show(n+1)*a.length=a.length+n*a.length from by rw[y9];omega,List.range_add,Jt,AJ,Rc,List.flatten_cons];congr 1
  .apply List.ext_getElem
   .simp
   grind [Nat.mod_eq_of_lt]
  simp_all[List.map_congr_left]
def qz3{o:Pl}{t e:Mj}{len n:Nat}{parts:Array (Nat×N2)}{z:AV}{u:List (Nat×Nat)}(ho:o.op=.buildSlice t len parts)(hu:P.underlying t=B1 (.slice e))
 (hs:bU P e=B1 n) (E:zeroOf P e=B1 z) (hp:EJ (Lb n) parts.toList=B1 u) (G:z.cells.length=n) (x:len*n<=16777216) :
 mB P o (parts.toList.map (·.2)) (Op.buildSlice e len z.cells u):=by
 intro D θ ρ w vs I mk h l;simp only[Op.buildSlice,qj]at l;have⟨c,B,l⟩:=l;cases l;have⟨f,s,j⟩:=KZ (w:=w) E;have F:=(j D θ).cells.length;have g:bM D θ (fM len z.cells) (Jr len f.cells.toList).flatten:=Xe (j D θ).cells len;have hv':bM D θ vs (parts.toList.map λ p=>ρ p.2):=by grind [Function.comp_def]
 have⟨cout,y,A⟩:=U5 u vs parts.toList (Lb n) c hp hv' _ _ g B;have r:f.cells.size=n:=by rw[<-Array.length_toList];omega
 refine⟨rfl,w,.cells cout.toArray e (0,0),0,.slice (B1 ⟨w.heap.size,0,B5⟩) len len,?_,.refl w,λ D' θ' id hg C q hb d _=>⟨Uk (A.up hg C) d,kn q hb d⟩⟩;have a:=YI f.cells.toList len;rw[show f.cells.toList.length=n from by omega]at a;simp only[CD]at a;have m:Instr.fill (λ i=>B1 (i*n,n)) (((Cz (len*n)).map (λ i=>f.cells[i % f.cells.size]!))) ((parts.map λ(p:Nat×N2)=>(p.1,ρ p.2)).toList)=B1 cout.toArray:=by
  rw[a,xnf];exact y
 by_cases v:len*n=0
 .have b:Instr.fill (λ i=>B1 (i*n,n)) #[] ((parts.map λ(p:Nat×N2)=>(p.1,ρ p.2)).toList)=B1 cout.toArray:=by
   grind
  simp only[execOp,ho,Instr.buildSlice,Nw,ya hu,NO,vH hs,v,show Cz 0 = #[]from rfl,Array.map_empty,vF,B8,b];simp[newRow]
 .have hb:¬(len*n > 2 ^ 24):=by omega
  simp only[execOp,ho,Instr.buildSlice,Nw,ya hu,NO,vH hs,v,hb,oX,s,B8];simp_all[newRow]
def q9t{o:Pl}{t e:Mj}{l c:N2}{b n:Nat}{z:AV}(ho:o.op=.makeSlice t l c)(hu:P.underlying t=B1 (.slice e))(hb:nh P e=B1 b)
 (hs:bU P e=B1 n) (L:zeroOf P e=B1 z) (N:z.cells.length=n):mB P o [l,c] (Op.mkSlice e b z.cells):=by
 intro D θ ρ w vs W mk h p;unfold Op.mkSlice at p;split at p
 .rename_i U m V f;have⟨x,y,he,ha,u⟩:=h.rB;simp only[z8,uw]at he;obtain⟨rfl,rfl⟩:=he;cases d:(vN 0 m && vN m f && vN (f*b) 140737488355328 && vN f 140737488355328)with
  |false=>grind
  |true =>
   rw[d]at p;simp only[xu,qk,zk]at p;obtain⟨rfl,rfl⟩:=p;simp only[zf,OK,decide_eq_true_eq]at d;have⟨⟨⟨O,Q⟩,R⟩,S⟩:=d;have⟨r,C,q⟩:=KZ (w:=w) L;have M:=(q D θ).cells.length;have B:r.cells.size=n:=by grind
   refine⟨rfl,w,.cells (Jr f.toNat r.cells.toList).flatten.toArray e (0,0),0,.slice (B1 ⟨w.heap.size,0,B5⟩) m.toNat f.toNat,?_,.refl w,
    λ D' θ' id hg T A hb j _=>⟨Uk (Xe ((q D' θ').cells) _) j,kn A hb j⟩⟩
   have w1:PJ.i64.wrap m=m:=by grind [IntKind.wrap,IntKind.bits]
   have w2:PJ.i64.wrap f=f:=by grind [IntKind.wrap,IntKind.bits]
   have v:∃i,P.info? e=B1 i/\i.bytes=b:=by
    unfold nh at hb;cases E:P.info? e with
    |none=>grind
    |some i=>grind
   obtain⟨inf,E,rfl⟩:=v;have a:=YI r.cells.toList f.toNat;rw[show r.cells.toList.length=n from by omega]at a;simp only[CD]at a;have F:¬(f<0):=by omega
   have G:¬((inf.bytes:Int)*f > 2 ^ 48):=by grind
   have I:¬(m<0):=by omega
   have J:¬(m > f):=by omega
   have K:¬(f.toNat*inf.bytes > roomBytes):=by
    grind [roomBytes]
   have X:(2:Int) ^ 48=281474976710656:=by decide
   simp only[execOp,ho,<-ha.now,<-u.now,az,Instr.makeSlice,Nw,ya hu,NO,asInt,asIntOf,B8,typeInfo,run_program,E,w1,w2]
   by_cases s:f.toNat*n=0
   .have g:(Jr f.toNat r.cells.toList).flatten.toArray = #[]:=by rw[<-a,s,show Cz 0 = #[]from rfl,Array.map_empty]
    simp only[F,G,I,J,K,s,askRoom,g,J5,Bool.or_self,zr,oX,vF,Nw,B8,NO,vH hs,show Cz 0 = #[]from rfl,Array.map_empty];simp[newRow]
   .simp only[F,G,I,J,K,s,askRoom,J5,Bool.or_self,zr,oX,Nw,B8,NO,vH hs,C,a];simp[newRow]
 grind
end
end Go.Am
