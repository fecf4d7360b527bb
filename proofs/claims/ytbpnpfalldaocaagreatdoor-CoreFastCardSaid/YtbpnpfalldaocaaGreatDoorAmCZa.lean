import GoSem.Step
import Derived.CallsIn
import Derived.WalkKit
import Derived.WalkLawsBesides
import Derived.Lib.Strings
import Derived.Lib.Bytealg
import Derived.DeepKeys3
import Derived.Laws.Cover3
import Derived.Laws.Pointers
import Derived.Room.MakeNoZero
import Derived.Laws.IdiomStrings
set_option linter.defProp false
set_option linter.unusedVariables false
set_option linter.unusedSimpArgs false
open Array renaming range→BQ,toArray_toList→Ak
open BitVec renaming ofInt→A7
open Bool renaming eq_iff_iff→BA,false→B2,true→B4
open Go renaming Op→BJ,IntKind→KB,MapEntry→AW,Oper→KW,Operand→IY,Program→Fv,TypeId→IV,Value→Hm,World→J3
open Go.Addr.mk renaming injEq→Ah
open Go.Builtin renaming len_→BX
open Go.Deferred renaming ofValue→AO
open Go.Instr renaming checkKey→AQ,findAsking→AF,findKey→BT,findNow→B7,lookup→B0,sliceBounds→AB,sureAddr→An
open Go.Op renaming equal→BW,equalIn→AE
open Go.Region renaming before→Av
open Go.Result renaming andThen_ok→JQ
open Go.Sem renaming run_bind→JX,run_pure→A'
open Go.Value.slice renaming injEq→AK
open List renaming range→Ig,rec→Sp,replicate→Fh
open Nat renaming beq→FW,ble→Jo,blt→KI
open Option renaming none→B5,some→B1
open UInt8 renaming ofNat→AN
namespace Go.Am
theorem qd:type_of% @Option.bind_eq_some_iff:=@Option.bind_eq_some_iff
def qe:type_of% @Option.some.injEq:=@Option.some.injEq
def qg:type_of% @Nat.le_refl:=@Nat.le_refl
def qj:type_of% @Nat.lt_of_lt_of_le:=@Nat.lt_of_lt_of_le
def qm:type_of% @Option.bind_some:=@Option.bind_some
def qn:type_of% @if_neg:=@if_neg
def qo:type_of% @List.getElem?_eq_some_iff:=@List.getElem?_eq_some_iff
def qr:type_of% @eq_true:=@eq_true
def qv:type_of% @if_pos:=@if_pos
def xg:type_of% @cond_true:=@cond_true
theorem xh:type_of% @Option.map_eq_some_iff:=@Option.map_eq_some_iff
def xj:type_of% @List.getElem?_eq_getElem:=@List.getElem?_eq_getElem
def xk:type_of% @List.length_append:=@List.length_append
def xl:type_of% @List.mem_of_getElem?:=@List.mem_of_getElem?
def xm:type_of% @Nat.le_trans:=@Nat.le_trans
def xp:type_of% @Nat.lt_or_ge:=@Nat.lt_or_ge
def xq:type_of% @Bool.and_eq_true:=@Bool.and_eq_true
def xr:type_of% @List.getElem?_map:=@List.getElem?_map
def xu:type_of% @Nat.zero_le:=@Nat.zero_le
def xw:type_of% @List.length_set:=@List.length_set
def xx:type_of% @Prod.mk.injEq:=@Prod.mk.injEq
def za:type_of% @Bool.false_eq_true:=@Bool.false_eq_true
def zd:type_of% @Nat.lt_succ_self:=@Nat.lt_succ_self
def ze:type_of% @cond_false:=@cond_false
def zf:type_of% @List.getElem?_set_self:=@List.getElem?_set_self
def zg:type_of% @List.cons.injEq:=@List.cons.injEq
theorem zh:type_of% @List.take_of_length_le:=@List.take_of_length_le
def zi:type_of% @List.getD_eq_getElem?_getD:=@List.getD_eq_getElem?_getD
def zj:type_of% @List.length_map:=@List.length_map
def zm:type_of% @List.getElem?_set_ne:=@List.getElem?_set_ne
def zr:type_of% @List.mem_append:=@List.mem_append
def zt:type_of% @List.length_replicate:=@List.length_replicate
def zu:type_of% @List.append_nil:=@List.append_nil
def zw:type_of% @List.getElem?_cons_succ:=@List.getElem?_cons_succ
def zx:type_of% @List.getElem?_cons_zero:=@List.getElem?_cons_zero
def zy:type_of% @List.length_cons:=@List.length_cons
def z4:type_of% @List.mem_singleton:=@List.mem_singleton
def z7:type_of% @List.getElem?_append_right:=@List.getElem?_append_right
def jb:type_of% @Bool.and_self:=@Bool.and_self
theorem jd:type_of% @List.drop_eq_nil_of_le:=@List.drop_eq_nil_of_le
theorem je:type_of% @Nat.beq_eq:=@Nat.beq_eq
def jf:type_of% @List.getElem?_eq_none:=@List.getElem?_eq_none
def jg:type_of% @Iff.rfl:=@Iff.rfl
def jh:type_of% @List.nil_append:=@List.nil_append
def jj:type_of% @Classical.byContradiction:=@Classical.byContradiction
def jk:type_of% @Int.eq_ofNat_of_zero_le:=@Int.eq_ofNat_of_zero_le
def jm:type_of% @List.map_cons:=@List.map_cons
def jo:type_of% @List.eq_of_mem_replicate:=@List.eq_of_mem_replicate
def jt:type_of% @Nat.le_succ:=@Nat.le_succ
def jv:type_of% @List.flatMap_cons:=@List.flatMap_cons
def jw:type_of% @decide_eq_false:=@decide_eq_false
def jy:type_of% @Nat.mul_le_mul_right:=@Nat.mul_le_mul_right
def jz:type_of% @decide_eq_true:=@decide_eq_true
def j0:type_of% @List.ext_getElem?:=@List.ext_getElem?
def j4:type_of% @List.length_range:=@List.length_range
def j5:type_of% @Option.bind_assoc:=@Option.bind_assoc
def j6:type_of% @List.length_eq_zero_iff:=@List.length_eq_zero_iff
def j7:type_of% @List.length_nil:=@List.length_nil
def j8:type_of% @List.mem_cons:=@List.mem_cons
def kq:type_of% @List.drop_zero:=@List.drop_zero
def kz:type_of% @Array.getElem?_toList:=@Array.getElem?_toList
def ya:type_of% @List.getElem?_append_left:=@List.getElem?_append_left
def yd:type_of% @List.mem_cons_self:=@List.mem_cons_self
def yi:type_of% @List.flatMap_append:=@List.flatMap_append
def yj:type_of% @List.getElem?_range:=@List.getElem?_range
theorem yk:type_of% @Nat.add_mul:=@Nat.add_mul
def yn:type_of% @List.take_zero:=@List.take_zero
def yo:type_of% @List.append_assoc:=@List.append_assoc
def yt:type_of% @List.getElem?_drop:=@List.getElem?_drop
def yu:type_of% @Nat.zero_add:=@Nat.zero_add
def yx:type_of% @List.take_append_of_le_length:=@List.take_append_of_le_length
def yz:type_of% @Nat.add_assoc:=@Nat.add_assoc
def y8:type_of% @if_false:=@if_false
theorem vd:type_of% @Nat.ble_eq:=@Nat.ble_eq
theorem ve:type_of% @Nat.eq_of_beq_eq_true:=@Nat.eq_of_beq_eq_true
def vi:type_of% @List.drop_length_add_append:=@List.drop_length_add_append
def vj:type_of% @Nat.add_sub_cancel_left:=@Nat.add_sub_cancel_left
theorem vn:type_of% @List.getElem?_of_mem:=@List.getElem?_of_mem
theorem vp:type_of% @List.drop_append:=@List.drop_append
theorem vq:type_of% @Nat.succ_mul:=@Nat.succ_mul
def vr:type_of% @Option.getD_some:=@Option.getD_some
def vy:type_of% @Classical.not_not:=@Classical.not_not
def wl:type_of% @Bool.or_eq_true:=@Bool.or_eq_true
def wn:type_of% @List.set_append_right:=@List.set_append_right
theorem wo:type_of% @List.take_append_drop:=@List.take_append_drop
def wq:type_of% @Option.map_some:=@Option.map_some
def HG:type_of% @Option.isSome_some:=@Option.isSome_some
def vE:type_of% @Int.le_refl:=@Int.le_refl
def EZ:type_of% @List.all_eq_true:=@List.all_eq_true
def zJ:type_of% @Nat.add_zero:=@Nat.add_zero
def yO:type_of% @Nat.zero_mul:=@Nat.zero_mul
def IJ:type_of% @Int.toNat_natCast:=@Int.toNat_natCast
theorem uv:type_of% @Nat.blt_eq:=@Nat.blt_eq
theorem OP:type_of% @Array.getD_eq_getD_getElem?:=@Array.getD_eq_getD_getElem?
def Oa:type_of% @Array.getElem?_eq_some_iff:=@Array.getElem?_eq_some_iff
def Gh:type_of% @List.cons_append:=@List.cons_append
def HQ:type_of% @List.length_drop:=@List.length_drop
theorem Is:type_of% @List.length_take:=@List.length_take
def IL:type_of% @List.getElem?_take:=@List.getElem?_take
def CD:type_of% @List.mem_map:=@List.mem_map
def rp:type_of% @and_true:=@and_true
def OE:type_of% @Decidable.byContradiction:=@Decidable.byContradiction
theorem FU:type_of% @List.drop_drop:=@List.drop_drop
theorem I6:type_of% @List.take_add_one:=@List.take_add_one
def JI:type_of% @Nat.lt_succ_of_lt:=@Nat.lt_succ_of_lt
def pT:type_of% @Ne.symm:=@Ne.symm
def Ep:type_of% @List.map_map:=@List.map_map
def KL:type_of% @Int.toNat_of_nonneg:=@Int.toNat_of_nonneg
def LW:type_of% @List.replicate_succ:=@List.replicate_succ
def ES:type_of% @Nat.lt_irrefl:=@Nat.lt_irrefl
def KV:type_of% @Option.isSome_none:=@Option.isSome_none
def rq:type_of% @eq_self:=@eq_self
def rR:type_of% @if_true:=@if_true
def J6:type_of% @List.take_append:=@List.take_append
def Md:type_of% @Nat.le_add_right:=@Nat.le_add_right
def G6:type_of% @List.map_nil:=@List.map_nil
def Im:type_of% @Nat.ne_of_lt:=@Nat.ne_of_lt
def Il:type_of% @decide_false:=@decide_false
def Cu:type_of% @true_and:=@true_and
inductive T(α:Type)where
 |nil
 |node (l:T α) (v:Option α) (r:T α)
noncomputable section
namespace T
variable{α:Type}
def l:T α->T α
 | .nil=>.nil
 | .node a _ _=>a
def r:T α->T α
 | .nil=>.nil
 | .node _ _ b=>b
def val:T α->Option α
 | .nil=>B5
 | .node _ v _=>v
def path(i:Nat):List Bool:=go i i
 where go:Nat->Nat->List Bool
 |0,_=>[]
 |f+1,i=>match i with
  |0=>[]
  |n+1=>FW (Nat.mod n 2) 0::go f (Nat.div n 2)
def tj:List Bool->T α->Option α
 |[],t=>t.val
 |b::p,t=>tj p (cond b t.l t.r)
def eU(v:Option α):List Bool->T α->T α
 |[],t=>.node t.l v t.r
 |b::p,t=>cond b (.node (eU v p t.l) t.val t.r) (.node t.l t.val (eU v p t.r))
def get(t:T α)(i:Nat):Option α:=tj (path i) t
def put(t:T α)(i:Nat)(v:Option α):T α:=eU v (path i) t
def set(t:T α)(i:Nat)(v:α):T α:=t.put i (B1 v)
structure Get(α:Type)where
 run:T α->Option α
structure Put(α:Type)where
 run:Option α->T α->T α
def mP:List Bool->Get α
 |[]=>⟨val⟩
 |true::p=>⟨λ t=>(mP p).run t.l⟩
 |false::p=>⟨λ t=>(mP p).run t.r⟩
def zP:List Bool->Put α
 |[]=>⟨λ v t=>.node t.l v t.r⟩
 |true::p=>⟨λ v t=>.node ((zP p).run v t.l) t.val t.r⟩
 |false::p=>⟨λ v t=>.node t.l t.val ((zP p).run v t.r)⟩
end T
def nth{α:Type}(l:List α):Nat->Option α :=
 Sp (motive:=λ _=>Nat->Option α) (λ _=>B5) (λ x _ ih i=>Nat.rec (motive:=λ _=>Option α) (B1 x) (λ n _=>ih n) i) l
def jD{α:Type}(a b:List α):List α:=Sp (motive:=λ _=>List α) b (λ x _ ih=>x::ih) a
def cF{α:Type}(l:List α):Nat:=Sp (motive:=λ _=>Nat) 0 (λ _ _ ih=>ih+1) l
def LX{α:Type}:List α->List α
 |[]=>[]
 |_::l=>l
def eQ{α:Type}(n:Nat):List α->List α:=Nat.rec (motive:=λ _=>List α->List α) (λ l=>l) (λ _ ih l=>ih (LX l)) n
def Au{α:Type}(n:Nat):List α->Option (List α) :=
 Nat.rec (motive:=λ _=>List α->Option (List α)) (λ _=>B1 [])
  (λ _ ih l=>Sp (motive:=λ _=>Option (List α)) B5 (λ x t _=>(ih t).bind λ r=>B1 (x::r)) l) n
def uR{α:Type}(new:List α):List α->Option (List α) :=
 Sp (motive:=λ _=>List α->Option (List α)) (λ l=>B1 l)
  (λ x _ ih l=>Sp (motive:=λ _=>Option (List α)) B5 (λ _ t _=>(ih t).bind λ r=>B1 (x::r)) l) new
def putAt{α:Type}(o:Nat)(new:List α):List α->Option (List α) :=
 Nat.rec (motive:=λ _=>List α->Option (List α)) (λ l=>uR new l)
  (λ _ ih l=>Sp (motive:=λ _=>Option (List α)) B5 (λ x t _=>(ih t).bind λ r=>B1 (x::r)) l) o
def fg{α:Type}(l:List α)(o n:Nat):Option (List α):=Au n (eQ o l)
inductive kW where
 |func (f:Nat)
 |yield (l:Nat)
inductive AV where
 |bool (b:Bool)
 |int (k:KB) (n:Int)
 |str (s:List UInt8)
 |nilp
 |ptr (b o:Nat)
 |nils
 |slice (b o n c:Nat)
 |gslice (b i m size alt n:Nat)
 |eslice (b:Nat)
 |kT
 |map (b:Nat)
 |fn (f:kW) (first captured:List AV)
 |nilf
 |iface (t:Nat) (v:AV)
 |nili
 |agg (l:List AV)
 |tuple (l:List AV)
instance:Inhabited AV:=⟨.nili⟩
def AV.undef:AV:=.tuple []
def AV.cells:AV->List AV
 | .agg l=>l
 |v=>[v]
inductive bE where
 |tmp (t:Nat)
 |const (v:AV)
 |dV (g:Nat)
 |func (f:Nat)
inductive dM where
 |tmp (t:Nat)
 |jL (a:Nat)
 |dq (n:Nat) (a:Nat)
inductive gH where
 |exit (id:Nat)|goto (l:Nat)|ret
inductive lP where
 |ready|busy|done|exhausted
inductive aK where
 |im (b:Nat)
 |fn (f:kW) (args:List AV)
inductive bB where
 |row (cells:List AV) (elem:Nat) (fz:Nat×Nat) (own:Bool)
 |grown (m size:Nat) (cells:List AV) (elem:Nat) (fz:Nat×Nat)
 |map (es:List (AV×AV×Nat)) (clock:Nat)
 |kN (s:List UInt8) (pos:Nat)
 |loop (st:lP) (pend:Option gH) (fn k:Nat) (tm:T AV) (defers:Nat)
 |deferred (calls:Option (List aK))
structure ar where
 t:T bB
 au:Nat
namespace ar
def get(H:ar)(b:Nat):Option bB:=H.t.get b
def set(H:ar)(b:Nat)(o:bB):ar:={H with t:=H.t.set b o}
def alloc(H:ar)(o:bB):ar:={t:=H.t.set H.au o,au:=H.au+1}
def kill(H:ar)(b:Nat):ar:={H with t:=H.t.put b B5}
def bM(H:ar)(b:Nat):Option (List AV) :=
 match H.get b with
 |some (.row c _ _ _)=>B1 c
 |some (.grown _ _ c _ _)=>B1 c
 |_=>B5
end ar
def ar.ae(H:ar)(b o:Nat):Option AV:=(H.bM b).bind λ l=>nth l o
def ar.fR(H:ar)(b:Nat):Option (List (AV×AV×Nat)×Nat) :=
 match H.get b with
 |some (.map es c)=>B1 (es,c)
 |_=>B5
def ar.av(H:ar)(b o n:Nat):Option (List AV):=(H.bM b).bind λ l=>fg l o n
def dS(fz:Nat×Nat)(o n:Nat):Bool:=Jo (o+n) fz.1 ||Jo fz.2 o
def aC:AV->Bool
 | .agg _| .tuple _=>B2
 |_=>B4
def aP(l:List AV):Bool:=Sp (motive:=λ _=>Bool) B4 (λ x _ ih=>cond (aC x) ih B2) l
def ar.store(H:ar)(b o:Nat)(new:List AV):Option ar :=
 cond (aP new) (match H.get b with
  |some (.row c e fz B4)=>cond (dS fz o (cF new)) ((putAt o new c).bind λ c'=>B1 (H.set b (.row c' e fz B4))) B5
  |some (.grown m s c e fz)=>cond (dS fz o (cF new)) ((putAt o new c).bind λ c'=>B1 (H.set b (.grown m s c' e fz))) B5
  |_=>B5) B5
def pN(tm:T AV):bE->Option AV
 | .tmp t=>tm.get t
 | .const v=>B1 v
 | .dV g=>B1 (.ptr g 0)
 | .func f=>B1 (.fn (.func f) [] [])
def kS(tm:T AV):List bE->Option (List AV)
 |[]=>B1 []
 |x::xs=>(pN tm x).bind λ v=>(kS tm xs).bind λ vs=>B1 (v::vs)
structure Ev where
 run:T AV->Option AV
structure Evs where
 run:T AV->Option (List AV)
def JC:bE->Ev
 | .tmp t=>⟨(T.mP (T.path t)).run⟩
 | .const v=>⟨λ _=>B1 v⟩
 | .dV g=>⟨λ _=>B1 (.ptr g 0)⟩
 | .func f=>⟨λ _=>B1 (.fn (.func f) [] [])⟩
def rL:List bE->Evs
 |[]=>⟨λ _=>B1 []⟩
 |[x]=>⟨λ tm=>((JC x).run tm).bind λ v=>B1 [v]⟩
 |x::xs=>⟨λ tm=>((JC x).run tm).bind λ v=>((rL xs).run tm).bind λ vs=>B1 (v::vs)⟩
def sC(a b:Int):Bool:=match a,b with
 | .ofNat m,.ofNat n=>Jo m n
 | .ofNat _,.negSucc _=>B2
 | .negSucc _,.ofNat _=>B4
 | .negSucc m,.negSucc n=>Jo n m
def wA(a b:Int):Bool:=!sC b a
def rS(a b:Int):Bool:=match a,b with
 | .ofNat m,.ofNat n=>FW m n
 | .negSucc m,.negSucc n=>FW m n
 |_,_=>B2
def jG:KB->Nat
 | .i8=>0| .i16=>1| .i32=>2| .i64=>3| .u8=>4| .u16=>5| .u32=>6| .u64=>7
def ry(a b:KB):Bool:=FW (jG a) (jG b)
def Ba(a b:UInt8):Bool:=FW a.toNat b.toNat
def wD:List UInt8->List UInt8->Bool
 |[],[]=>B4
 |a::x,b::y=>cond (Ba a b) (wD x y) B2
 |_,_=>B2
inductive aM where
 |int|str|bool
 |nil
 |part (off:Nat) (n:Option Nat) (t rest:aM)
def partAt(l:List AV)(off:Nat):Option Nat->Option AV
 |none=>nth l off
 |some k=>(fg l off k).bind λ c=>B1 (.agg c)
def aZ:aM->AV->AV->Option Bool
 | .int,.int k a,.int k' b=>cond (ry k k') (B1 (rS a b)) B5
 | .str,.str a,.str b=>B1 (wD a b)
 | .bool,.bool a,.bool b=>B1 (a == b)
 | .nil,.agg _,.agg _=>B1 B4
 | .part off n t rest,.agg x,.agg y=>(partAt x off n).bind λ a=>(partAt y off n).bind λ b=>(aZ t a b).bind λ q =>
  cond q (aZ rest (.agg x) (.agg y)) (B1 B2)
 |_,_,_=>B5
def cP:aM->AV->Bool
 | .int,.int _ _=>B4
 | .str,.str _=>B4
 | .bool,.bool _=>B4
 | .nil,.agg _=>B4
 | .part off n t rest,.agg x=>match partAt x off n with
  |some a=>cond (cP t a) (cP rest (.agg x)) B2
  |none=>B2
 |_,_=>B2
def bytesLess:List UInt8->List UInt8->Bool
 |_,[]=>B2
 |[],_::_=>B4
 |a::x,b::y=>KI a.toNat b.toNat ||(Ba a b && bytesLess x y)
def pA(op:BinOp)(a b:List UInt8):Option AV :=
 match op with
 | .add=>cond (Jo (a.length+b.length) 140737488355328) (B1 (.str (a++b))) B5
 | .eql=>B1 (.bool (wD a b))
 | .neq=>B1 (.bool (!(wD a b)))
 | .lss=>B1 (.bool (bytesLess a b))
 | .leq=>B1 (.bool (bytesLess a b ||wD a b))
 | .gtr=>B1 (.bool (!(bytesLess a b ||wD a b)))
 | .geq=>B1 (.bool (!bytesLess a b))
 |_=>B5
def aj(k:KB)(n:Int):Int:=k.wrap n
def fH(op:BinOp)(k:KB)(a b:Int):Option AV :=
 match op with
 | .add=>B1 (.int k (aj k (a+b)))
 | .sub=>B1 (.int k (aj k (a-b)))
 | .mul=>B1 (.int k (aj k (a*b)))
 | .quo=>cond (rS b 0) B5 (B1 (.int k (aj k (a.tdiv b))))
 | .rem=>cond (rS b 0) B5 (B1 (.int k (a.tmod b)))
 | .and=>B1 (.int k (aj k ((A7 k.bits a &&& A7 k.bits b).toNat)))
 | .or=>B1 (.int k (aj k ((A7 k.bits a |||A7 k.bits b).toNat)))
 | .xor=>B1 (.int k (aj k ((A7 k.bits a ^^^ A7 k.bits b).toNat)))
 | .andNot=>B1 (.int k (aj k ((A7 k.bits a &&& ~~~(A7 k.bits b)).toNat)))
 | .eql=>B1 (.bool (rS a b))
 | .neq=>B1 (.bool (!rS a b))
 | .lss=>B1 (.bool (wA a b))
 | .leq=>B1 (.bool (sC a b))
 | .gtr=>B1 (.bool (wA b a))
 | .geq=>B1 (.bool (sC b a))
 |_=>B5
inductive tC where
 |bool|ptr|slice|map|func|iface
 |ifaces (f:Nat->Option aM)
 |agg (t:aM)
def qO(isNil isSome:AV->Bool)(x y:AV):Option Bool :=
 cond (isNil x) (cond (isNil y) (B1 B4) (cond (isSome y) (B1 B2) B5)) (cond (isSome x && isNil y) (B1 B2) B5)
def zD:AV->Bool
 | .nils=>B4
 |_=>B2
def isSlice:AV->Bool
 | .slice ..=>B4
 | .gslice ..=>B4
 | .eslice _=>B4
 |_=>B2
def AM:AV->Bool
 | .kT=>B4
 |_=>B2
def isMap:AV->Bool
 | .map _=>B4
 |_=>B2
def Be:AV->Bool
 | .nilf=>B4
 |_=>B2
def Ky:AV->Bool
 | .fn ..=>B4
 |_=>B2
def wU:AV->Bool
 | .nili=>B4
 |_=>B2
def isIface:AV->Bool
 | .iface ..=>B4
 |_=>B2
def uQ(H:ar)(b b':Nat):Bool :=
 match H.get b,H.get b' with
 |some (.row _ _ (0,0) B4),B1 (.row (_::_) _ _ _)=>B4
 |some (.row (_::_) _ _ _),B1 (.row _ _ (0,0) B4)=>B4
 |_,_=>B2
def qZ(op:BinOp)(k:KB)(a b:Int):Option AV :=
 cond (wA b 0) B5 (match op with
  | .shl=>B1 (.int k (aj k (a*2 ^ (min b.toNat k.bits))))
  |_=>B1 (.int k (a.fdiv (2 ^ (min b.toNat k.bits)))))
def dC:BinOp->Bool
 | .shl| .shr=>B4
 |_=>B2
def E9(H:ar):tC->AV->AV->Option Bool
 | .bool,.bool a,.bool b=>B1 (a == b)
 | .ptr,.nilp,.nilp=>B1 B4
 | .ptr,.nilp,.ptr _ _=>B1 B2
 | .ptr,.ptr _ _,.nilp=>B1 B2
 | .ptr,.ptr b o,.ptr b' o'=>cond (FW b b') (B1 (FW o o')) (cond (uQ H b b') (B1 B2) B5)
 | .slice,x,y=>qO zD isSlice x y
 | .map,x,y=>qO AM isMap x y
 | .func,x,y=>qO Be Ky x y
 | .iface,x,y=>qO wU isIface x y
 | .ifaces f,.iface t a,.iface u b=>cond (FW t u) ((f t).bind λ q=>aZ q a b) (B1 B2)
 | .ifaces _,.nili,.iface _ _=>B1 B2
 | .ifaces _,.iface _ _,.nili=>B1 B2
 | .agg t,x,y=>aZ t x y
 |_,_,_=>B5
def mJ(op:BinOp)(x y:AV):Option AV :=
 match x,y with
 | .int k a,.int k' b=>cond (dC op) (qZ op k a b) (cond (ry k k') (fH op k a b) B5)
 | .str a,.str b=>pA op a b
 |_,_=>B5
def Vh(op:UnOp)(x:AV):Option AV :=
 match op,x with
 | .neg,.int k n=>B1 (.int k (aj k (0-n)))
 | .xor,.int k n=>fH .xor k (if k.signed then -1 else k.max) n
 | .not,.bool b=>B1 (.bool (!b))
 |_,_=>B5
def iD(cells:List AV):List (Nat×Nat)->List AV->Option (List AV)
 |[],[]=>B1 cells
 |(off,size)::ps,v::vs=>cond (FW (cF v.cells) size) ((putAt off v.cells cells).bind λ c=>iD c ps vs) B5
 |_,_=>B5
def fp(n:Nat)(z:List AV):List AV :=
 match n with
 |0=>[]
 |n+1=>jD z (fp n z)
def within(i:Int)(n:Nat):Option Nat:=match i with
 | .ofNat k=>cond (KI k n) (B1 k) B5
 | .negSucc _=>B5
def arg(vs:List AV):Option Nat->Option (Option AV)
 |none=>B1 B5
 |some i=>(nth vs i).bind λ v=>B1 (B1 v)
def bound(v:Option AV)(d mx:Nat):Option Nat :=
 match v with
 |none=>B1 d
 |some (.int _ (.ofNat i))=>cond (Jo i mx) (B1 i) B5
 |_=>B5
def ei(size:Nat)(x:AV)(lo hi mx:Option AV):Option AV :=
 match x with
 | .nils=>match mx with
  |none=>(bound hi 0 0).bind λ h=>(bound lo 0 h).bind λ _=>B1 .nils
  |some _=>B5
 | .slice b o n c=>match mx,hi with
  |some _,B5=>B5
  |mx,hi=>(bound mx c c).bind λ m=>(bound hi n m).bind λ h=>(bound lo 0 h).bind λ l =>
   B1 (.slice b (cond (FW m l) o (o+l*size)) (h-l) (m-l))
 | .gslice b i m s alt n =>
  cond (FW s size && Jo i m) (match mx,hi with
   |none,hi=>(bound hi n (m-i)).bind λ h=>(bound lo 0 h).bind λ l =>
    cond (Jo h (m-i)) (B1 (.gslice b (i+l) m s (cond (FW l 0) alt (i*s)) (h-l))) B5
   |some _,B5=>B5
   |mx,hi=>(bound mx 0 (m-i)).bind λ x=>(bound hi 0 x).bind λ h=>(bound lo 0 h).bind λ l =>
    cond (FW x l) B5 (B1 (.slice b ((i+l)*s) (h-l) (x-l)))) B5
 | .eslice b=>match mx with
  |none=>(bound hi 0 0).bind λ h=>(bound lo 0 h).bind λ _=>B1 (.eslice b)
  |some _=>B5
 |_=>B5
def eL:AV->Option Nat
 | .str s=>B1 (cF s)
 | .nils=>B1 0
 | .slice _ _ n _=>B1 n
 | .gslice _ _ _ _ _ n=>B1 n
 | .eslice _=>B1 0
 |_=>B5
def elemAt(size:Nat)(x:AV)(j:Nat):Option (Nat×Nat) :=
 match x with
 | .slice b o n _=>cond (KI j n) (B1 (b,o+j*size)) B5
 | .gslice b i m s _ n=>cond (KI j n && FW s size && KI (i+j) m) (B1 (b,i*s+j*s)) B5
 |_=>B5
def firstCells(H:ar)(size n:Nat)(x:AV):Option (List AV) :=
 match x with
 | .nils=>B1 []
 | .str s=>cond (FW size 1) (B1 ((s.take n).map λ b=>.int .u8 b.toNat)) B5
 | .slice b o _ _=>cond (FW n 0) (B1 []) (H.av b o (n*size))
 | .gslice b i m s _ _=>cond (FW n 0) (B1 []) (cond (FW s size && KI i m) (H.av b (i*s) (n*size)) B5)
 | .eslice _=>cond (FW n 0) (B1 []) B5
 |_=>B5
def d9(n:Int):AV:=.int .i64 n
def findKey(t:aM)(k:AV):List (AV×AV×Nat)->Nat->Option (Option (Nat×AV))
 |[],_=>B1 B5
 |(k',v,_)::es,i=>(aZ t k k').bind λ q=>cond q (B1 (B1 (i,v))) (findKey t k es (i+1))
def EI(c:UInt8):List UInt8->Nat->Option Nat
 |[],_=>B5
 |x::l,i=>cond (Ba x c) (B1 i) (EI c l (i+1))
def tg(c:UInt8):List UInt8->Nat
 |[]=>0
 |x::l=>cond (Ba x c) (tg c l+1) (tg c l)
def byteOf:AV->Option UInt8
 | .int .u8 n=>B1 (AN n.toNat)
 |_=>B5
def bytesOf:List AV->Option (List UInt8)
 |[]=>B1 []
 |x::l=>(byteOf x).bind λ b=>(bytesOf l).bind λ r=>B1 (b::r)
def fits(n bytes:Nat):Bool:=Jo (n*bytes) 140737488355328 && Jo n 140737488355328
def cZ(H:ar)(e size n:Nat)(cells:List AV)(fz:Nat×Nat):AV×ar :=
 (.gslice H.au 0 n size 0 n,H.alloc (.grown n size cells e fz))
def cK(H:ar)(e size bytes:Nat)(s:AV)(n:Nat)(new:List AV):Option (AV×ar) :=
 match s with
 | .nils=>cond (FW n 0) (B1 (.nils,H)) (cond (fits n bytes && KI 0 size) (B1 (cZ H e size n new (0,0))) B5)
 | .slice b o len c =>
  cond (Jo (len+n) c)
   (cond (FW n 0) (B1 (.slice b o (len+n) c,H)) ((H.store b (o+len*size) new).bind λ H'=>B1 (.slice b o (len+n) c,H')))
   (cond (fits (len+n) bytes && Jo c (len+n) && KI 0 size)
    ((firstCells H size len (.slice b o len c)).bind λ old=>B1 (cZ H e size (len+n) (jD old new) (0,0))) B5)
 | .gslice b i m sz alt len =>
  cond (FW n 0) (cond (Jo (i+len) m) (B1 (.gslice b i m sz alt len,H)) B5) (cond (FW sz size && Jo (i+len) m && KI 0 size)
   (cond (Jo (i+len+n) m)
    ((H.store b ((i+len)*size) new).bind λ H'=>B1 (.gslice b i m sz alt (len+n),H'))
    (cond (fits (len+n) bytes) (match H.get b with
     |some (.grown m' sz' c e' fz) =>
      cond (FW m m' && FW sz sz' && FW e' e)
       (cond (FW i 0 && FW len m && Jo fz.2 (m*size)) (B1 (cZ (H.kill b) e size (len+n) (jD c new) fz)) (cond (Jo fz.2 (i*size))
        ((fg c (i*size) (len*size)).bind λ old=>B1 (cZ (H.kill b) e size (len+n) (jD old new) (cond (FW fz.1 fz.2) (0,0) (1,0))))
        (cond (FW i 0 && Jo fz.2 (len*size))
         ((fg c 0 (len*size)).bind λ old=>B1 (cZ (H.kill b) e size (len+n) (jD old new) fz)) B5))) B5
     |_=>B5) B5)) B5)
 |_=>B5
namespace Op
def fail:List AV->Option AV:=λ _=>B5
def move:List AV->Option AV
 |[v]=>B1 v
 |_=>B5
def pick:List AV->Option AV
 |[.bool q,a,b]=>B1 (cond q a b)
 |_=>B5
def build(zero:List AV)(places:List (Nat×Nat))(vs:List AV):Option AV :=
 (iD zero places vs).bind λ c=>B1 (.agg c)
def nilCheck:List AV->Option AV
 |[.nilp]|[.nili]|[.nilf]=>B5
 |[.fn (.func f) a b]=>B1 (.fn (.func f) a b)
 |[.fn _ _ _]=>B5
 |[v]=>B1 v
 |_=>B5
def bin(op:BinOp):List AV->Option AV
 |[x,y]=>mJ op x y
 |_=>B5
def eq(t:tC)(neg:Bool):List AV->ar->Option AV
 |[x,y],H=>(E9 H t x y).bind λ q=>B1 (.bool (cond neg (!q) q))
 |_,_=>B5
def un(op:UnOp):List AV->Option AV
 |[x]=>Vh op x
 |_=>B5
def wrap(k:KB):List AV->Option AV
 |[.int _ n]=>B1 (.int k (aj k n))
 |_=>B5
def dH:List AV->Option AV
 |[.int _ n]=>cond (sC 0 n && wA n 128) (B1 (.str [AN n.toNat])) B5
 |_=>B5
def eH:List AV->Option AV
 |[.str s]=>B1 (.str s)
 |_=>B5
def dm(t:Nat):List AV->Option AV
 |[v]=>B1 (.iface t v)
 |_=>B5
def bS(f nf:Nat)(l:List AV):Option AV:=B1 (.fn (.func f) (l.take nf) (l.drop nf))
def dJ:List (Option Nat)->List AV->Option AV
 |[lo,hi],.str s::vs =>
  (arg vs hi).bind λ b=>(arg vs lo).bind λ a=>(bound b s.length s.length).bind λ h=>(bound a 0 h).bind λ l=>B1 (.str ((s.take h).drop l))
 |_,_=>B5
def aJ(size:Nat):List (Option Nat)->List AV->Option AV
 |[lo,hi,mx],x::vs=>(arg vs lo).bind λ a=>(arg vs hi).bind λ b=>(arg vs mx).bind λ m=>ei size x a b m
 |_,_=>B5
def cG(n size:Nat):List (Option Nat)->List AV->Option AV
 |[lo,hi,mx],.ptr p o::vs=>(arg vs lo).bind λ a=>(arg vs hi).bind λ b=>(arg vs mx).bind λ m=>ei size (.slice p o n n) a b m
 |_,_=>B5
def fieldAddr(off:Nat):List AV->Option AV
 |[.ptr b o]=>B1 (.ptr b (o+off))
 |_=>B5
def field(off:Nat)(n:Option Nat):List AV->Option AV
 |[.agg l]=>partAt l off n
 |_=>B5
def aN(size:Nat):List AV->Option AV
 |[x,.int _ j]=>(eL x).bind λ n=>(within j n).bind λ k=>(elemAt size x k).bind λ p=>B1 (.ptr p.1 p.2)
 |_=>B5
def aW(len size:Nat):List AV->Option AV
 |[.ptr b o,.int _ j]=>(within j len).bind λ k=>B1 (.ptr b (o+k*size))
 |_=>B5
def bD(len size:Nat)(n:Option Nat):List AV->Option AV
 |[.agg l,.int _ j]=>(within j len).bind λ k=>partAt l (k*size) n
 |_=>B5
def bK:List AV->Option AV
 |[.str s,.int _ j]=>(within j s.length).bind λ k=>(nth s k).bind λ b=>B1 (.int .u8 b.toNat)
 |_=>B5
def typeAssert(t:Nat)(ok:Bool)(zero:AV):List AV->Option AV
 |[.nili]=>cond ok (B1 (.tuple [zero,.bool B2])) B5
 |[.iface u v]=>cond (FW u t) (B1 (cond ok (.tuple [v,.bool B4]) v)) (cond ok (B1 (.tuple [zero,.bool B2])) B5)
 |_=>B5
def extract(i:Nat):List AV->Option AV
 |[.tuple l]=>nth l i
 |_=>B5
def fh:List AV->Option AV
 |[.str s]=>B1 (d9 (cF s))
 |_=>B5
def dg:List AV->Option AV
 |[.nils]=>B1 (d9 0)
 |[.slice _ _ n _]=>B1 (d9 n)
 |[.gslice _ _ _ _ _ n]=>B1 (d9 n)
 |[.eslice _]=>B1 (d9 0)
 |_=>B5
def nS(n:Nat):List AV->Option AV
 |[_]=>B1 (d9 n)
 |_=>B5
def cap:List AV->Option AV
 |[.nils]=>B1 (d9 0)
 |[.slice _ _ _ c]=>B1 (d9 c)
 |_=>B5
def gT(mx:Bool):Int->List AV->Option Int
 |a,[]=>B1 a
 |a,.int _ b::l=>gT mx (cond mx (cond (wA a b) b a) (cond (wA b a) b a)) l
 |_,_=>B5
def eN(mx:Bool):List AV->Option AV
 | .int k a::l=>(gT mx a l).bind λ r=>B1 (.int k r)
 |_=>B5
def da:List AV->Option AV
 |[.nils]=>B1 .nilp
 |[.slice b o _ c]=>cond (FW c 0) B5 (B1 (.ptr b o))
 |[.gslice b i m s _ _]=>cond (KI i m) (B1 (.ptr b (i*s))) B5
 |_=>B5
def dP:List AV->Option AV
 |[x]=>B1 x
 |_=>B5
def aB:List AV->Option AV
 |[.str s,.int .u8 c]=>B1 (d9 (match EI (AN c.toNat) s 0 with|some i=>i|none=>-1))
 |_=>B5
def bR:List AV->Option AV
 |[.str s,.int .u8 c]=>B1 (d9 (Int.ofNat (tg (AN c.toNat) s)))
 |_=>B5
def ae:List AV->ar->Option AV
 |[.ptr b o],H=>H.ae b o
 |_,_=>B5
def av(n:Nat):List AV->ar->Option AV
 |[.ptr b o],H=>(H.av b o n).bind λ l=>B1 (.agg l)
 |_,_=>B5
def cD:List AV->ar->Option AV
 |[.str _],_=>B5
 |[v],H=>(eL v).bind λ n=>(firstCells H 1 n v).bind λ l=>(bytesOf l).bind λ s=>B1 (.str s)
 |_,_=>B5
def lookup(key:aM)(zero:AV)(ok:Bool):List AV->ar->Option AV
 |[.kT,k],_=>cond (cP key k) (B1 (cond ok (.tuple [zero,.bool B2]) zero)) B5
 |[.map b,k],H=>cond (cP key k) ((H.fR b).bind λ m=>(findKey key k m.1 0).bind λ r=>match r with
  |some p=>B1 (cond ok (.tuple [p.2,.bool B4]) p.2)
  |none=>B1 (cond ok (.tuple [zero,.bool B2]) zero)) B5
 |_,_=>B5
def gy:List AV->ar->Option AV
 |[.kT],_=>B1 (d9 0)
 |[.map b],H=>(H.fR b).bind λ m=>B1 (d9 m.1.length)
 |_,_=>B5
def eI(lies:Nat->Nat->Nat->Bool):List AV->ar->Option AV
 |[.nilp],_=>B1 .nilp
 |[.ptr b o],H=>match H.get b with
  |some (.row c e _ B4)=>cond (lies e c.length o) (B1 (.ptr b o)) B5
  |_=>B5
 |_,_=>B5
def ptrTo(b:Nat):AV:=.ptr b 0
def alloc(e:Nat)(zero:List AV):List AV->Option (bB×(Nat->AV))
 |[]=>B1 (.row zero e (0,0) B4,ptrTo)
 |_=>B5
def box(e:Nat):List AV->Option (bB×(Nat->AV))
 |[v]=>B1 (.row v.cells e (0,0) B4,ptrTo)
 |_=>B5
def sliceTo(n m:Nat)(b:Nat):AV:=.slice b 0 n m
def buildSlice(e n:Nat)(zero:List AV)(places:List (Nat×Nat))(vs:List AV):Option (bB×(Nat->AV)) :=
 (iD (fp n zero) places vs).bind λ c=>B1 (.row c e (0,0) B4,sliceTo n n)
def mkMap:List AV->Option (bB×(Nat->AV))
 |[]=>B1 (.map [] 0,.map)
 |_=>B5
def mkSlice(e bytes:Nat)(zero:List AV):List AV->Option (bB×(Nat->AV))
 |[.int _ n,.int _ m]=>cond (sC 0 n && sC n m && sC (m*bytes) 140737488355328 && sC m 140737488355328)
  (B1 (.row (fp m.toNat zero) e (0,0) B4,sliceTo n.toNat m.toNat)) B5
 |_=>B5
def US(m n:Nat)(b:Nat):AV:=.gslice b 0 m 1 0 n
def cB(e:Nat):List AV->Option (bB×(Nat->AV))
 |[.str s]=>cond (Jo s.length 140737488355328) (B1 (.grown s.length 1 (s.map λ b=>.int .u8 b.toNat) e (1,0),US s.length s.length)) B5
 |_=>B5
def dQ:List AV->Option (bB×(Nat->AV))
 |[.str s]=>B1 (.kN s 0,ptrTo)
 |_=>B5
def makeNoZero(e:Nat):List AV->Option (bB×(Nat->AV))
 |[.int .i64 n]=>cond (sC 0 n && sC n 140737488355328) (B1 (.grown 0 1 [] e (0,0),US 0 n.toNat)) B5
 |_=>B5
def store(n:Nat):List AV->ar->Option (AV×ar)
 |[.ptr b o,v],H=>cond (FW (cF v.cells) n) ((H.store b o v.cells).bind λ H'=>B1 (.undef,H')) B5
 |_,_=>B5
def rF:AV->AV->Bool
 | .int k a,.int k' b=>ry k k' && rS a b
 | .str a,.str b=>wD a b
 | .bool a,.bool b=>a == b
 |_,_=>B2
def eC:List AV->List AV->Bool
 |[],[]=>B4
 |a::x,b::y=>cond (rF a b) (eC x y) B2
 |_,_=>B2
def stays:AV->AV->Bool
 | .agg a,.agg b=>eC a b
 |a,b=>rF a b
def mapUpdate(key:aM):List AV->ar->Option (AV×ar)
 |[.map b,k,v],H=>cond (cP key k) ((H.fR b).bind λ m=>(findKey key k m.1 0).bind λ r=>match r with
  |some p=>(nth m.1 p.1).bind λ e=>cond (stays e.1 k) (B1 (.undef,H.set b (.map (m.1.modify p.1 λ e=>(k,v,e.2.2)) m.2))) B5
  |none=>B1 (.undef,H.set b (.map (m.1 ++ [(k,v,m.2)]) (m.2+1)))) B5
 |_,_=>B5
def db(key:aM):List AV->ar->Option (AV×ar)
 |[.kT,k],H=>cond (cP key k) (B1 (.tuple [],H)) B5
 |[.map b,k],H=>cond (cP key k) ((H.fR b).bind λ m=>(findKey key k m.1 0).bind λ r=>match r with
  |some p=>B1 (.tuple [],H.set b (.map (m.1.eraseIdx p.1) m.2))
  |none=>B1 (.tuple [],H.set b (.map m.1 m.2))) B5
 |_,_=>B5
def eG:List AV->ar->Option (AV×ar)
 |[.ptr b 0],H=>match H.get b with
  |some (.kN s p)=>match nth s p with
   |some c=>cond (KI c.toNat 128) (B1 (.tuple [.bool B4,d9 p,.int .i32 c.toNat],H.set b (.kN s (p+1)))) B5
   |none=>B1 (.tuple [.bool B2],H)
  |_=>B5
 |_,_=>B5
def append(e size bytes:Nat):List AV->ar->Option (AV×ar)
 |[a,b],H=>(eL b).bind λ n=>(firstCells H size n b).bind λ new=>cond (aP new) (cK H e size bytes a n new) B5
 |_,_=>B5
def copy(size:Nat):List AV->ar->Option (AV×ar)
 |[.str _,_],_=>B5
 |[d,r],H=>(eL d).bind λ dn=>(eL r).bind λ rn=>(firstCells H size (min rn dn) r).bind λ l =>
  cond (FW (min rn dn) 0) (B1 (d9 0,H)) ((elemAt size d 0).bind λ p=>(H.store p.1 p.2 l).bind λ H'=>B1 (d9 (min rn dn),H'))
 |_,_=>B5
def bW(zero:List AV):List AV->ar->Option (AV×ar)
 |[.str _],_=>B5
 |[x],H=>(eL x).bind λ n=>cond (FW n 0) (B1 (.tuple [],H))
  ((elemAt zero.length x 0).bind λ p=>(H.store p.1 p.2 (fp n zero)).bind λ H'=>B1 (.tuple [],H'))
 |_,_=>B5
def bP:List AV->ar->Option (AV×ar)
 |[.kT],H=>B1 (.tuple [],H)
 |[.map b],H=>(H.fR b).bind λ m=>B1 (.tuple [],H.set b (.map [] m.2))
 |_,_=>B5
def sX(fz:Nat×Nat)(o n:Nat):Nat×Nat:=cond (FW fz.1 fz.2) (o,o+n) (min fz.1 o,max fz.2 (o+n))
def eJ:List AV->ar->Option (AV×ar)
 |[.slice b o n c],H=>match H.get b with
  |some (.row cs e fz B4)=>B1 (.slice b o n c,H.set b (.row cs e (sX fz (cF cs) 1) B4))
  |_=>B5
 |_,_=>B5
def dI(u:Nat):List AV->ar->Option (AV×ar)
 |[.nilp,.int _ k],H=>cond (rS k 0) (B1 (.str [],H)) B5
 |[.ptr b o,.int _ k],H=>cond (rS k 0) (B1 (.str [],H)) (cond (wA k 0 ||wA 140737488355328 k) B5 (match H.get b with
  |some (.row c e fz B4)=>cond (FW e u) ((fg c o k.toNat).bind λ l=>(bytesOf l).bind λ s=>B1 (.str s,H.set b (.row c e (sX fz o k.toNat) B4))) B5
  |some (.grown m z c e fz)=>cond (FW e u && Jo fz.1 fz.2) ((fg c o k.toNat).bind λ l=>(bytesOf l).bind λ s=>B1 (.str s,H.set b (.grown m z c e (sX fz o k.toNat)))) B5
  |_=>B5))
 |_,_=>B5
end Op
inductive eT where
 |pure (f:List AV->Option AV)
 |read (f:List AV->ar->Option AV)
 |alloc (f:List AV->Option (bB×(Nat->AV)))
 |fT (f:List AV->ar->Option (AV×ar))
 |gE (f:Nat)
 |gF
 |invoke (name:String)
 |recover
 |defer
 |panic
structure aL where
 gK:Bool
 dst:Option Nat
 guard:Option (Nat×Bool)
 args:List bE
 op:eT
 cq:Option (List Nat)
inductive ai where
 |skip
 |region (steps:List aL)
 |seq (a b:ai)
 |cond (c:bE) (thn els:ai)
 |block (id:Nat) (body:ai)
 |loop (ah:Option (List Nat)) (body:ai)
 |rangeFunc (f:bE) (k:Nat)
 |exit (id:Nat)
 |scope (body:ai)
 |label (l:Nat)
 |goto (l:Nat)
 |ret
 |stuck
instance:Inhabited ai:=⟨.skip⟩
structure dT where
 params:List Nat
 assign:ai
 body:ai
structure b9 where
 results:List dM
 body:ai
 loops:List dT
structure iQ where
 func:Nat->Option b9
 jB:Nat->String->Option Nat
abbrev aA:=List (AV×Bool)
structure St where
 tm:T AV
 aV:List aK
 up:Option aA
 H:ar
inductive aS where
 |normal
 |exit (id:Nat)
 |goto (l:Nat)
 |ret
 |panic (chain:aA)
inductive bF where
 |ret (v:AV)
 |panic (chain:aA)
abbrev bN:=Nat->List AV->Option aA->ar->Option (bF×Option aA×ar)
structure Ctx where
 round:Option Nat
 fn:Nat
end
end Go.Am
namespace Go.Am
noncomputable section
def Io:T AV->List Nat->List AV->Option (T AV)
 |tm,[],[]=>B1 tm
 |tm,p::ps,v::vs=>Io (tm.set p v) ps vs
 |_,_,_=>B5
def iP:Nat->List AV->T AV->T AV
 |_,[],t=>t
 |i,v::vs,t=>iP (i+1) vs (t.set i v)
def jK:aS->Option gH
 | .exit id=>B1 (.exit id)
 | .goto l=>B1 (.goto l)
 | .ret=>B1 .ret
 |_=>B5
def po:Option gH->aS
 |none=>.normal
 |some (.exit id)=>.exit id
 |some (.goto l)=>.goto l
 |some .ret=>.ret
def vC:aS->Bool
 | .normal=>B4
 |_=>B2
def PJ(tm:T AV):List Nat->T AV->T AV
 |[],acc=>acc
 |k::ks,acc=>PJ tm ks (acc.put k (tm.get k))
def forget:List Nat->T AV->T AV
 |[],t=>t
 |d::ds,t=>forget ds (t.put d B5)
def dW(dst:Option Nat)(v:AV)(tm:T AV):T AV :=
 match dst with
 |some d=>tm.set d v
 |none=>tm
structure RU where
 run:AV->T AV->T AV
def jW:Option Nat->RU
 |some d=>⟨λ v tm=>(T.zP (T.path d)).run (B1 v) tm⟩
 |none=>⟨λ _ tm=>tm⟩
abbrev fQ:=Option (aS×St)
def fP(ah:Option (List Nat))(body:St->fQ):Nat->St->fQ
 |0,_=>B5
 |n+1,st =>
  (body (match ah with|none=>st|some ks=>{st with tm:=PJ st.tm ks .nil})).bind λ r=>match r.1 with
   | .normal=>fP ah body n r.2
   |e=>B1 (e,r.2)
def CF:ai->Nat->Bool
 | .seq a b,l=>CF a l ||CF b l
 | .label l',l=>FW l' l
 |_,_=>B2
mutual
def bZ:AV->AV->Bool
 | .bool a,.bool b=>a == b
 | .int k a,.int k' b=>ry k k' && rS a b
 | .str a,.str b=>wD a b
 | .nilp,.nilp=>B4
 | .ptr a b,.ptr c d=>FW a c && FW b d
 | .nils,.nils=>B4
 | .slice a b c d,.slice a' b' c' d'=>FW a a' && FW b b' && FW c c' && FW d d'
 | .gslice a b c d e f,.gslice a' b' c' d' e' f'=>FW a a' && FW b b' && FW c c' && FW d d' && FW e e' && FW f f'
 | .eslice a,.eslice b=>FW a b
 | .kT,.kT=>B4
 | .map a,.map b=>FW a b
 | .nilf,.nilf=>B4
 | .nili,.nili=>B4
 | .fn (.func f) x a,.fn (.func g) y b=>FW f g && eC x y && eC a b
 | .fn (.yield f) x a,.fn (.yield g) y b=>FW f g && eC x y && eC a b
 | .iface t a,.iface u b=>FW t u && bZ a b
 | .agg a,.agg b=>eC a b
 | .tuple a,.tuple b=>eC a b
 |_,_=>B2
def eC:List AV->List AV->Bool
 |[],[]=>B4
 |x::xs,y::ys=>bZ x y && eC xs ys
 |_,_=>B2
end
abbrev hO:=List AV->Nat->ar->Option (bF×ar)
structure RT where
 AP:iQ
 call:bN
 round:hO
 n:Nat
 ctx:Ctx
def cC(call:bN)(round:hO)(f:kW)(args:List AV)(H:ar):Option (bF×ar) :=
 match f with
 | .func g=>(call g args B5 H).bind λ r=>B1 (r.1,r.2.2)
 | .yield l=>round args l H
def eY(put:AV->T AV->T AV)(cq:Option (List Nat))(st:St)(k:St->fQ)(r:bF×ar):fQ :=
 match r.1 with
 | .ret v=>k ⟨put v st.tm,st.aV,st.up,r.2⟩
 | .panic c=>cq.bind λ ds=>B1 (.panic c,⟨forget ds st.tm,st.aV,st.up,r.2⟩)
def Kb(put:AV->T AV->T AV)(st:St):St :=
 match st.up with
 |some ((v,B2)::older)=>⟨put v st.tm,st.aV,B1 ((v,B4)::older),st.H⟩
 |_=>⟨put .nili st.tm,st.aV,st.up,st.H⟩
def zZ(f:List AV->Option AV)(put:AV->T AV->T AV)(st:St)(k:St->fQ)(vs:List AV):fQ :=
 (f vs).bind λ v=>k ⟨put v st.tm,st.aV,st.up,st.H⟩
def zB(f:List AV->ar->Option AV)(put:AV->T AV->T AV)(st:St)(k:St->fQ)(vs:List AV):fQ :=
 (f vs st.H).bind λ v=>k ⟨put v st.tm,st.aV,st.up,st.H⟩
def sR(f:List AV->Option (bB×(Nat->AV)))(put:AV->T AV->T AV)(st:St)(k:St->fQ)(vs:List AV):fQ :=
 (f vs).bind λ r=>k ⟨put (r.2 st.H.au) st.tm,st.aV,st.up,st.H.alloc r.1⟩
def HX(f:List AV->ar->Option (AV×ar))(put:AV->T AV->T AV)(st:St)(k:St->fQ)(vs:List AV):fQ :=
 (f vs st.H).bind λ r=>k ⟨put r.1 st.tm,st.aV,st.up,r.2⟩
def Bk(f:Nat)(rt:RT)(put:AV->T AV->T AV)(cq:Option (List Nat))(st:St)(k:St->fQ)(vs:List AV):fQ :=
 (cC rt.call rt.round (.func f) vs st.H).bind λ r=>eY put cq st k r
def xY(rt:RT)(put:AV->T AV->T AV)(cq:Option (List Nat))(st:St)(k:St->fQ)(vs:List AV):fQ :=
 match vs with
 | .fn (.func f) first cap::args=>(cC rt.call rt.round (.func f) (first++(args++cap)) st.H).bind λ r=>eY put cq st k r
 | .fn (.yield l) first []::args=>(cC rt.call rt.round (.yield l) (first++args) st.H).bind λ r=>eY put cq st k r
 |_=>B5
def qQ(name:String)(rt:RT)(put:AV->T AV->T AV)(cq:Option (List Nat))(st:St)(k:St->fQ)(vs:List AV):fQ :=
 match vs with
 | .iface t v::args=>(rt.AP.jB t name).bind λ f=>(cC rt.call rt.round (.func f) (v::args) st.H).bind λ r=>eY put cq st k r
 |_=>B5
def NK(rt:RT)(put:AV->T AV->T AV)(st:St)(k:St->fQ)(vs:List AV):fQ :=
 match rt.ctx.round with
 |some _=>B5
 |none=>match vs with
  |[]=>k (Kb put st)
  |_=>B5
def sM(rt:RT)(put:AV->T AV->T AV)(st:St)(k:St->fQ)(vs:List AV):fQ :=
 match rt.ctx.round with
 |some _=>B5
 |none=>match vs with
  | .fn (.func f) first cap::args=>k ⟨put .undef st.tm,.fn (.func f) (first++(args++cap))::st.aV,st.up,st.H⟩
  |_=>B5
def tR(put:AV->T AV->T AV)(cq:Option (List Nat))(st:St)(k:St->fQ)(vs:List AV):fQ :=
 match vs with
 |[.iface t v]=>eY put cq st k (.panic [(.iface t v,B2)],st.H)
 |_=>B5
structure Y_ where
 run:RT->St->(St->fQ)->List AV->fQ
def pE(put:AV->T AV->T AV)(cq:Option (List Nat)):eT->Y_
 | .pure f=>⟨λ _ st k vs=>zZ f put st k vs⟩
 | .read f=>⟨λ _ st k vs=>zB f put st k vs⟩
 | .alloc f=>⟨λ _ st k vs=>sR f put st k vs⟩
 | .fT f=>⟨λ _ st k vs=>HX f put st k vs⟩
 | .gE f=>⟨λ rt st k vs=>Bk f rt put cq st k vs⟩
 | .gF=>⟨λ rt st k vs=>xY rt put cq st k vs⟩
 | .invoke name=>⟨λ rt st k vs=>qQ name rt put cq st k vs⟩
 | .recover=>⟨λ rt st k vs=>NK rt put st k vs⟩
 | .defer=>⟨λ rt st k vs=>sM rt put st k vs⟩
 | .panic=>⟨λ _ st k vs=>tR put cq st k vs⟩
def pC(get:T AV->Option AV)(st:St)(vs:List AV):eT->Bool
 | .read f=>match f vs st.H,get st.tm with
  |some v,B1 v'=>bZ v v'
  |_,_=>B2
 |_=>B2
def cJ(b:Bool):Option AV->Option Bool
 |some (.bool q)=>B1 (cond q b (!b))
 |some (.tuple [])=>B1 B2
 |_=>B5
structure J4 where
 run:RT->(St->fQ)->St->fQ
def fV(s:aL):J4 :=
 match s.gK with
 |false=>match s.guard with
  |none=>⟨λ rt k st=>((rL s.args).run st.tm).bind λ vs=>(pE (jW s.dst).run s.cq s.op).run rt st k vs⟩
  |some g=>⟨λ rt k st=>(cJ g.2 ((T.mP (T.path g.1)).run st.tm)).bind λ w =>
   cond w (((rL s.args).run st.tm).bind λ vs=>(pE (jW s.dst).run s.cq s.op).run rt st k vs) (k ⟨(jW s.dst).run .undef st.tm,st.aV,st.up,st.H⟩)⟩
 |true=>match s.guard,s.dst with
  |none,B1 d=>⟨λ _ k st=>((rL s.args).run st.tm).bind λ vs=>cond (pC (T.mP (T.path d)).run st vs s.op) (k st) B5⟩
  |some g,B1 d=>⟨λ _ k st=>(cJ g.2 ((T.mP (T.path g.1)).run st.tm)).bind λ w =>
   cond w (((rL s.args).run st.tm).bind λ vs=>cond (pC (T.mP (T.path d)).run st vs s.op) (k st) B5) (k st)⟩
  |_,B5=>⟨λ _ _ _=>B5⟩
structure Fo where
 run:RT->St->fQ
def gh:List aL->Fo
 |[]=>⟨λ _ st=>B1 (.normal,st)⟩
 |s::rest=>⟨λ rt st=>(fV s).run rt ((gh rest).run rt) st⟩
def cA(H:ar)(l:Nat)(s:lP)(p:Option gH):Option ar :=
 match H.get l with
 |some (.loop _ _ f k tm d)=>B1 (H.set l (.loop s p f k tm d))
 |_=>B5
def yD(H:ar)(l:Nat):Option Nat :=
 match H.get l with
 |some (.loop _ _ _ _ _ d)=>B1 d
 |_=>B5
def IP(st:St)(aV:List aK)(l:Nat)(e:bF)(H:ar):fQ :=
 match e with
 | .panic c=>B1 (.panic c,{st with aV:=aV,H:=H})
 | .ret _=>match H.get l with
  |some (.loop .busy _ _ _ _ _)=>B5
  |some (.loop _ p f k tm d)=>B1 (po p,{st with aV:=aV,H:=H.set l (.loop .exhausted p f k tm d)})
  |_=>B5
def ik(call:bN)(round:hO)(ctx:Ctx)(st:St)(k:Nat)(H0:ar)(aV:List aK)(d:Nat):AV->fQ
 | .fn (.func g) first cap =>
  (cC call round (.func g) (first++(.fn (.yield H0.au) [] []::cap)) (H0.alloc (.loop .ready B5 ctx.fn k st.tm d))).bind λ r =>
   IP st aV H0.au r.1 r.2
 |_=>B5
def rE(next:RT->St->fQ)(rt:RT)(r:aS×St):fQ :=
 match r.1 with
 | .normal=>next rt r.2
 |e=>B1 (e,r.2)
def rO(a b:RT->St->fQ)(rt:RT)(st:St)(v:AV):fQ :=
 match v with
 | .bool q=>cond q (a rt st) (b rt st)
 |_=>B5
def jC(id:Nat)(r:aS×St):fQ :=
 match r.1 with
 | .exit id'=>B1 (cond (FW id id') .normal (.exit id'),r.2)
 |e=>B1 (e,r.2)
def kK(b:ai)(r:aS×St):fQ :=
 match r.1 with
 | .goto l=>cond (CF b l) B5 (B1 (.goto l,r.2))
 |e=>B1 (e,r.2)
def pI(rt:RT)(k:Nat)(st:St)(v:AV):fQ :=
 match rt.ctx.round with
 |none=>ik rt.call rt.round rt.ctx st k (st.H.alloc (.deferred (B1 []))) (.im st.H.au::st.aV) st.H.au v
 |some l=>(yD st.H l).bind λ d=>ik rt.call rt.round rt.ctx st k st.H st.aV d v
def bC:ai->Fo
 | .skip=>⟨λ _ st=>B1 (.normal,st)⟩
 | .label _=>⟨λ _ st=>B1 (.normal,st)⟩
 | .region steps=>gh steps
 | .seq a b=>⟨λ rt st=>((bC a).run rt st).bind (rE (bC b).run rt)⟩
 | .cond c a b=>⟨λ rt st=>((JC c).run st.tm).bind (rO (bC a).run (bC b).run rt st)⟩
 | .block id b=>⟨λ rt st=>((bC b).run rt st).bind (jC id)⟩
 | .loop ah b=>⟨λ rt st=>fP ah ((bC b).run rt) rt.n st⟩
 | .exit id=>⟨λ _ st=>B1 (.exit id,st)⟩
 | .goto l=>⟨λ _ st=>B1 (.goto l,st)⟩
 | .ret=>⟨λ _ st=>B1 (.ret,st)⟩
 | .stuck=>⟨λ _ _=>B5⟩
 | .scope b=>⟨λ rt st=>((bC b).run rt st).bind (kK b)⟩
 | .rangeFunc f k=>⟨λ rt st=>((JC f).run st.tm).bind (pI rt k st)⟩
def exec(AP:iQ)(call:bN)(round:hO)(n:Nat)(ctx:Ctx)(c:ai)(st:St):fQ:=(bC c).run ⟨AP,call,round,n,ctx⟩ st
def DZ(l:Nat)(r:aS×St):Option (bF×ar) :=
 match r.1 with
 | .panic c=>B1 (.panic c,r.2.H)
 |e=>(cA r.2.H l (cond (vC e) .ready .done) (jK e)).bind λ H=>B1 (.ret (.bool (vC e)),H)
def beginRound(H:ar)(l:Nat):Option ar :=
 match H.get l with
 |some (.loop .ready p f k tm d)=>B1 (H.set l (.loop .busy p f k tm d))
 |_=>B5
def roundOf(AP:iQ)(ex:Ctx->ai->St->fQ)(args:List AV)(l:Nat)(H:ar):Option (bF×ar) :=
 match H.get l with
 |some (.loop _ _ f k tm _) =>
  (AP.func f).bind λ fn=>(nth fn.loops k).bind λ lp=>(Io tm lp.params args).bind λ tm1 =>
  (ex ⟨B1 l,f⟩ lp.assign {tm:=tm1,aV:=[],up:=B5,H:=H}).bind λ r=>match r.1 with
   | .normal=>(beginRound r.2.H l).bind λ H2=>(ex ⟨B1 l,f⟩ lp.body {r.2 with H:=H2}).bind λ q=>cond (noDefs q.2.aV) (DZ l q) B5
   |_=>B5
 |_=>B5
 where noDefs:List aK->Bool
 |[]=>B4
 |_=>B2
def Jq(H:ar)(tm:T AV):dM->Option AV
 | .tmp t=>tm.get t
 | .jL a=>(tm.get a).bind λ v=>match v with| .ptr b o=>H.ae b o|_=>B5
 | .dq n a=>(tm.get a).bind λ v=>match v with| .ptr b o=>(H.av b o n).bind λ l=>B1 (.agg l)|_=>B5
def dD(H:ar)(tm:T AV):List dM->Option (List AV)
 |[]=>B1 []
 |r::rs=>(Jq H tm r).bind λ v=>(dD H tm rs).bind λ vs=>B1 (v::vs)
def iF:List AV->AV
 |[v]=>v
 |l=>.tuple l
def mi(m:Option aA)(up:aA):Option (Option aA) :=
 match m,up with
 |none,[]=>B1 B5
 |some _,(_,B4)::_=>B1 B5
 |some _,(v,B2)::c=>B1 (B1 ((v,B2)::c))
 |_,_=>B5
def bV(call:bN)(rs:List dM)(tm:T AV):List aK->Option aA->ar->Option (bF×ar)
 |[],B5,H=>(dD H tm rs).bind λ l=>B1 (.ret (iF l),H)
 |[],B1 c,H=>B1 (.panic c,H)
 | .im b::ds,m,H=>match H.get b with
  |some (.deferred (B1 []))=>bV call rs tm ds m (H.set b (.deferred B5))
  |_=>B5
 | .fn (.func f) args::ds,m,H=>(call f args (B1 (m.getD [])) H).bind λ r =>
  match r.1,r.2.1 with
  | .ret _,B1 up'=>(mi m up').bind λ m'=>bV call rs tm ds m' r.2.2
  |_,_=>B5
 | .fn (.yield _) _::_,_,_=>B5
def oK(call:bN)(fn:b9)(r:aS×St):Option (bF×Option aA×ar) :=
 let fin (m:Option aA):Option (bF×Option aA×ar):=(bV call fn.results r.2.tm r.2.aV m r.2.H).bind λ q=>B1 (q.1,r.2.up,q.2)
 match r.1 with
 | .normal=>fin B5
 | .ret=>fin B5
 | .panic c=>fin (B1 c)
 |_=>B5
def rounds(AP:iQ)(call:bN)(m:Nat):Nat->hO
 |0=>λ _ _ _=>B5
 |n+1=>roundOf AP (exec AP call (rounds AP call m n) m)
def EG(AP:iQ)(call:bN)(n:Nat):bN:=λ f args up H =>
 (AP.func f).bind λ fn =>
  (exec AP call (rounds AP call n n) n ⟨B5,f⟩ fn.body {tm:=iP 0 args .nil,aV:=[],up:=up,H:=H}).bind λ r =>
   oK call fn r
def Bi(AP:iQ):Nat->bN
 |0=>λ _ _ _ _=>B5
 |n+1=>EG AP (Bi AP n) n
def iZ(AP:iQ)(told:bN):Nat->bN
 |0=>told
 |n+1=>λ f args up H=>match told f args up H with
  |some r=>B1 r
  |none=>EG AP (iZ AP told n) n f args up H
end
end Go.Am
namespace Go.Am
noncomputable section
mutual
def fq:Hm->Option AV
 | .bool b=>B1 (.bool b)
 | .int k n=>B1 (.int k n)
 | .string s=>B1 (.str s.data.toList)
 | .pointer B5=>B1 .nilp
 | .slice B5 0 0=>B1 .nils
 | .map B5=>B1 .kT
 | .nilFunc=>B1 .nilf
 | .nilIface=>B1 .nili
 | .iface t v=>(fq v).bind λ x=>B1 (.iface t x)
 | .agg cs=>(mh cs.toList).bind λ l=>B1 (.agg l)
 | .tuple cs=>(mh cs.toList).bind λ l=>B1 (.tuple l)
 |_=>B5
def mh:List Hm->Option (List AV)
 |[]=>B1 []
 |v::vs=>(fq v).bind λ x=>(mh vs).bind λ xs=>B1 (x::xs)
end
def pJ(G:Nat):IY->Option bE
 | .tmp t=>B1 (.tmp t)
 | .const v=>(fq v).bind λ x=>B1 (.const x)
 | .global g=>if KI g G then B1 (.dV g)else B5
 | .func f=>B1 (.func f)
def mH(G:Nat):List IY->Option (List bE)
 |[]=>B1 []
 |x::xs=>(pJ G x).bind λ y=>(mH G xs).bind λ ys=>B1 (y::ys)
def zeroOf(P:Fv)(t:IV):Option AV:=((P.info? t).bind (·.zero)).bind fq
def bL(P:Fv)(t:IV):Option Nat:=(P.info? t).bind λ i=>B1 i.size
def lJ(P:Fv)(t:IV):Option Nat:=(P.info? t).bind λ i=>B1 i.bytes
def lY(P:Fv)(t:IV):Option (Option Nat) :=
 match P.underlying t with
 |some (.struct _)|some (.array _ _)=>(bL P t).bind λ n=>B1 (B1 n)
 |some _=>B1 B5
 |none=>B5
def dc(P:Fv):Nat->IV->Option aM
 |0,_=>B5
 |d+1,t=>match P.underlying t with
  |some (.int _)=>B1 .int
  |some .string=>B1 .str
  |some .bool=>B1 .bool
  |some (.struct fs)=>if P.stoodInHeld t then B5 else fieldsT (dc P d) fs.toList
  |some (.array n e)=>(bL P e).bind λ s=>(lY P e).bind λ a=>(dc P d e).bind λ q=>B1 (itemsT s a q n 0)
  |_=>B5
 where
 fieldsT (go:IV->Option aM):List Field->Option aM
  |[]=>B1 .nil
  |f::fs=>if f.name = "_" then B5 else(lY P f.type).bind λ a=>(go f.type).bind λ q=>(fieldsT go fs).bind λ r=>B1 (.part f.offset a q r)
 itemsT (s:Nat) (a:Option Nat) (q:aM):Nat->Nat->aM
  |0,_=>.nil
  |n+1,i=>.part (i*s) a q (itemsT s a q n (i+1))
def nT(P:Fv)(t:IV):Option aM:=dc P 20 t
def fL:Nat->List (Option IY)->List (Option Nat)
 |_,[]=>[]
 |n,B5::r=>B5::fL n r
 |n,B1 _::r=>B1 n::fL (n+1) r
def jA:List (Option IY)->List IY
 |[]=>[]
 |none::r=>jA r
 |some x::r=>x::jA r
def Ad(pl:Nat->Option (Nat×Nat)):List (Nat×IY)->Option (List (Nat×Nat))
 |[]=>B1 []
 |(i,_)::r=>(pl i).bind λ p=>(Ad pl r).bind λ l=>B1 (p::l)
def IM(P:Fv)(fs:Array Field)(i:Nat):Option (Nat×Nat):=(fs[i]?).bind λ f=>(bL P f.type).bind λ n=>B1 (f.offset,n)
def Ij(n:Nat)(i:Nat):Option (Nat×Nat):=B1 (i*n,n)
def UE(P:Fv)(b:Builtin)(ts:Array IV)(args:List IY):Option (List IY×eT) :=
 match b with
 | .len=>match(ts[0]?).bind P.underlying with
  |some (.slice _)=>B1 (args,.pure Op.dg)
  |_=>B5
 | .append=>match ts.toList with
  |[t,tx]=>match P.underlying t,P.underlying tx with
   |some (.slice e),B1 (.slice _)=>(bL P e).bind λ n=>(lJ P e).bind λ z=>(zeroOf P e).bind λ zv=>if zv.cells.length=n then B1 (args,.fT (Op.append e n z))else B5
   |_,_=>B5
  |_=>B5
 | .min=>B1 (args,.pure (Op.eN B2))
 | .clear=>match(ts[0]?).bind P.underlying with
  |some (.slice e)=>(zeroOf P e).bind λ z=>B1 (args,.fT (Op.bW z.cells))
  |some (.map _ _)=>B1 (args,.fT Op.bP)
  |_=>B5
 | .recover=>B1 (args,.recover)
 | .panic=>B1 (args,.panic)
 |_=>B5
def Gf(_P:Fv)(fn:Func)(args:List IY):Option (List IY×eT) :=
 if fn.origin != "" then B5
 else if fn.name == "internal/bytealg.IndexByteString" then B1 (args,.pure Op.aB)
 else B5
def BV(P:Fv)(src dst:IV)(x:IY):Option (List IY×eT) :=
 match P.underlying src,P.underlying dst with
 |some (.int _),B1 (.int k)=>B1 ([x],.pure (Op.wrap k))
 |_,_=>B5
def I8(P:Fv):Nat->IV->Bool
 |0,_=>B4
 |d+1,t=>match P.underlying t with
  |some (.interface ms)=>!ms.isEmpty
  |some (.struct fs)=>fs.toList.any λ f=>f.name != "_" && I8 P d f.type
  |some (.array _ e)=>I8 P d e
  |_=>B2
def UF(P:Fv):∀(d:Nat)(t:IV),I8 P d t=P.eqGuardType d t
 |0,_=>rfl
 |d+1,t=>by
  rw[I8,Fv.eqGuardType];cases P.underlying t with
  |none=>rfl
  |some u =>
   cases u with
   |struct fs =>
    show fs.toList.any _=fs.any _;rw[<-Array.any_toList];congr 1;funext f;rw[UF P d]
   |array _ e=>exact UF P d e
   |_=>rfl
def DL(P:Fv)(t:IV)(x y:IY):Option tC :=
 match P.underlying t with
 |some .bool=>B1 .bool
 |some (.pointer e)=>match bL P e with
  |some (_+1)=>B1 .ptr
  |_=>B5
 |some (.slice _)=>B1 .slice
 |some (.map _ _)=>B1 .map
 |some (.func _ _ _)=>B1 .func
 |some (.interface _)=>match x,y with
  | .const .nilIface,_=>B1 .iface
  |_,.const .nilIface=>B1 .iface
  |_,_=>B1 (.ifaces λ u=>(P.info? u).bind λ i=>if i.comparable then dc P 20 u else B5)
 |some (.struct _)=>if I8 P P.depth t then B5 else(dc P 20 t).bind λ q=>B1 (.agg q)
 |some (.array _ _)=>if I8 P P.depth t then B5 else(dc P 20 t).bind λ q=>B1 (.agg q)
 |_=>B5
def IG(P:Fv)(op:BinOp)(t:IV)(x y:IY):Option (List IY×eT) :=
 match P.underlying t with
 |some (.int _)=>B1 ([x,y],.pure (Op.bin op))
 |some .string=>B1 ([x,y],.pure (Op.bin op))
 |_=>match op with
  | .eql=>(DL P t x y).bind λ k=>B1 ([x,y],.read (Op.eq k B2))
  | .neq=>(DL P t x y).bind λ k=>B1 ([x,y],.read (Op.eq k B4))
  |_=>B5
def Bl(P:Fv)(c:Call):Option (List IY×eT) :=
 match c.callee with
 | .value (.func f)=>(P.funcs[f]?).bind λ fn =>
  match fn.body with
  |some _=>B1 (c.args.toList,.gE f)
  |none=>Gf P fn c.args.toList
 | .value f=>B1 (f::c.args.toList,.gF)
 | .invoke r m=>B1 (r::c.args.toList,.invoke m)
 | .builtin b=>UE P b c.argTypes c.args.toList
def J7(P:Fv)(op:BJ):Option (List IY×eT) :=
 match op with
 | .move x=>B1 ([x],.pure Op.move)
 | .assign x=>B1 ([x],.pure Op.move)
 | .pick c a b=>B1 ([c,a,b],.pure Op.pick)
 | .alloc e=>(zeroOf P e).bind λ z=>B1 ([],.alloc (Op.alloc e z.cells))
 | .box e x=>B1 ([x],.alloc (Op.box e))
 | .build t parts=>(zeroOf P t).bind λ z =>
  match P.underlying t with
  |some (.struct fs)=>if fs.toList.all (λ f=>(bL P f.type).isSome)then(Ad (IM P fs) parts.toList).bind λ ps=>B1 (parts.toList.map (·.2),.pure (Op.build z.cells ps))else B5
  |some (.array _ e)=>(bL P e).bind λ n=>(Ad (Ij n) parts.toList).bind λ ps=>B1 (parts.toList.map (·.2),.pure (Op.build z.cells ps))
  |_=>B5
 | .buildSlice t len parts =>
  match P.underlying t with
  |some (.slice e)=>(bL P e).bind λ n=>(zeroOf P e).bind λ z=>(Ad (Ij n) parts.toList).bind λ ps=>if z.cells.length=n/\len*n<=16777216 then B1 (parts.toList.map (·.2),.alloc (Op.buildSlice e len z.cells ps))else B5
  |_=>B5
 | .load t a=>(lY P t).bind λ r=>match r with
  |none=>B1 ([a],.read Op.ae)
  |some n=>B1 ([a],.read (Op.av n))
 | .store t a x=>(bL P t).bind λ n=>B1 ([a,x],.fT (Op.store n))
 | .nilCheck x=>B1 ([x],.pure Op.nilCheck)
 | .binOp op t x y _=>IG P op t x y
 | .unOp op _ x=>B1 ([x],.pure (Op.un op))
 | .convert src dst x=>BV P src dst x
 | .makeInterface t x=>match P.underlying t with
  |some (.interface _)=>B5
  |some _=>B1 ([x],.pure (Op.dm t))
  |none=>B5
 | .makeFunc (.func f) a b=>B1 (a.toList++b.toList,.pure (Op.bS f a.size))
 | .makeMap _ B5=>B1 ([],.alloc Op.mkMap)
 | .makeMap t (B1 (.const (.int _ _)))=>match P.underlying t with
  |some (.map _ _)=>B1 ([],.alloc Op.mkMap)
  |_=>B5
 | .makeSlice t l c =>
  match P.underlying t with
  |some (.slice e)=>(lJ P e).bind λ b=>(zeroOf P e).bind λ z=>(bL P e).bind λ n=>if z.cells.length=n then B1 ([l,c],.alloc (Op.mkSlice e b z.cells))else B5
  |_=>B5
 | .slice t x lo hi mx =>
  match P.underlying t with
  |some (.slice e)=>(bL P e).bind λ n=>B1 (x::jA [lo,hi,mx],.pure (Op.aJ n (fL 0 [lo,hi,mx])))
  |some (.array k e)=>(bL P e).bind λ n=>B1 (x::jA [lo,hi,mx],.pure (Op.cG k n (fL 0 [lo,hi,mx])))
  |_=>B5
 | .fieldAddr t x i =>
  match P.underlying t with
  |some (.struct fs)=>(fs[i]?).bind λ f=>(bL P f.type).bind λ n=>if n == 0 then B5 else B1 ([x],.pure (Op.fieldAddr f.offset))
  |_=>B5
 | .indexAddr t x i =>
  match P.underlying t with
  |some (.slice e)=>(bL P e).bind λ n=>B1 ([x,i],.pure (Op.aN n))
  |some (.array k e)=>(bL P e).bind λ n=>B1 ([x,i],.pure (Op.aW k n))
  |_=>B5
 | .index t x i =>
  match P.underlying t with
  |some .string=>B1 ([x,i],.pure Op.bK)
  |some (.array k e)=>(bL P e).bind λ n=>(lY P e).bind λ a=>B1 ([x,i],.pure (Op.bD k n a))
  |_=>B5
 | .lookup t m k ok =>
  match P.underlying t with
  |some (.map kt e)=>(nT P kt).bind λ key=>(zeroOf P e).bind λ z=>B1 ([m,k],.read (Op.lookup key z ok))
  |_=>B5
 | .mapUpdate t m k v =>
  match P.underlying t with
  |some (.map kt _)=>(nT P kt).bind λ key=>B1 ([m,k,v],.fT (Op.mapUpdate key))
  |_=>B5
 | .insert t m k v =>
  match P.underlying t with
  |some (.map kt _)=>(nT P kt).bind λ key=>B1 ([m,k,v],.fT (Op.mapUpdate key))
  |_=>B5
 | .extract x i=>B1 ([x],.pure (Op.extract i))
 | .call c=>Bl P c
 | .defer c=>match c.callee with
  | .value f=>B1 (f::c.args.toList,.defer)
  |_=>B5
 | .panic x=>B1 ([x],.panic)
 |_=>B5
def fE(P:Fv)(o:KW):Option (List bE×eT) :=
 match(J7 P o.op).bind λ r=>(mH P.globals.size r.1).bind λ args=>B1 (args,r.2)with
 |some r=>B1 r
 |none=>B1 ([],.pure Op.fail)
inductive Hq where
 |pure|read|alloc|fT
 deriving DecidableEq
def oX:eT->Hq
 | .pure _=>.pure
 | .read _=>.read
 | .alloc _=>.alloc
 |_=>.fT
def lR(cls:Nat->Hq)(fA:Nat->Nat)(n:Nat):Nat->Nat->List (Bool×Nat)->List (Bool×Nat)
 |0,_,acc=>acc.reverse
 |fuel+1,done,acc =>
  let ready (i:Nat):Bool:=!done.testBit i && (fA i &&& done) == fA i
  let todo:=(Ig n).filter λ i=>!done.testBit i
  match todo.find? (λ i=>ready i && (cls i == .pure ||cls i == .read))with
  |some i=>lR cls fA n fuel (done |||2 ^ i) ((B2,i)::acc)
  |none =>
   -- the next effect: the first one (effects are in a row)
   match todo.find? (λ i=>cls i == .fT)with
   |some e =>
    if ready e then
     let again:=(acc.reverse.filter λ q=>!q.1 && cls q.2 == .read && !(fA e).testBit q.2).map λ q=>(B4,q.2)
     lR cls fA n fuel (done |||2 ^ e) (again.reverse++((B2,e)::acc))
    else match todo.find? (λ i=>ready i && (fA e).testBit i)with
     |some i=>lR cls fA n fuel (done |||2 ^ i) ((B2,i)::acc)
     |none=>acc.reverse
   |none=>match todo.find? ready with
    |some i=>lR cls fA n fuel (done |||2 ^ i) ((B2,i)::acc)
    |none=>acc.reverse
def cS{α:Type}:List (Option α)->Option (List α)
 |[]=>B1 []
 |x::xs=>x.bind λ a=>(cS xs).bind λ l=>B1 (a::l)
def guardOf(ops:Array KW):Option (Nat×Bool)->Option (Option (Nat×Bool))
 |none=>B1 B5
 |some g=>((ops[g.1]?).bind (·.dst)).bind λ t=>B1 (B1 (t,g.2))
def iE(ops:Array KW)(l:List (List bE×eT))(safe:Nat->Option (List Nat))(q:Bool×Nat):Option aL :=
 (ops[q.2]?).bind λ o=>(l[q.2]?).bind λ a=>(guardOf ops o.guard).bind λ g =>
  B1 {gK:=q.1,dst:=o.dst,guard:=g,args:=a.1,op:=a.2,cq:=safe q.2}
def nG(nt:Nat)(o:KW):Bool :=
 match o.dst with
 |none=>B4
 |some d=>KI d nt
def oH(a b:Nat):Bool:=FW (Nat.land a b) a
def bitsOf:List (Bool×Nat)->Nat->Nat
 |[],d=>d
 |(B4,_)::l,d=>bitsOf l d
 |(B2,i)::l,d=>bitsOf l (Nat.lor d (2 ^ i))
def mz:List (Bool×Nat)->Nat->Nat
 |(B4,r)::l,d=>mz l (Nat.lor d (2 ^ r))
 |_,d=>d
def oT(c d:Hq):Bool:=match c,d with
 | .pure,.pure=>B4
 | .read,.read=>B4
 | .alloc,.alloc=>B4
 | .fT,.fT=>B4
 |_,_=>B2
def iA(p:Nat->Bool):Nat->Nat
 |0=>0
 |n+1=>cond (p n) (Nat.lor (iA p n) (2 ^ n)) (iA p n)
structure kZ where
 n:Nat
 fA:Nat->Nat
 cls:Nat->Hq
 iS:Nat->Nat->Bool
 self:Nat->Bool
 made:Nat
 reads:Nat
def I5(I:kZ)(done:Nat)(post:List (Bool×Nat)):Bool×Nat->Bool
 |(B2,i)=>KI i I.n && (!done.testBit i && (oH (I.fA i) done && (match I.cls i with
  | .read=>oH (Nat.land done I.made) (I.fA i)
  | .fT=>oH (Nat.land done I.made) (I.fA i) && oH (Nat.land done I.reads) (Nat.lor (I.fA i) (mz post 0))
  |_=>B4)))
 |(B4,r)=>oT (I.cls r) .read && (I.self r && (done.testBit r && oH (Nat.land done (iA (λ w=>!Nat.beq w r && I.iS r w) I.n)) (I.fA r)))
def Ho(I:kZ):List (Bool×Nat)->Nat->Bool
 |[],done=>oH (2 ^ I.n-1) done
 |(B2,i)::post,done=>I5 I done post (B2,i) && Ho I post (Nat.lor done (2 ^ i))
 |(B4,r)::post,done=>I5 I done post (B4,r) && Ho I post done
def qC(p:Nat->Bool):Nat->Bool
 |0=>B4
 |n+1=>p n && qC p n
def uD(I:kZ):Bool:=qC (λ r=>qC (λ w=>FW r w ||((I.fA r).testBit w ||((I.fA w).testBit r ||!I.iS r w))) I.n) I.n
def tmpsOf:List bE->List Nat
 |[]=>[]
 | .tmp t::l=>t::tmpsOf l
 |_::l=>tmpsOf l
def mW(t:Nat):List Nat->Bool
 |[]=>B2
 |x::l=>FW x t ||mW t l
def hJ(ops:Array KW)(l:List (List bE×eT))(r:Nat):List Nat :=
 match ops[r]?,l[r]? with
 |some o,B1 a=>(match guardOf ops o.guard with|some (B1 g)=>[g.1]|_=>[])++tmpsOf a.1
 |_,_=>[]
def gD(ops:Array KW)(w:Nat):Option Nat:=(ops[w]?).bind (·.dst)
def fN(ops:Array KW)(l:List (List bE×eT))(r:Nat):List Nat :=
 (match gD ops r with|some d=>[d]|none=>[])++hJ ops l r
def yL(ops:Array KW)(l:List (List bE×eT))(r w:Nat):Bool :=
 match gD ops w with
 |some t=>mW t (fN ops l r)
 |none=>B2
def Bg(ops:Array KW)(l:List (List bE×eT))(r:Nat):Bool :=
 match gD ops r with
 |some t=>!mW t (hJ ops l r)
 |none=>B4
def mq(l:List (List bE×eT))(i:Nat):Hq:=oX ((l[i]?.getD ([],.recover)).2)
def tE(c:Hq):Bool:=oT c .alloc ||oT c .fT
def aQ(ops:Array KW)(l:List (List bE×eT)):kZ :=
 {n:=ops.size,fA:=λ i=>(Av ops).getD i 0,cls:=mq l,iS:=yL ops l,self:=Bg ops l,made:=iA (λ i=>tE (mq l i)) ops.size,reads:=iA (λ i=>oT (mq l i) .read) ops.size}
def r9(i:Nat):List (Bool×Nat)->List (Bool×Nat)
 |[]=>[]
 |(c,j)::l=>cond (!c && FW j i) [] ((c,j)::r9 i l)
def Jb(ops:Array KW)(I:kZ)(plan:List (Bool×Nat))(i:Nat):Option (List Nat) :=
 let d:=bitsOf (r9 i plan) 0
 cond (qC (λ j=>FW j i ||(d.testBit j ||(I.fA j).testBit i)) I.n) (B1 (ops.toList.filterMap (·.dst))) B5
def gZ(P:Fv)(nt:Nat)(ops:Array KW)(draw:Bool):Option ai :=
 if ops.toList.all (nG nt)then
 (cS (ops.toList.map (fE P))).bind λ l =>
  if draw then
   let I:=aQ ops l
   let plan:=lR I.cls I.fA ops.size (2*ops.size) 0 []
   cond (Ho I plan 0 && uD I) ((cS (plan.map (iE ops l (Jb ops I plan)))).bind λ steps=>B1 (.region steps)) (B1 .stuck)
  else(cS ((Ig ops.size).map λ i=>iE ops l (λ _=>B1 []) (B2,i))).bind λ steps=>B1 (.region steps)
 else B5
def bY(P:Fv)(nt:Nat):Nat->Code->Option (ai×List dT)
 |_,.skip=>B1 (.skip,[])
 |_,.region _ ops draw=>(gZ P nt ops draw).bind λ c=>B1 (c,[])
 |k,.seq a b=>(bY P nt k a).bind λ a=>(bY P nt (k+a.2.length) b).bind λ b=>B1 (.seq a.1 b.1,a.2++b.2)
 |k,.cond c a b=>(pJ P.globals.size c).bind λ c=>(bY P nt k a).bind λ a=>(bY P nt (k+a.2.length) b).bind λ b=>B1 (.cond c a.1 b.1,a.2++b.2)
 |k,.block id b=>(bY P nt k b).bind λ b=>B1 (.block id b.1,b.2)
 |k,.loop b=>(bY P nt k b).bind λ b=>B1 (.loop B5 b.1,b.2)
 |k,.rangeFunc f ps a b=>(pJ P.globals.size f).bind λ f=>(bY P nt (k+1) a).bind λ a=>(bY P nt (k+1+a.2.length) b).bind λ b =>
  if ps.toList.all λ p=>KI p nt then B1 (.rangeFunc f k,{params:=ps.toList,assign:=a.1,body:=b.1}::(a.2++b.2))else B5
 |_,.exit id=>B1 (.exit id,[])
 |k,.scope b=>(bY P nt k b).bind λ b=>B1 (.scope b.1,b.2)
 |_,.label l=>B1 (.label l,[])
 |_,.goto l=>B1 (.goto l,[])
 |_,.ret=>B1 (.ret,[])
 |_,.refuse _=>B1 (.stuck,[])
def pL(P:Fv):List ResultVar->Option (List dM)
 |[]=>B1 []
 | .tmp t::r=>(pL P r).bind λ l=>B1 (.tmp t::l)
 | .cell a t::r=>(lY P t).bind λ n=>(pL P r).bind λ l=>B1 ((match n with|none=>.jL a|some n=>.dq n a)::l)
def rT(P:Fv)(fn:Func):Option b9 :=
 fn.body.bind λ b=>(bY P fn.ntmps 0 b).bind λ c=>(pL P fn.results.toList).bind λ r=>B1 {results:=r,body:=c.1,loops:=c.2}
def uw(P:Fv)(t:IV)(name:String):Option Nat :=
 (P.info? t).bind λ i=>(i.methods.find? (·.name == name)).bind λ m =>
  if !m.path.isEmpty then B5 else m.func.bind λ p =>
   match P.underlying t,p.2 with
   |none,_=>B5
   |some (.pointer _),B4=>B1 p.1
   |some (.pointer _),B2=>B5
   |some _,B4=>B5
   |some _,B2=>B1 p.1
def aU(P:Fv):iQ:={func:=λ f=>(P.funcs[f]?).bind (rT P),jB:=uw P}
end
end Go.Am
namespace Go.Am
namespace T
variable{α:Type}
def go_eq(f:Nat):∀(g i:Nat),i<=f->i<=g->path.go f i=path.go g i:=by
 induction f with
 |zero=>intro g i a hg;obtain rfl:i=0:=by omega
        cases g<;>simp[path.go]
 |succ f ih =>
  intro g i a hg;cases i with
  |zero=>grind
  |succ n =>
   cases g with
   |zero=>omega
   |succ g =>
    simp only[path.go];have h:n / 2<=n:=Nat.div_le_self n 2;congr 1;exact ih g (n / 2) (by omega) (by omega)
theorem xgy:path 0=[]:=rfl
theorem R7(n:Nat):path (n+1)=FW (n % 2) 0::path (n / 2):=by
 show path.go (n+1) (n+1)=_;simp only[path.go];have h:n / 2<=n:=Nat.div_le_self n 2;exact congrArg (FW (n % 2) 0 :: ·) (go_eq n (n / 2) (n / 2) h (qg _))
theorem Cd:∀(i j:Nat),path i=path j->i=j:=by
 intro i
 induction i using Nat.strongRecOn with
 |_ i ih =>
  intro j h;cases i with
  |zero=>cases j with
   |zero=>rfl
   |succ m=>grind [xgy,R7]
  |succ n=>cases j with
   |zero=>grind
   |succ m =>
    rw[R7,R7]at h;injection h with d c
    have f:=ih (n / 2) (by have:=Nat.div_le_self n 2;omega) (m / 2) c;have g:n % 2=m % 2:=by
     rcases Nat.mod_two_eq_zero_or_one n with a|a<;>rcases Nat.mod_two_eq_zero_or_one m with b|b<;>simp_all
    omega
def Cc(p:List Bool):tj p (.nil:T α)=none:=by
 induction p with
 |nil=>rfl
 |cons b p ih=>cases b<;>exact ih
theorem q2e(v:Option α):∀(p:List Bool)(t:T α),tj p (eU v p t)=v:=by
 intro p
 induction p with
 |nil=>intro t;rfl
 |cons b p ih=>intro t;cases b<;>exact ih _
theorem q7c(v:Option α):∀(p q:List Bool)(t:T α),p≠q->tj q (eU v p t)=tj q t:=by
 intro p
 induction p with
 |nil =>
  intro q t h;cases q with
  |nil=>grind
  |cons b q=>cases b<;>rfl
 |cons b p ih =>
  intro q t h;cases q with
  |nil=>cases b<;>rfl
  |cons c q =>
   cases b<;>cases c
   .exact ih q _ (λ e=>h (by rw[e]))
   .rfl
   .rfl
   .exact ih q _ (λ e=>h (by rw[e]))
theorem i4(t:T α)(i j:Nat)(v:Option α):(t.put i v).get j=if i=j then v else t.get j:=by
 unfold get put
 by_cases h:i=j
 .grind [q2e]
 .simp only[h,y8];grind [q7c,Cd]
theorem aH(t:T α)(i j:Nat)(v:α):(t.set i v).get j=if i=j then B1 v else t.get j:=i4 t i j (B1 v)
theorem get_nil(j:Nat):(T.nil:T α).get j=none:=Cc _
def iT(p:List Bool)(t:T α):(mP p).run t=tj p t:=by
 induction p generalizing t with
 |nil=>rfl
 |cons b p ih=>cases b<;>exact ih _
def Cl(v:Option α)(p:List Bool)(t:T α):(zP p).run v t=eU v p t:=by
 induction p generalizing t with
 |nil=>rfl
 |cons b p ih =>
  grind [zP,eU]
end T
section
variable{α:Type}
theorem kX(l:List α)(i:Nat):nth l i=l[i]?:=by
 induction l generalizing i with
 |nil=>rfl
 |cons x l ih=>cases i with
  |zero=>rfl
  |succ n=>exact ih n
theorem wx(a b:List α):jD a b=a++b:=by
 induction a with
 |nil=>rfl
 |cons x a ih=>exact congrArg (x :: ·) ih
def Ea(l:List α):cF l=l.length:=by
 induction l with
 |nil=>rfl
 |cons x l ih=>exact congrArg (·+1) ih
theorem ah1(n:Nat)(l:List α):eQ n l=l.drop n:=by
 induction n generalizing l with
 |zero=>rfl
 |succ n ih=>cases l with
  |nil=>exact(ih []).trans (by simp)
  |cons x l=>exact ih l
theorem xW(n:Nat)(l:List α):Au n l=if n<=l.length then B1 (l.take n)else none:=by
 induction n generalizing l with
 |zero=>rfl
 |succ n ih=>cases l with
  |nil=>rfl
  |cons x l =>
   show(Au n l).bind (λ r=>B1 (x::r))=_
   grind
def zL(new l:List α):uR new l=if new.length<=l.length then B1 (new++l.drop new.length)else none:=by
 induction new generalizing l with
 |nil=>rfl
 |cons x new ih=>cases l with
  |nil=>rfl
  |cons y l =>
   show(uR new l).bind (λ r=>B1 (x::r))=_
   grind
def Ct(o:Nat)(new l:List α):putAt o new l=if o+new.length<=l.length then B1 (l.take o++new++l.drop (o+new.length))else none:=by
 induction o generalizing l with
 |zero=>show uR new l=_;rw[zL];simp
 |succ o ih=>cases l with
  |nil =>
   show B5=_
   grind
  |cons x l =>
   show(putAt o new l).bind (λ r=>B1 (x::r))=_
   grind
def tw(l:List α)(o n:Nat):fg l o n=if n<=l.length-o then B1 ((l.drop o).take n)else none:=by
 grind [fg,xW,ah1]
end
theorem Jn(a b:Int):sC a b=decide (a<=b):=by
 cases a<;>cases b<;>rw[BA]<;>simp[sC,vd]<;>try omega
def HZ(a b:Int):wA a b=decide (a<b):=by
 unfold wA;rw[Jn];grind
theorem yJ(a b:Int):rS a b=(a == b):=by
 rw[BA,beq_iff_eq];cases a<;>cases b<;>simp[rS]<;>omega
def O7(a b:KB):ry a b=decide (a=b):=by cases a<;>cases b<;>rfl
theorem PZ(a b:UInt8):Ba a b=(a == b):=by
 unfold Ba;rw[BA];simp_all[UInt8.toNat_inj]
theorem GS(a b:List UInt8):wD a b=(a == b):=by
 induction a generalizing b with
 |nil=>cases b<;>rfl
 |cons x a ih=>cases b with
  |nil=>rfl
  |cons y b =>
   show cond (Ba x y) (wD a b) B2=_
   grind [PZ]
end Go.Am
namespace Go.Am
structure Th where
 bQ:Nat->Nat
 off:Nat->Nat
 ext:Nat->Nat
def eW(θ:Th):kW->Fn
 | .func f=>.func f
 | .yield l=>.yield (θ.bQ l)
def xS:Nat->Option Nat
 |0=>B5
 |n+1=>B1 n
mutual
def aq(θ:Th):AV->Hm
 | .bool b=>.bool b
 | .int k n=>.int k n
 | .str s=>.string ⟨s.toArray⟩
 | .nilp=>.pointer B5
 | .ptr b o=>.pointer (B1 ⟨θ.bQ b,θ.off b+o,B5⟩)
 | .nils=>.slice B5 0 0
 | .slice b o n c=>.slice (B1 ⟨θ.bQ b,θ.off b+o,B5⟩) n c
 | .gslice b i m s alt n=>.slice (B1 ⟨θ.bQ b,θ.off b+(if(m-i) + θ.ext b=0 then alt else i*s),B5⟩) n ((m-i) + θ.ext b)
 | .eslice b=>.slice (B1 ⟨θ.bQ b,θ.off b,xS (θ.ext b)⟩) 0 0
 | .kT=>.map B5
 | .map b=>.map (B1 (θ.bQ b))
 | .fn f a b=>.func (eW θ f) (bO θ a).toArray (bO θ b).toArray
 | .nilf=>.nilFunc
 | .iface t v=>.iface t (aq θ v)
 | .nili=>.nilIface
 | .agg l=>.agg (bO θ l).toArray
 | .tuple l=>.tuple (bO θ l).toArray
def bO(θ:Th):List AV->List Hm
 |[]=>[]
 |v::vs=>aq θ v::bO θ vs
end
theorem vP(θ:Th)(l:List AV):bO θ l=l.map (aq θ):=by
 induction l with
 |nil=>rfl
 |cons x l ih=>simp[bO,ih]
def Ag(D:Nat->Prop)(θ θ':Th):Prop:=∀b,D b -> θ'.bQ b = θ.bQ b /\ θ'.off b = θ.off b /\ θ'.ext b = θ.ext b
theorem Ag.refl(D:Nat->Prop)(θ:Th):Ag D θ θ:=λ _ _=>⟨rfl,rfl,rfl⟩
theorem Ag.trans{D D':Nat->Prop}{θ θ' θ'':Th}(h:Ag D θ θ')(a:Ag D' θ' θ'')(c:∀b,D b->D' b):Ag D θ θ'':=λ b hb =>
 let⟨a1,a2,a3⟩:=h b hb;let⟨b1,b2,b3⟩:=a b (c b hb);(by omega)
def Ag.mono{D D':Nat->Prop}{θ θ':Th}(h:Ag D θ θ')(a:∀b,D' b->D b):Ag D' θ θ':=λ b hb=>h b (a b hb)
def VR(D:Nat->Prop)(θ:Th)(v:AV)(c:Hm):Prop:=∀θ',Ag D θ θ'->aq θ' v=c
def bH(D:Nat->Prop)(θ:Th)(l:List AV)(cs:List Hm):Prop:=∀θ',Ag D θ θ'->bO θ' l=cs
section
variable{D D':Nat->Prop}{θ θ':Th}
def VR.now{v:AV}{c:Hm}(h:VR D θ v c):aq θ v=c:=h θ (Ag.refl D θ)
def bH.now{l:List AV}{cs:List Hm}(h:bH D θ l cs):bO θ l=cs:=h θ (Ag.refl D θ)
theorem VR.up{v:AV}{c:Hm}(h:VR D θ v c)(ha:Ag D θ θ')(d:∀b,D b->D' b):VR D' θ' v c:=λ θ'' a=>h θ'' (ha.trans a d)
theorem bH.up{l:List AV}{cs:List Hm}(h:bH D θ l cs)(ha:Ag D θ θ')(c:∀b,D b->D' b):bH D' θ' l cs:=λ θ'' a=>h θ'' (ha.trans a c)
theorem bH.nil:bH D θ [] []:=λ _ _=>rfl
def bH.cons{v:AV}{c:Hm}{l:List AV}{cs:List Hm}(h:VR D θ v c)(hl:bH D θ l cs):bH D θ (v::l) (c::cs) :=
 λ θ' ha=>by simp[bO,h θ' ha,hl θ' ha]
def bH.dR{v:AV}{l:List AV}{cs:List Hm}(h:bH D θ (v::l) cs):∃c cs',cs=c::cs'/\VR D θ v c/\bH D θ l cs':=by
 refine⟨aq θ v,bO θ l,(by rw[<-h.now];rfl),λ θ' ha=>?_,λ θ' ha=>?_⟩
 .have:=(h θ' ha).trans h.now.symm;grind [bO]
 .have:=(h θ' ha).trans h.now.symm;grind [bO]
def bH.kP{cs:List Hm}(h:bH D θ [] cs):cs=[]:=h.now.symm
def bH.length{l:List AV}{cs:List Hm}(h:bH D θ l cs):cs.length=l.length:=by rw[<-h.now,vP];simp
def bH.app{l a:List AV}{cs cs':List Hm}(h:bH D θ l cs)(b:bH D θ a cs'):bH D θ (l++a) (cs++cs'):=by
 intro θ' ha;rw[vP,List.map_append,<-vP,<-vP,h θ' ha,b θ' ha]
def bH.py{l:List AV}{cs:List Hm}(h:bH D θ l cs){i:Nat}{v:AV}(b:l[i]? = B1 v):∃c,cs[i]? = B1 c/\VR D θ v c:=by
 refine⟨aq θ v,?_,λ θ' ha=>?_⟩
 .rw [<-h.now,vP,xr,b];rfl
 .have:=(h θ' ha).trans h.now.symm;rw[vP,vP]at this;have a:=congrArg (λ l=>l[i]?) this;simp only[xr,b,wq,qe]at a;exact a
theorem bH.drop{l:List AV}{cs:List Hm}(h:bH D θ l cs)(n:Nat):bH D θ (l.drop n) (cs.drop n):=by
 intro θ' ha;rw[vP,List.map_drop,<-vP,h θ' ha]
def bH.take{l:List AV}{cs:List Hm}(h:bH D θ l cs)(n:Nat):bH D θ (l.take n) (cs.take n):=by
 intro θ' ha;rw[vP,List.map_take,<-vP,h θ' ha]
def bH.one{v:AV}{c:Hm}(h:VR D θ v c):bH D θ [v] [c]:=.cons h .nil
def VR.agg{l:List AV}{cs:List Hm}(h:bH D θ l cs):VR D θ (.agg l) (.agg cs.toArray):=λ θ' ha=>by simp[aq,h θ' ha]
def VR.tuple{l:List AV}{cs:List Hm}(h:bH D θ l cs):VR D θ (.tuple l) (.tuple cs.toArray):=λ θ' ha=>by simp[aq,h θ' ha]
def VR.eK{l:List AV}{c:Hm}(h:VR D θ (.agg l) c):∃cs:List Hm,c=.agg cs.toArray/\bH D θ l cs:=by
 refine⟨bO θ l,h.now.symm,λ θ' ha=>?_⟩;have:=(h θ' ha).trans h.now.symm;simpa[aq]using this
def VR.vV{l:List AV}{c:Hm}(h:VR D θ (.tuple l) c):∃cs:List Hm,c=.tuple cs.toArray/\bH D θ l cs:=by
 refine⟨bO θ l,h.now.symm,λ θ' ha=>?_⟩;have:=(h θ' ha).trans h.now.symm;simpa[aq]using this
def VR.iface{t:Nat}{v:AV}{c:Hm}(h:VR D θ v c):VR D θ (.iface t v) (.iface t c):=λ θ' ha=>by simp[aq,h θ' ha]
def VR.kR{t:Nat}{v:AV}{c:Hm}(h:VR D θ (.iface t v) c):∃a,c=.iface t a/\VR D θ v a:=by
 refine⟨aq θ v,h.now.symm,λ θ' ha=>?_⟩;have:=(h θ' ha).trans h.now.symm;simpa[aq]using this
def VR.undef:VR D θ .undef Go.undef:=λ _ _=>rfl
def VR.bool(b:Bool):VR D θ (.bool b) (.bool b):=λ _ _=>rfl
def VR.int(k:KB)(n:Int):VR D θ (.int k n) (.int k n):=λ _ _=>rfl
def VR.str(s:List UInt8):VR D θ (.str s) (.string ⟨s.toArray⟩):=λ _ _=>rfl
def VR.ptr{b o:Nat}(hb:D b):VR D θ (.ptr b o) (.pointer (B1 ⟨θ.bQ b,θ.off b+o,B5⟩)):=λ θ' ha=>by obtain⟨a,c,_⟩:=ha b hb;grind [aq]
theorem VR.map{b:Nat}(hb:D b):VR D θ (.map b) (.map (B1 (θ.bQ b))):=λ θ' ha=>by obtain⟨a,_,_⟩:=ha b hb;simp[aq,a]
def VR.slice{b o n c:Nat}(hb:D b):VR D θ (.slice b o n c) (aq θ (.slice b o n c)):=λ θ' ha=>by obtain⟨a,d,_⟩:=ha b hb;grind [aq]
def VR.gslice{b i m s alt n:Nat}(hb:D b):VR D θ (.gslice b i m s alt n) (aq θ (.gslice b i m s alt n)):=λ θ' ha=>by
 obtain⟨a,c,d⟩:=ha b hb;grind [aq]
end
def PG(fz cfz:Nat×Nat)(off size:Nat):Prop:=cfz.1=cfz.2\/(cfz.1<cfz.2/\off+fz.1<=cfz.1/\cfz.2<=off+fz.2)\/(fz.2<fz.1/\(size<=cfz.1\/cfz.2<=off))
def RA(fz cfz:Nat×Nat):Prop:=cfz.1=cfz.2\/(cfz.1<cfz.2/\fz.1<=cfz.1/\cfz.2<=fz.2)
def own:bB->Bool
 | .row _ _ _ o=>o
 |_=>B4
def om(D:Nat->Prop)(θ:Th)(tm:T AV)(a:Array Hm):Prop:=∀t v,tm.get t=B1 v -> ∃c,a[t]? = B1 c/\VR D θ v c
def UW:lP->LoopState
 | .ready=>.ready| .busy=>.busy| .done=>.done| .exhausted=>.exhausted
def lG:gH->Code
 | .exit id=>.exit id
 | .goto l=>.goto l
 | .ret=>.ret
def MX(D:Nat->Prop)(θ:Th)(e:AV×AV×Nat)(m:AW):Prop:=VR D θ e.1 m.key/\VR D θ e.2.1 m.val/\m.born=e.2.2
def cV(D:Nat->Prop)(θ:Th):List (AV×AV×Nat)->List AW->Prop
 |[],[]=>True
 |e::es,m::ms=>MX D θ e m/\cV D θ es ms
 |_,_=>False
def tu(P:Fv)(f k n:Nat)(params:Array Tmp)(assign body:Code):Prop :=
 ∃fn af lp ka kb L1 L2,P.funcs[f]? = B1 fn/\rT P fn=B1 af/\nth af.loops k=B1 lp/\lp.params=params.toList/\(∀p∈params.toList,p<fn.ntmps)/\fn.ntmps<=n /\
  bY P fn.ntmps ka assign=B1 (lp.assign,L1)/\(∀i l,nth L1 i=B1 l->nth af.loops (ka+i)=B1 l) /\
  bY P fn.ntmps kb body=B1 (lp.body,L2)/\(∀i l,nth L2 i=B1 l->nth af.loops (kb+i)=B1 l)
def TR(D:Nat->Prop)(θ:Th):aK->Deferred->Prop
 | .im b,d=>D b/\d = {target:=.collected (θ.bQ b),args:=#[]}
 | .fn f args,d=>∃c cap:Array Hm,d = {target:=.fn (eW θ f) cap,args:=c}/\(∀θ',Ag D θ θ'->eW θ' f=eW θ f)/\bH D θ args (c++cap).toList
def mV(P:Fv)(D:Nat->Prop)(θ:Th)(b:Nat):bB->Obj->Prop
 | .row cells e fz ow,o=>∃pre cs post cfz e',o=.cells (pre++cs++post).toArray e' cfz/\pre.length = θ.off b/\bH D θ cells cs /\
  (ow=B4->e'=e/\pre=[]/\post=[]/\RA fz cfz)
 | .grown m size cells e fz,o=>∃pre cs post cfz,o=.cells (pre++cs++post).toArray e cfz/\pre.length = θ.off b/\bH D θ cells cs /\
  cells.length=m*size/\post.length = θ.ext b*size/\0<size/\m + θ.ext b<=maxLen/\PG fz cfz (θ.off b) (pre.length+cs.length+post.length)
 | .map es clock,o=>∃ms:List AW,o=.map ms.toArray clock/\cV D θ es ms
 | .kN s pos,o=>o=.stringIter ⟨s.toArray⟩ pos /\ θ.off b=0
 | .loop st pend f k tm d,o=>∃r:Loop,o=.loop r/\r.state=UW st/\r.pending=pend.map lG/\r.fn=f/\om D θ tm r.tmps/\tu P f k r.tmps.size r.params r.assign r.body /\
  D d/\r.defers = θ.bQ d
 | .deferred calls,o=>∃ds,o=.deferred ds/\(match calls,ds with
  |none,B5=>True
  |some l,B1 l'=>l=[]/\l'=[]
  |_,_=>False)
structure HR(P:Fv)(base:Nat)(D:Nat->Prop)(θ:Th)(H:ar)(w:J3):Prop where
 obj:∀b o,H.get b=B1 o->D b /\ ∃co,w.heap[θ.bQ b]? = B1 co/\mV P D θ b o co
 inj:∀b b' o o',H.get b=B1 o->H.get b'=B1 o'->own o=B4->b≠b' -> θ.bQ b≠θ.bQ b'
 kJ:∀b o,H.get b=B1 o->own o=B4->base <= θ.bQ b
 dV:∀g,g<P.globals.size->D g /\ θ.bQ g=g /\ θ.off g=0
 low:base<=w.heap.size
def Lt(n:Nat):Nat->Prop:=λ b=>b<n
end Go.Am
namespace Go.Am
theorem uM(k o i:Nat):(⟨k,o,B5⟩:Addr).add i=⟨k,o+i,B5⟩:=by grind [Addr.add]
def eO(w:J3)(k:Nat)(o:Obj):World:={w with heap:=w.heap.setIfInBounds k o}
def Pb(w:J3)(k:Nat)(o:Obj):(eO w k o).heap.size=w.heap.size:=by simp[eO]
theorem G9(w:J3)(k j:Nat)(o:Obj)(h:k<w.heap.size):(eO w k o).heap[j]? = if k=j then B1 o else w.heap[j]?:=by
 grind [eO]
def xhn(w:J3)(k:Nat)(o o':Obj):eO (eO w k o) k o'=eO w k o':=by
 simp[eO]
def xhm(w:J3)(k:Nat)(o:Obj)(h:w.heap[k]? = B1 o):eO w k o=w:=by
 have:w.heap.setIfInBounds k o=w.heap:=by
  grind
 simp_all[eO]
def yP(w:J3)(o:Obj)(j:Nat):(w.alloc o).heap[j]? = if j=w.heap.size then B1 o else w.heap[j]?:=by
 grind [J3.alloc]
section
variable{P:Fv}{w:J3}{k:Nat}{arr:Array Hm}{e:IV}{fz:Nat×Nat}
theorem Kn(h:w.heap[k]? = B1 (.cells arr e fz))(o:Nat):w.cell? ⟨k,o,B5⟩=arr[o]?:=by simp[World.cell?,h]
theorem xhb(h:w.heap[k]? = B1 (.cells arr e fz)){o:Nat}{v:Hm}(a:arr[o]? = B1 v):(load ⟨k,o,B5⟩).run P w=.ok v w:=by
 rw[run_load,Kn h,a]
def R2(h:w.heap[k]? = B1 (.cells arr e fz))(o n:Nat)(hn:n<=arr.size-o) :
 (loadCells ⟨k,o,B5⟩ n).run P w=.ok ((arr.toList.drop o).take n).toArray w:=by
 have hl:((arr.toList.drop o).take n).length=n:=by grind
 grind [run_loadCells_list,uM,Kn]
def Pp(a:Nat):∀(vs:List Hm)(i:Nat)(arr:Array Hm)(w:J3),w.heap[k]? = B1 (.cells arr e fz) ->
 a+i+vs.length<=arr.size->(∀j,j<vs.length -> ¬(fz.1<=a+i+j/\a+i+j<fz.2))->(∀v∈vs,v.oneCell'=B4) ->
 (storeCells ⟨k,a,B5⟩ vs i).run P w=.ok () (eO w k (.cells (arr.toList.take (a+i)++vs++arr.toList.drop (a+i+vs.length)).toArray e fz))
 |[],i,arr,w,hg,_,_,_=>by
  simp only[storeCells,zu,j7,zJ,wo,Ak];rw[xhm w k _ hg];rfl
 |v::rest,i,arr,w,hg,hl,hf,h1=>by
  have m:a+i<arr.size:=by grind
  have hk:k<w.heap.size:=(Oa.1 hg).1;have b:w.cell? ⟨k,a+i,B5⟩=B1 arr[a+i]:=by rw[Kn hg];grind
  have d:w.frozen? ⟨k,a+i,B5⟩=false:=by
   have:=hf 0 (by simp)
   grind [J3.frozen?]
  have f:w.setCell ⟨k,a+i,B5⟩ v=eO w k (.cells (arr.setIfInBounds (a+i) v) e fz):=by
   simp only[J3.setCell,eO];congr 1
   grind
  have c:(store ((⟨k,a,B5⟩:Addr).add i) v).run P w=.ok () (eO w k (.cells (arr.setIfInBounds (a+i) v) e fz)):=by
   grind [uM,run_store]
  have h:=Pp a rest (i+1) (arr.setIfInBounds (a+i) v) (eO w k (.cells (arr.setIfInBounds (a+i) v) e fz))
   (by grind [G9]) (by grind)
   (λ j g=>by have:=hf (j+1) (by simpa using g);rwa [show a+i+(j+1)=a+(i+1)+j from by omega]at this)
   (by grind)
  simp only[storeCells,JX,c,JQ,h,xhn];congr 3;have l:=list_seg_step arr.toList (a+i) v rest (by simp at hl⊢;omega);simp_all[yz]
end
def Up(D:Nat->Prop)(n m:Nat):Nat->Prop:=λ b=>D b\/(n<=b/\b<m)
def Up.of{D:Nat->Prop}{n m:Nat}:∀b,D b->Up D n m b:=λ _ h=>.inl h
def dL(D:Nat->Prop)(n m:Nat):Prop:=∀b,n<=b->b<m -> ¬D b
theorem Up.up{D:Nat->Prop}{n m k:Nat}(h:n<=m)(a:m<=k):Up (Up D n m) m k=Up D n k:=by
 funext b;simp only[Up,eq_iff_iff]
 grind
theorem Up.none{D:Nat->Prop}{n:Nat}:Up D n n=D:=by
 funext b;simp only[Up,eq_iff_iff]
 grind
def dL.left{D:Nat->Prop}{n m k:Nat}(h:dL D n k)(hk:m<=k):dL D n m:=λ b a c=>h b a (by omega)
def dL.right{D:Nat->Prop}{n m k:Nat}(h:dL D n k)(hm:n<=m):dL (Up D n m) m k:=λ b d c a=>by
 rcases a with a|⟨_,f⟩
 .exact h b (by omega) c a
 .omega
structure bt(D:Nat->Prop)(H:ar)(θ:Th)(w:J3)(H':ar)(θ':Th)(w':J3):Prop where
 au:H.au<=H'.au
 ag:Ag D θ θ'
 size:w.heap.size<=w'.heap.size
 os:w'.os=w.os
 tape:w'.tape=w.tape
 output:w'.output=w.output
 ah:∀k,k<w.heap.size->(∀b o,H.get b=B1 o->own o=B4 -> θ.bQ b≠k)->w'.heap[k]? = w.heap[k]?
 news:∀b o,H'.get b=B1 o->own o=B4 -> θ'.bQ b<w.heap.size -> ∃b' o',H.get b'=B1 o'/\own o'=B4 /\ θ.bQ b' = θ'.bQ b
theorem bt.refl(D:Nat->Prop)(H:ar)(θ:Th)(w:J3):bt D H θ w H θ w :=
 ⟨qg _,Ag.refl _ _,qg _,rfl,rfl,rfl,λ _ _ _=>rfl,λ b o h ho _=>(by grind)⟩
theorem bt.trans{D D':Nat->Prop}{H H' c:ar}{θ θ' θ'':Th}{w w' d:J3}(a:bt D H θ w H' θ' w')(b:bt D' H' θ' w' c θ'' d)(p:∀b,D b->D' b):bt D H θ w c θ'' d:=by
 refine⟨xm a.au b.au,a.ag.trans b.ag p,xm a.size b.size,b.os.trans a.os,b.tape.trans a.tape,b.output.trans a.output,?_,?_⟩
 .intro k hk g;refine(b.ah k (qj hk a.size) ?_).trans (a.ah k hk g);intro x o h ho he;have⟨i,o',j,l,n⟩:=a.news x o h ho (by omega)
  grind
 .intro x o h ho f;have⟨i,o',j,l,n⟩:=b.news x o h ho (qj f a.size);have⟨m,q,r,s,t⟩:=a.news i o' j l (by omega)
  grind
def bt.draw{D:Nat->Prop}{H:ar}{θ:Th}{w w':J3}(a:w'.heap=w.heap)(ho:w'.os=w.os)(c:w'.tape=w.tape)(hp:w'.output=w.output):bt D H θ w H θ w' :=
 ⟨qg _,Ag.refl _ _,by grind,ho,c,hp,λ _ _ _=>by rw[a],λ b o h hw _=>(by grind)⟩
def HR.draw{P:Fv}{base:Nat}{D:Nat->Prop}{θ:Th}{H:ar}{w w':J3}(h:HR P base D θ H w)(a:w'.heap=w.heap):HR P base D θ H w' :=
 ⟨λ b o hb=>by rw[a];exact h.obj b o hb,h.inj,h.kJ,h.dV,by rw[a];exact h.low⟩
theorem cV.up{D D':Nat->Prop}{θ θ':Th}(ha:Ag D θ θ')(a:∀b,D b->D' b):∀(es:List (AV×AV×Nat))(ms:List AW),cV D θ es ms->cV D' θ' es ms
 |[],[],_=>trivial
 |e::es,m::ms,⟨⟨h1,h2,h3⟩,h⟩=>⟨⟨h1.up ha a,h2.up ha a,h3⟩,cV.up ha a es ms h⟩
 |[],_::_,h=>h.elim
 |_::_,[],h=>h.elim
theorem mV.up{P:Fv}{D D':Nat->Prop}{θ θ':Th}{b:Nat}{o:bB}{co:Obj}(h:mV P D θ b o co)(hb:D b)(ha:Ag D θ θ')(n:∀b,D b->D' b):mV P D' θ' b o co:=by
 have⟨B,y,C⟩:=ha b hb;cases o with
 |row cells e fz ow =>
  have⟨pre,cs,post,a,z,g,i,j,l⟩:=h;exact⟨pre,cs,post,a,z,g,by omega,j.up ha n,l⟩
 |grown m size cells e fz =>
  have⟨pre,cs,post,a,g,i,j,l,u,p,q,x⟩:=h;exact⟨pre,cs,post,a,g,by omega,j.up ha n,l,by grind,p,by omega,by grind⟩
 |map es clock =>
  have⟨ms,g,i⟩:=h;exact⟨ms,g,cV.up ha n _ _ i⟩
 |kN s pos=>exact⟨h.1,y.trans h.2⟩
 |loop st pend f k tm d =>
  have⟨r,g,i,j,l,u,p,q,x⟩:=h;exact⟨r,g,i,j,l,λ t v A=>let⟨c,hc,hr⟩:=u t v A;⟨c,hc,hr.up ha n⟩,p,n d q,by rw[(ha d q).1];exact x⟩
 |deferred calls=>exact h
theorem HR.up{P:Fv}{base:Nat}{D D':Nat->Prop}{θ:Th}{H:ar}{w:J3}(h:HR P base D θ H w)(a:∀b,D b->D' b):HR P base D' θ H w :=
 ⟨λ b o hb=>let⟨h1,co,h2,h3⟩:=h.obj b o hb;⟨a b h1,co,h2,h3.up h1 (Ag.refl _ _) a⟩,h.inj,h.kJ,λ g hg=>⟨a g (h.dV g hg).1,(h.dV g hg).2⟩,h.low⟩
section
variable{P:Fv}{base:Nat}{D:Nat->Prop}{θ:Th}{H:ar}{w:J3}
def HR.lt(h:HR P base D θ H w){b:Nat}{o:bB}(hb:H.get b=B1 o):θ.bQ b<w.heap.size:=by
 have⟨_,co,a,_⟩:=h.obj b o hb
 grind
theorem ar.aH(H:ar)(b a:Nat)(o:bB):(H.set b o).get a=if b=a then B1 o else H.get a:=T.aH _ _ _ _
def ar.bG(H:ar)(a:Nat)(o:bB):(H.alloc o).get a=if H.au=a then B1 o else H.get a:=T.aH _ _ _ _
theorem ar.oY(H:ar)(b a:Nat):(H.kill b).get a=if b=a then B5 else H.get a:=T.i4 _ _ _ _
theorem HR.set(h:HR P base D θ H w){b:Nat}{o o':bB}{co':Obj}(hb:H.get b=B1 o)(ho:own o=B4)(p:own o'=B4)(hr:mV P D θ b o' co') :
 HR P base D θ (H.set b o') (eO w (θ.bQ b) co'):=by
 have i:=h.lt hb;refine⟨λ x f a=>?_,λ x y f j a g c d=>?_,λ x f a c=>?_,h.dV,by rw[Pb];exact h.low⟩
 .rw [ar.aH]at a
  by_cases e:b=x
  .subst e;simp only[rR,qe]at a;subst a;exact⟨(h.obj b o hb).1,co',by grind [G9],hr⟩
  .simp only[e,y8]at a;have⟨l,co,m,n⟩:=h.obj x f a;exact⟨l,co,by rw[G9 _ _ _ _ i,qn (h.inj b x o f hb a ho e)];exact m,n⟩
 .rw [ar.aH]at a g
  by_cases e:b=x<;>by_cases e':b=y
  .omega
  .subst e;simp only[e',y8]at g;exact h.inj b y o j hb g ho d
  .subst e';simp only[e,y8]at a;exact h.inj x b f o a hb c d
  .simp only[e,e',y8]at a g;exact h.inj x y f j a g c d
 .rw [ar.aH]at a
  by_cases e:b=x
  .subst e;exact h.kJ b o hb ho
  .simp only[e,y8]at a;exact h.kJ x f a c
theorem bt.set{b:Nat}{o o':bB}{co':Obj}(hb:H.get b=B1 o)(ho:own o=B4)(a:θ.bQ b<w.heap.size) :
 bt D H θ w (H.set b o') θ (eO w (θ.bQ b) co'):=by
 refine⟨qg _,Ag.refl _ _,by simp_all[Pb],rfl,rfl,rfl,λ k hk c=>?_,λ x g f d _=>?_⟩
 .simp_all [G9]
 .rw [ar.aH]at f
  grind
def Th.add(θ:Th)(n bQ off ext:Nat):Th:={bQ:=λ b=>if b=n then bQ else θ.bQ b,off:=λ b=>if b=n then off else θ.off b,ext:=λ b=>if b=n then ext else θ.ext b}
def Th.dY(θ:Th)(n bQ off ext:Nat):(θ.add n bQ off ext).bQ n=bQ/\(θ.add n bQ off ext).off n=off/\(θ.add n bQ off ext).ext n=ext:=by simp[Th.add]
def Th.gC(θ:Th)(n bQ off ext:Nat){D:Nat->Prop}(hn:¬D n):Ag D θ (θ.add n bQ off ext):=λ b hb=>by
 grind [Th.add]
end
section
variable{P:Fv}{base:Nat}{D:Nat->Prop}{θ:Th}{H:ar}{w:J3}
theorem HR.alloc(h:HR P base D θ H w)(hn:¬D H.au){o:bB}{co:Obj}{k off ext:Nat}{w':J3}(hk:w'.heap[k]? = B1 co)(q:∀j,j<w.heap.size->w'.heap[j]? = w.heap[j]?)(v:w.heap.size<=k)
 (hs:w.heap.size<=w'.heap.size) (hr:mV P (Up D H.au (H.au+1)) (θ.add H.au k off ext) H.au o co) :
 HR P base (Up D H.au (H.au+1)) (θ.add H.au k off ext) (H.alloc o) w':=by
 have d:=Th.gC θ H.au k off ext hn;have⟨n,z,A⟩:=Th.dY θ H.au k off ext;have old:∀x b,H.get x=B1 b->(θ.add H.au k off ext).bQ x = θ.bQ x:=λ x b a=>(d x (h.obj x b a).1).1;refine⟨λ x b a=>?_,λ x y b r a i f m=>?_,λ x b a f=>?_,λ g hg=>?_,by have:=h.low;omega⟩
 .rw [ar.bG]at a
  by_cases e:H.au=x
  .subst e;simp only[rR,qe]at a;subst a;exact⟨.inr ⟨qg _,zd _⟩,co,by rw[n];exact hk,hr⟩
  .simp only[e,y8]at a;have⟨l,c,s,p⟩:=h.obj x b a;refine⟨.inl l,c,?_,p.up l d Up.of⟩
   grind
 .rw [ar.bG]at a i
  by_cases e:H.au=x<;>by_cases e':H.au=y
  .exact absurd (e.symm.trans e') m
  .subst e;simp only[e',y8]at i;rw[n,old y r i];have:=h.lt i;omega
  .subst e';simp only[e,y8]at a;rw[n,old x b a];have:=h.lt a;omega
  .simp only[e,e',y8]at a i;rw[old x b a,old y r i];exact h.inj x y b r a i f m
 .rw [ar.bG]at a
  by_cases e:H.au=x
  .subst e;rw[n];have:=h.low;omega
  .simp only[e,y8]at a;rw[old x b a];exact h.kJ x b a f
 .have ⟨l,s,p⟩:=h.dV g hg;have⟨t,u,_⟩:=d g l;exact⟨.inl l,t.trans s,u.trans p⟩
theorem bt.alloc(h:HR P base D θ H w)(hn:¬D H.au)(o:bB)(co:Obj)(off ext:Nat):bt D H θ w (H.alloc o) (θ.add H.au w.heap.size off ext) (w.alloc co):=by
 have a:=Th.gC θ H.au w.heap.size off ext hn;have⟨g,i,j⟩:=Th.dY θ H.au w.heap.size off ext;refine⟨jt _,a,by simp,rfl,rfl,rfl,λ k hk _=>?_,λ x f b d c=>?_⟩
 .rw [yP,qn (Im hk)]
 .rw [ar.bG]at b
  by_cases e:H.au=x
  .grind
  .simp only[e,y8]at b;have:=(a x (h.obj x f b).1).1
   grind
end
section
variable{P:Fv}{base:Nat}{D:Nat->Prop}{θ:Th}{H:ar}{w:J3}
def HR.cells(h:HR P base D θ H w){b:Nat}{l:List AV}(hb:H.bM b=B1 l) :
 ∃pre cs post e fz,w.heap[θ.bQ b]? = B1 (.cells (pre++cs++post).toArray e fz)/\pre.length = θ.off b/\bH D θ l cs:=by
 unfold ar.bM at hb;cases hg:H.get b with
 |none=>grind
 |some o =>
  rw[hg]at hb;have⟨_,co,i,hr⟩:=h.obj b o hg;cases o with
  |row cells e fz ow =>
   have⟨pre,cs,post,a,g,c,d,f,_⟩:=hr
   grind
  |grown m size cells e fz =>
   have⟨pre,cs,post,a,c,d,f,_⟩:=hr
   grind
  |map _ _=>cases hb
  |kN _ _=>cases hb
  |loop _ _ _ _ _ _=>cases hb
  |deferred _=>cases hb
def XX(pre cs post:List Hm)(o n:Nat)(h:n<=cs.length-o):(((pre++cs++post).toArray.toList.drop (pre.length+o)).take n)=(cs.drop o).take n:=by
 simp_all[vp,J6]
def HR.ae(h:HR P base D θ H w){b o:Nat}{v:AV}(hl:H.ae b o=B1 v) :
 ∃c,(load ⟨θ.bQ b,θ.off b+o,B5⟩).run P w=.ok c w/\VR D θ v c:=by
 unfold ar.ae at hl;cases a:H.bM b with
 |none=>grind
 |some l =>
  rw[a]at hl;have⟨pre,cs,post,e,fz,i,j,d⟩:=h.cells a;simp only[qm,kX]at hl;have⟨c,f,g⟩:=d.py hl
  grind [xhb]
def HR.av(h:HR P base D θ H w){b o n:Nat}{l:List AV}(hl:H.av b o n=B1 l) :
 ∃cs:List Hm,(loadCells ⟨θ.bQ b,θ.off b+o,B5⟩ n).run P w=.ok cs.toArray w/\bH D θ l cs/\l.length=n:=by
 unfold ar.av at hl;cases c:H.bM b with
 |none=>grind
 |some l0 =>
  rw[c]at hl;have⟨pre,cs,post,e,fz,d,f,a⟩:=h.cells c;simp only[qm,tw]at hl;split at hl
  .rename_i hn;cases hl;have hlen:=a.length;refine⟨(cs.drop o).take n,?_,(a.drop o).take n,by grind⟩;rw[<-f,R2 d (pre.length+o) n (by grind),XX pre cs post o n (by omega)]
  grind
theorem U'{v:AV}{c:Hm}(h:VR D θ v c)(a:aC v=B4):c.oneCell'=true:=by
 rw[<-h.now];cases v<;>simp_all[aC,aq,Hm.oneCell']
theorem ym(l:List AV):aP l=l.all aC:=by
 induction l with
 |nil=>rfl
 |cons x l ih =>
  show cond (aC x) (aP l) B2=_
  grind
def Vq{l:List AV}{cs:List Hm}(h:bH D θ l cs)(b:aP l=B4):∀c∈cs,c.oneCell'=true:=by
 intro c d;have⟨i,m⟩:=vn d;rw[ym,EZ]at b;have a:i<l.length:=by rw[<-h.length];grind
 have⟨f,g,j⟩:=h.py (xj a)
 grind [U']
end
end Go.Am
namespace Go.Am
def p8(P:Fv)(s:Sem Next)(w:J3)(c:Hm)(w':J3):Prop:=s.run P w=.ok (.value c) w'\/(s.run P w=.ok .skip w'/\c=Go.undef)
def cO(P:Fv)(o:KW)(xs:List IY)(f:List AV->Option AV):Prop :=
 ∀(D:Nat->Prop)θ(ρ:IY->Hm)w vs v,bH D θ vs (xs.map ρ)->f vs=B1 v -> ∃c,p8 P (execOp ρ o) w c w/\VR D θ v c
section
variable{P:Fv}{w:J3}
def ji{t:IV}{d:TypeDesc}(h:P.underlying t=B1 d):(underlying t).run P w=.ok d w:=run_underlying h w
def rH{t:IV}{n:Nat}(h:bL P t=B1 n):(sizeOf t).run P w=.ok n w:=by
 unfold bL at h;cases a:P.info? t with
 |none=>grind
 |some i=>simp_all[sizeOf,typeInfo]
def Yu{t:IV}{n:Nat}(h:bL P t=B1 n):∃i,P.info? t=B1 i/\i.size=n:=by
 unfold bL at h;cases a:P.info? t with
 |none=>grind
 |some i=>grind
def O3{t:IV}{n:Option Nat}(h:lY P t=B1 n):(isAgg t).run P w=.ok n.isSome w /\ ∀k,n=B1 k->(sizeOf t).run P w=.ok k w:=by
 unfold lY at h;cases hu:P.underlying t with
 |none=>grind
 |some d =>
  rw[hu]at h;cases d
  case struct fs =>
   simp only at h;cases hs:bL P t with
   |none=>grind
   |some m =>
    rw[hs]at h;cases h;simp_all[isAgg,ji,rH]
  case array m e =>
   simp only at h;cases hs:bL P t with
   |none=>grind
   |some m =>
    rw[hs]at h;cases h;simp_all[isAgg,ji,rH]
  all_goals
   (cases h
    simp_all[isAgg,ji])
mutual
def Q9(θ:Th):∀(c:Hm)(v:AV),fq c=B1 v->aq θ v=c
 | .bool b,v,h=>by simp[fq]at h;subst h;rfl
 | .int k n,v,h=>by simp[fq]at h;subst h;rfl
 | .string s,v,h=>by simp[fq]at h;subst h;simp[aq]
 | .pointer B5,v,h=>by simp[fq]at h;subst h;rfl
 | .pointer (B1 a),v,h=>by grind [fq]
 | .slice B5 0 0,v,h=>by simp[fq]at h;subst h;rfl
 | .slice B5 0 (n+1),v,h=>by grind [fq]
 | .slice B5 (n+1) c,v,h=>by grind [fq]
 | .slice (B1 a) n c,v,h=>by grind [fq]
 | .map B5,v,h=>by simp[fq]at h;subst h;rfl
 | .map (B1 r),v,h=>by grind [fq]
 | .nilFunc,v,h=>by simp[fq]at h;subst h;rfl
 | .nilIface,v,h=>by simp[fq]at h;subst h;rfl
 | .iface t x,v,h=>by
  simp only[fq]at h;cases d:fq x with
  |none=>grind
  |some y=>rw[d]at h;cases h;simp[aq,Q9 θ x y d]
 | .agg cs,v,h=>by
  simp only[fq]at h;cases d:mh cs.toList with
  |none=>grind
  |some l=>rw[d]at h;cases h;simp[aq,Rk θ cs.toList l d]
 | .tuple cs,v,h=>by
  simp only[fq]at h;cases d:mh cs.toList with
  |none=>grind
  |some l=>rw[d]at h;cases h;simp[aq,Rk θ cs.toList l d]
 | .float _ _,v,h=>by grind [fq]
 | .complex _ _ _,v,h=>by grind [fq]
 | .chan _,v,h=>by grind [fq]
 | .func _ _ _,v,h=>by grind [fq]
def Rk(θ:Th):∀(cs:List Hm)(l:List AV),mh cs=B1 l->bO θ l=cs
 |[],l,h=>by simp[mh]at h;subst h;rfl
 |c::cs,l,h=>by
  simp only[mh]at h;cases a:fq c with
  |none=>grind
  |some y =>
   rw[a]at h;simp only[qm]at h;cases b:mh cs with
   |none=>grind
   |some ys=>rw[b]at h;cases h;simp[bO,Q9 θ c y a,Rk θ cs ys b]
end
def OD{D:Nat->Prop}{θ:Th}{c:Hm}{v:AV}(h:fq c=B1 v):VR D θ v c:=λ θ' _=>Q9 θ' c v h
def Ia{t:IV}{z:AV}(h:zeroOf P t=B1 z):∃c,(zeroValue t).run P w=.ok c w /\ ∀D θ,VR D θ z c:=by
 unfold zeroOf at h;cases a:P.info? t with
 |none=>grind
 |some i =>
  rw[a]at h;simp only[qm]at h;cases b:i.zero with
  |none=>grind
  |some c=>simp_all[zeroValue,typeInfo,OD]
end
section
variable{D:Nat->Prop}{θ:Th}
def VR.cells{v:AV}{c:Hm}(h:VR D θ v c):bH D θ v.cells c.cells.toList:=by
 intro θ' ha;have a:=h θ' ha;subst a;cases v<;>simp[AV.cells,aq,Hm.cells,bO]
end
section
variable{P:Fv}{D:Nat->Prop}{θ:Th}{ρ:IY->Hm}{w:J3}
theorem bH.ie{x:IY}{vs:List AV}(h:bH D θ vs ([x].map ρ)):∃v,vs=[v]/\VR D θ v (ρ x):=by
 cases vs with
 |nil=>have:=h.length;grind
 |cons v vs =>
  have⟨c,cs,a,d,b⟩:=h.dR;simp only[jm,G6,zg]at a;obtain⟨rfl,rfl⟩:=a;have:=b.length
  grind
theorem bH.qS{x y:IY}{vs:List AV}(h:bH D θ vs ([x,y].map ρ)):∃a b,vs=[a,b]/\VR D θ a (ρ x)/\VR D θ b (ρ y):=by
 cases vs with
 |nil=>have:=h.length;grind
 |cons v vs =>
  have⟨c,cs,d,f,g⟩:=h.dR
  grind [bH.ie]
def bH.p7{x y z:IY}{vs:List AV}(h:bH D θ vs ([x,y,z].map ρ)):∃a b c,vs=[a,b,c]/\VR D θ a (ρ x)/\VR D θ b (ρ y)/\VR D θ c (ρ z):=by
 cases vs with
 |nil=>have:=h.length;grind
 |cons v vs =>
  have⟨c,cs,d,f,g⟩:=h.dR
  grind [bH.qS]
def U3{o:KW}{x:IY}(ho:o.op=.move x\/o.op=.assign x):cO P o [x] Op.move:=by
 intro D θ ρ w vs v h b;obtain⟨a,rfl,ha⟩:=bH.ie h;simp only[Op.move,qe]at b;subst b;refine⟨ρ x,.inl ?_,ha⟩;rcases ho with ho|ho<;>simp[execOp,ho]
def xg2{o:KW}{c a b:IY}(ho:o.op=.pick c a b):cO P o [c,a,b] Op.pick:=by
 intro D θ ρ w vs v h g;obtain⟨q,x,y,rfl,l,m,n⟩:=bH.p7 h;unfold Op.pick at g;split at g
 .rename_i i p r heq;injection heq with j d;subst j;injection d with d f;subst d;injection f with f _;subst f
  cases g;have hb:ρ c=.bool i:=l.now.symm;cases i
  .exact ⟨ρ b,.inl (by simp[execOp,ho,hb,asBool]),n⟩
  .exact ⟨ρ a,.inl (by simp[execOp,ho,hb,asBool]),m⟩
 grind
def DU{o:KW}{op:UnOp}{t:IV}{x:IY}(ho:o.op=.unOp op t x):cO P o [x] (Op.un op):=by
 intro D θ ρ w vs v h b;obtain⟨a,rfl,ha⟩:=bH.ie h;simp only[Op.un,Vh]at b;have hr:=ha.now;split at b
 .rename_i k n;cases b;exact⟨_,.inl (by simp[execOp,ho,<-hr,aq,BJ.unary,BJ.intArith]<;>rfl),.int _ _⟩
 .rename_i k n;simp only[fH]at b;cases b;exact⟨_,.inl (by simp[execOp,ho,<-hr,aq,BJ.unary,BJ.intBits]<;>rfl),.int _ _⟩
 .cases b;exact⟨_,.inl (by simp[execOp,ho,<-hr,aq,BJ.unary]),.bool _⟩
 grind
def xg3{o:KW}{src dst:IV}{x:IY}{k j:KB}(ho:o.op=.convert src dst x)(c:P.underlying src=B1 (.int j))(d:P.underlying dst=B1 (.int k)):cO P o [x] (Op.wrap k):=by
 intro D θ ρ w vs v h b;obtain⟨a,rfl,ha⟩:=bH.ie h;have hr:=ha.now;unfold Op.wrap at b;split at b
 .rename_i k' n heq;cases heq;cases b;exact⟨_,.inl (by simp[execOp,ho,<-hr,aq,convert,ji c,ji d,Conv.intToInt]<;>rfl),.int _ _⟩
 grind
def q77{o:KW}{t:IV}{x:IY}(ho:o.op=.makeInterface t x)(g:∃d,P.underlying t=B1 d/\(match d with| .interface _=>B2|_=>B4)=B4):cO P o [x] (Op.dm t):=by
 intro D θ ρ w vs v h b;obtain⟨a,rfl,ha⟩:=bH.ie h;simp only[Op.dm,qe]at b;subst b;have⟨d,c,f⟩:=g;refine⟨.iface t (ρ x),.inl ?_,ha.iface⟩;cases d<;>simp_all[execOp,Instr.makeInterface,ji c]
def q_{o:KW}{f:FuncId}{a b:Array IY}(ho:o.op=.makeFunc (.func f) a b):cO P o (a.toList++b.toList) (Op.bS f a.size):=by
 intro D θ ρ w vs v h c;simp only[Op.bS,qe]at c;subst c;refine⟨.func (.func f) (a.map ρ) (b.map ρ),.inl (by simp[execOp,ho,Instr.makeFunc]),λ θ' hg=>?_⟩;have d:=(h.take a.size) θ' hg;have g:=(h.drop a.size) θ' hg;simp only[aq,eW,d,g];congr 1
 .grind
 grind
def _b{o:KW}{x:IY}{i:Nat}(ho:o.op=.extract x i):cO P o [x] (Op.extract i):=by
 intro D θ ρ w vs v h b;obtain⟨a,rfl,ha⟩:=bH.ie h;unfold Op.extract at b;split at b
 .rename_i l heq;cases heq;have⟨cs,g,hl⟩:=ha.vV;rw[kX]at b;have⟨c,d,f⟩:=hl.py b;exact⟨c,.inl (by simp[execOp,ho,g,Instr.extract,d]),f⟩
 grind
def G1{o:KW}{c:Call}{b:Builtin}(ho:o.op=.call c)(a:c.callee=.builtin b) :
 ∃consts,execOp ρ o=builtin b c.argTypes o.type consts (c.args.map ρ):=by
 refine⟨c.args.map λ| .const _=>B4|_=>B2,?_⟩
 grind [execOp,resolve,invoke]
def wO{c:Call}{xs:List IY}(a:c.args.toList=xs):c.args.map ρ = (xs.map ρ).toArray:=by
 grind
def bH.nX{xs:List IY}{a:AV}(h:bH D θ [a] (xs.map ρ)):∃x,xs=[x]/\VR D θ a (ρ x):=by
 have:=h.length
 match xs,this,h with
 |[x],_,h=>grind [bH.ie]
def bH.px{xs:List IY}{a b:AV}(h:bH D θ [a,b] (xs.map ρ)):∃x y,xs=[x,y]/\VR D θ a (ρ x)/\VR D θ b (ρ y):=by
 have:=h.length
 match xs,this,h with
 |[x,y],_,h =>
  grind [bH.qS]
theorem G2(s:List UInt8):(⟨s.toArray⟩:ByteArray).size=s.length:=by simp[ByteArray.size]
def _0{o:KW}{c:Call}{xs:List IY}{t e:IV}(ho:o.op=.call c)(f:c.callee=.builtin .len)(d:c.args.toList=xs)(b:c.argTypes[0]? = B1 t)
 (hu:P.underlying t=B1 (.slice e)):cO P o xs Op.dg:=by
 intro D θ ρ w vs v h a;have⟨consts,he⟩:=G1 (ρ:=ρ) ho f;unfold Op.dg at a;split at a
 .obtain ⟨x,rfl,ha⟩:=h.nX;cases a;refine⟨_,.inl ?_,.int _ _⟩;rw[he,wO d];simp[builtin,BX,ji hu,b,<-ha.now,aq,goInt]<;>rfl
 .obtain ⟨x,rfl,ha⟩:=h.nX;cases a;refine⟨_,.inl ?_,.int _ _⟩;rw[he,wO d];simp[builtin,BX,ji hu,b,<-ha.now,aq,goInt]<;>rfl
 .obtain ⟨x,rfl,ha⟩:=h.nX;cases a;refine⟨_,.inl ?_,.int _ _⟩;rw[he,wO d];simp[builtin,BX,ji hu,b,<-ha.now,aq,goInt]<;>rfl
 .obtain ⟨x,rfl,ha⟩:=h.nX;cases a;refine⟨_,.inl ?_,.int _ _⟩;rw[he,wO d];simp[builtin,BX,ji hu,b,<-ha.now,aq,goInt]<;>rfl
 grind
def _j{op:BinOp}{k:KB}{a b:Int}{v:AV}(hs:dC op=B2)(h:fH op k a b=B1 v)(t:IV) :
 ∃c,(binOp op t (.int k a) (.int k b)).run P w=.ok c w/\VR D θ v c:=by
 cases op<;>simp only[fH,dC,qe,yJ,HZ,Jn,Bool.true_eq_false]at h hs
 case quo =>
  cases hb:(b == 0)<;>rw[hb]at h<;>simp at h;subst h;exact⟨_,by simp[binOp,BJ.intDiv,by simpa using hb]<;>rfl,.int _ _⟩
 case rem =>
  cases hb:(b == 0)<;>rw[hb]at h<;>simp at h;subst h;exact⟨_,by simp_all[binOp,BJ.intDiv],.int _ _⟩
 all_goals
  subst h
  first|refine⟨_,?_,VR.int _ _⟩|refine⟨_,?_,VR.bool _⟩
  simp only[binOp,ne_eq,not_true_eq_false,y8,BJ.intBits,BJ.intArith,BJ.intCmp];rfl
def q6v(a b:List UInt8):bytesLess a b=BJ.bytesLess a b:=by
 induction a generalizing b with
 |nil=>cases b<;>rfl
 |cons x a ih=>cases b with
  |nil=>rfl
  |cons y b =>
   simp only[bytesLess,BJ.bytesLess,ih,PZ];congr 1;rw[BA];simp[UInt8.lt_iff_toNat_lt]
def VG(s:List UInt8):(⟨s.toArray⟩:ByteArray).toList=s:=by rw[ByteArray.toList_eq]
def xd9{op:BinOp}{a b:List UInt8}{v:AV}(h:pA op a b=B1 v)(t:IV) :
 ∃c,(binOp op t (.string ⟨a.toArray⟩) (.string ⟨b.toArray⟩)).run P w=.ok c w/\VR D θ v c:=by
 cases op<;>simp only[pA,qe,reduceCtorEq,GS,q6v]at h
 case add =>
  cases hb:Jo (a.length+b.length) 140737488355328<;>rw[hb]at h<;>simp at h;subst h;have hle:a.length+b.length<=140737488355328:=by simp_all
  refine⟨.string (⟨a.toArray⟩++⟨b.toArray⟩),?_,λ θ' _=>?_⟩
  .simp only[binOp,BJ.stringOp,G2,Sem.run_ite];rw[qn (by grind [KB.max,IntKind.bits])];rfl
  .show Hm.string ⟨(a++b).toArray⟩=_;congr 1
 all_goals
  subst h;exact⟨_,by simp[binOp,BJ.stringOp]<;>rfl,.bool _⟩
def YW{o:KW}{op:BinOp}{t p:IV}{x y:IY}(ho:o.op=.binOp op t x y p):cO P o [x,y] (Op.bin op):=by
 intro D θ ρ w vs v h d;obtain⟨a,b,rfl,ha,hb⟩:=bH.qS h;simp only[Op.bin,mJ]at d;have g:=ha.now;have i:=hb.now;have guard:∀(u n:Hm),(∀l,u≠ .agg l)->u≠ .nilIface->(eqGuard op t x y u n).run P w=.ok () w:=by
  intro u n q r;unfold eqGuard;cases u<;>cases op<;>simp_all
 split at d
 .rename_i k a k' b;cases hs:dC op
  .rw [hs]at d;simp only[ze,O7]at d
   by_cases hk:k=k'
   .subst hk;simp only[decide_true,xg]at d;have⟨c,m,j⟩:=_j (P:=P) (w:=w) (D:=D) (θ:=θ) hs d t;refine⟨c,.inl ?_,j⟩;have hg:=guard (.int k a) (.int k b) (λ _=>by simp) (by simp);simp_all[execOp,aq]
   grind
  .rw [hs]at d;simp only[xg,qZ,HZ]at d
   by_cases f:b<0
   .grind
   .simp only[f,Il,ze]at d;have hg:=guard (.int k a) (.int k' b) (λ _=>by simp) (by simp);cases op<;>simp only[dC,za]at hs
    all_goals
     cases d;exact⟨_,.inl (by simp[execOp,ho,<-g,<-i,aq,hg,binOp,BJ.shift,f]<;>rfl),.int _ _⟩
 .rename_i a b;have⟨c,m,j⟩:=xd9 (P:=P) (w:=w) (D:=D) (θ:=θ) d t;have hg:=guard (.string ⟨a.toArray⟩) (.string ⟨b.toArray⟩) (λ _=>by simp) (by simp);exact⟨c,.inl (by simp[execOp,ho,<-g,<-i,aq,hg,m]),j⟩
 grind
end
end Go.Am
namespace Go.Am
section
variable{P:Fv}{D:Nat->Prop}{θ:Th}{ρ:IY->Hm}{w:J3}
def GZ{t:IV}{l:List AV}{cs:List Hm}{off:Nat}{n:Option Nat}{v:AV}(hn:lY P t=B1 n)(hl:bH D θ l cs)(h:partAt l off n=B1 v) :
 ∃c,(part t cs.toArray off).run P w=.ok c w/\VR D θ v c:=by
 have⟨a,b⟩:=O3 (w:=w) hn;cases n with
 |none =>
  simp only[partAt,kX]at h;have⟨c,d,f⟩:=hl.py h;simp_all[part]
 |some k =>
  simp only[partAt,tw]at h;split at h
  .rename_i hk;cases h;refine⟨.agg ((cs.drop off).take k).toArray,?_,VR.agg ((hl.drop off).take k)⟩;have hlen:=hl.length;simp only[part,JX,a,JQ,HG,rR,b k rfl];simp_all
  grind
def Pt{i:Int}{n k:Nat}(h:within i n=B1 k):i=(k:Int)/\k<n:=by
 unfold within at h;cases i with
 |ofNat m =>
  grind [uv]
 |negSucc m=>cases h
def q2y{o:KW}{t:IV}{x:IY}{i:Nat}{fs:Array Field}{f:Field}{n:Nat}(ho:o.op=.fieldAddr t x i)(j:P.underlying t=B1 (.struct fs))(g:fs[i]? = B1 f)(hn:bL P f.type=B1 n)(a:n≠0) :
 cO P o [x] (Op.fieldAddr f.offset):=by
 intro D θ ρ w vs v h c;unfold Op.fieldAddr at c;split at c
 .rename_i b d;have⟨y,heq,ha⟩:=h.nX;injection heq with heq _;subst heq
  cases c;have hr:=ha.now;refine⟨.pointer (B1 ⟨θ.bQ b,θ.off b+d+f.offset,B5⟩),.inl ?_,λ θ' hg=>?_⟩
  .simp [execOp,ho,Instr.fieldAt,ji j,g,<-hr,aq,An,fieldPlace,rH hn,a,uM]
  .have:=ha θ' hg
   grind [aq]
 grind
def q5w{o:KW}{t e:IV}{x i:IY}{len size:Nat}{n:Option Nat}(ho:o.op=.index t x i)(q:P.underlying t=B1 (.array len e))(hs:bL P e=B1 size)(hn:lY P e=B1 n) :
 cO P o [x,i] (Op.bD len size n):=by
 intro D θ ρ w vs v h b;unfold Op.bD at b;split at b
 .rename_i l k j;have⟨y,z,heq,ha,hb⟩:=h.px;injection heq with d a;injection a with a _;subst d;subst a
  cases hw:within j len with
  |none=>grind
  |some m =>
   rw[hw]at b;obtain⟨rfl,p⟩:=Pt hw;have⟨cs,f,hl⟩:=ha.eK;have⟨c,d,a⟩:=GZ (w:=w) hn hl b;refine⟨c,.inl ?_,a⟩;have g:(0:Int)<=(m:Int)/\(m:Int)<(len:Int):=by omega
   simp[execOp,ho,Instr.index,ji q,f,<-hb.now,aq,asIntOf,g,rH hs,d];omega
 grind
def q5y{o:KW}{t:IV}{x i:IY}(ho:o.op=.index t x i)(l:P.underlying t=B1 .string):cO P o [x,i] Op.bK:=by
 intro D θ ρ w vs v h a;unfold Op.bK at a;split at a
 .rename_i s k j;have⟨y,z,heq,ha,hb⟩:=h.px;injection heq with f b;injection b with b _;subst f;subst b
  cases hw:within j s.length with
  |none=>grind
  |some m =>
   rw[hw]at a;obtain⟨rfl,c⟩:=Pt hw;simp only[qm,kX]at a;obtain⟨u,hu⟩:∃u,s[m]? = B1 u:=⟨_,xj c⟩
   rw[hu]at a;cases a;refine⟨.int .u8 u.toNat,.inl ?_,.int _ _⟩;have d:(0:Int)<=(m:Int):=by omega
   have hg:getElem? (⟨s.toArray⟩:ByteArray) m=B1 u:=by
    have n:m<(⟨s.toArray⟩:ByteArray).size:=by grind [G2]
    rw[getElem?_pos (⟨s.toArray⟩:ByteArray) m n];have g:=(qo.1 hu).2;simp only[qe];exact g
   simp[execOp,ho,Instr.index,ji l,<-ha.now,<-hb.now,aq,asIntOf,d,hg]
 grind
def Yb{x:AV}{c:Hm}{size j b o:Nat}(h:VR D θ x c)(he:elemAt size x j=B1 (b,o)) :
 ∃n m,c=.slice (B1 ⟨θ.bQ b,θ.off b+o-j*size,B5⟩) n m/\j<n/\j*size<=o/\(∀θ',Ag D θ θ' -> θ'.bQ b = θ.bQ b /\ θ'.off b+o = θ.off b+o):=by
 have hr:=h.now;unfold elemAt at he;split at he
 .rename_i d o' n' i;cases hb:KI j n'<;>rw[hb]at he
  .cases he
  .simp only[xg,qe,xx]at he;obtain⟨rfl,rfl⟩:=he;refine⟨n',i,?_,by simp_all,by omega,λ θ' ha=>?_⟩
   .grind [aq]
   .have:=h θ' ha;grind [aq]
 .rename_i d f g p a n';cases hb:(KI j n' && FW p size && KI (f+j) g)<;>rw[hb]at he
  .cases he
  .simp only[xg,qe,xx]at he;obtain⟨rfl,rfl⟩:=he;simp only[xq,uv,je]at hb;obtain⟨⟨l,rfl⟩,q⟩:=hb;refine⟨n',g-f + θ.ext d,?_,l,by omega,λ θ' ha=>?_⟩
   .rw [<-hr];simp only[aq];grind
   .have:=h θ' ha;rw[<-hr]at this;simp only[aq,AK,qe,Ah]at this
    grind
 grind
def q76{o:KW}{t e:IV}{x i:IY}{size:Nat}(ho:o.op=.indexAddr t x i)(B:P.underlying t=B1 (.slice e))(hs:bL P e=B1 size) :
 cO P o [x,i] (Op.aN size):=by
 intro D θ ρ w vs v h d;unfold Op.aN at d;split at d
 .rename_i a k j;have⟨y,z,heq,ha,hb⟩:=h.px;injection heq with l g;injection g with g _;subst l;subst g
  cases hl:eL a with
  |none=>grind
  |some n0 =>
   rw[hl]at d;simp only[qm]at d;cases hw:within j n0 with
   |none=>grind
   |some m =>
    rw[hw]at d;simp only[qm]at d;obtain⟨rfl,u⟩:=Pt hw;cases he:elemAt size a m with
    |none=>grind
    |some p =>
     have⟨b,f⟩:=p;rw[he]at d;cases d;have⟨n,c,q,s,hle,A⟩:=Yb ha he;refine⟨.pointer (B1 ⟨θ.bQ b,θ.off b+f,B5⟩),.inl ?_,λ θ' hg=>?_⟩
     .have r:(0:Int)<=(m:Int)/\(m:Int)<(n:Int):=by omega
      have heq:θ.off b+f-m*size+m*size = θ.off b+f:=by omega
      simp[execOp,ho,Instr.indexAt,ji B,q,<-hb.now,aq,asIntOf,r,rH hs,uM,heq];omega
     grind [aq]
 grind
def q5x{o:KW}{t e:IV}{x i:IY}{len size:Nat}(ho:o.op=.indexAddr t x i)(n:P.underlying t=B1 (.array len e))(hs:bL P e=B1 size) :
 cO P o [x,i] (Op.aW len size):=by
 intro D θ ρ w vs v h a;unfold Op.aW at a;split at a
 .rename_i b d k j;have⟨y,z,heq,ha,hb⟩:=h.px;injection heq with f c;injection c with c _;subst f;subst c
  cases hw:within j len with
  |none=>grind
  |some m =>
   rw[hw]at a;cases a;obtain⟨rfl,l⟩:=Pt hw;have g:(0:Int)<=(m:Int)/\(m:Int)<(len:Int):=by omega
   refine⟨.pointer (B1 ⟨θ.bQ b,θ.off b+d+m*size,B5⟩),.inl ?_,λ θ' hg=>?_⟩
   .simp [execOp,ho,Instr.indexAt,ji n,<-ha.now,<-hb.now,aq,asIntOf,An,g,rH hs,uM];omega
   .have:=ha θ' hg;rw[<-ha.now]at this
    grind [aq]
 grind
def q5z{o:KW}{x:IY}(ho:o.op=.nilCheck x):cO P o [x] Op.nilCheck:=by
 intro D θ ρ w vs v h b;obtain⟨a,rfl,ha⟩:=bH.ie h;have hr:=ha.now;unfold Op.nilCheck at b;split at b
 .cases b
 .cases b
 .cases b
 .rename_i f d g heq;injection heq with heq;subst heq
  injection b with b;subst b
  exact⟨ρ x,.inl (by simp[execOp,ho,<-hr,aq,eW]),ha⟩
 .cases b
 .rename_i c i j l m n heq;injection heq with heq;subst heq
  injection b with b;subst b
  refine⟨ρ x,.inl ?_,ha⟩;have p:=hr.symm;clear hr ha h;cases a
  case nilp=>grind
  case nili=>grind
  case nilf=>grind
  case fn f' c b'=>grind
  all_goals simp_all[aq,execOp]
 grind
def pf(off:Nat):∀(cs:List Hm)(j:Nat)(arr:List Hm),off+j+cs.length<=arr.length ->
 ((cs.zipIdx j).foldl (λ acc(p:Hm×Nat)=>acc.setIfInBounds (off+p.2) p.1) arr.toArray)=(arr.take (off+j)++cs++arr.drop (off+j+cs.length)).toArray
 |[],j,arr,_=>by simp
 |c::cs,j,arr,h=>by
  simp only[List.zipIdx_cons,List.foldl_cons,List.setIfInBounds_toArray];rw[pf off cs (j+1) (arr.set (off+j) c) (by grind)];congr 1;have a:=list_seg_step arr (off+j) c cs (by simp at h⊢;omega)
  simpa[yz]using a
theorem xgb(off:Nat)(cs:Array Hm)(arr:List Hm)(h:off+cs.size<=arr.length) :
 (cs.zipIdx.foldl (λ acc(p:Hm×Nat)=>acc.setIfInBounds (off+p.2) p.1) arr.toArray)=(arr.take off++cs.toList++arr.drop (off+cs.size)).toArray:=by
 have:=pf off cs.toList 0 arr (by simpa using h);rw[<-Array.foldl_toList]
 simpa using this
def TE:∀(places:List (Nat×Nat))(vs:List AV)(parts:List (Nat×IY))(pl:Nat->Option (Nat×Nat))(out:List AV),
 Ad pl parts=B1 places->bH D θ vs (parts.map λ p=>ρ p.2) -> ∀(cells:List AV)(a:List Hm),bH D θ cells a->iD cells places vs=B1 out ->
 ∃cout:List Hm,Instr.fill pl a.toArray (parts.map λ p=>(p.1,ρ p.2))=B1 cout.toArray/\bH D θ out cout:=by
 intro places vs parts
 induction parts generalizing places vs with
 |nil =>
  intro pl out hp m cells a f d;simp only[Ad,qe]at hp;subst hp;have:vs=[]:=by have:=m.length;grind
  subst this;simp only[iD,qe]at d;subst d;exact⟨a,rfl,f⟩
 |cons p parts ih =>
  intro pl out hp m cells a f d;have⟨i,x⟩:=p;simp only[Ad]at hp;cases h:pl i with
  |none=>grind
  |some q =>
   have⟨off,size⟩:=q;rw[h]at hp;simp only[qm]at hp;cases hr:Ad pl parts with
   |none=>grind
   |some l =>
    rw[hr]at hp;cases hp;cases vs with
    |nil=>grind [iD]
    |cons v vs =>
     have⟨c,cs',n,o,r⟩:=m.dR;simp only[jm,zg]at n;obtain⟨rfl,rfl⟩:=n;simp only[iD,Ea]at d;cases hb:FW v.cells.length size
     .grind
     .rw [hb]at d;simp only[xg,Ct]at d;have b:=o.cells;have hlen:=b.length;have j:(ρ x).cells.size=size:=by simp_all
      split at d
      .rename_i hle;simp only[qm]at d;have t:=f.length;have g:bH D θ (cells.take off++v.cells++cells.drop (off+v.cells.length)) (a.take off++(ρ x).cells.toList++a.drop (off+v.cells.length)) :=
        ((f.take off).app b).app (f.drop _)
       have⟨cout,u,s⟩:=ih l vs pl out hr r _ _ g d;refine⟨cout,?_,s⟩;simp only[jm,Instr.fill,h];rw[qn (by simp only[List.size_toArray];rw[j];rw[<-Array.length_toList]at j;simp;omega)]
       grind [xgb]
      grind
def xgx(parts:Array (Nat×IY)):(parts.map λ(p:Nat×IY)=>(p.1,ρ p.2)).toList=parts.toList.map λ p=>(p.1,ρ p.2):=by simp
def q59(fs:Array Field)(a:∀f∈fs,∃n,bL P f.type=B1 n) :
 ∃pl:Array (Nat×Nat),(fs.mapM λ(f:Field)=>(do pure (f.offset,<-sizeOf f.type):Sem (Nat×Nat))).run P w=.ok pl w /\ ∀i:Nat,pl[i]? = IM P fs i:=by
 have key:∀l:List Field,(∀f∈l,∃n,bL P f.type=B1 n) ->
  ∃pl:List (Nat×Nat),(l.mapM λ(f:Field)=>(do pure (f.offset,<-sizeOf f.type):Sem (Nat×Nat))).run P w=.ok pl w /\ ∀i:Nat,pl[i]? = (l[i]?).bind λ(f:Field)=>(bL P f.type).bind λ n=>B1 (f.offset,n):=by
  intro l
  induction l with
  |nil=>simp_all
  |cons f l ih =>
   intro hl;have⟨n,hn⟩:=hl f (by simp);have⟨pl,b,c⟩:=ih (λ g hg=>hl g (by simp[hg]));refine⟨(f.offset,n)::pl,?_,λ i=>?_⟩
   .simp_all [rH]
   grind
 have⟨pl,b,c⟩:=key fs.toList (by grind);simp_all[Array.mapM_eq_mapM_toList,IM]
def qt6{o:KW}{t:IV}{parts:Array (Nat×IY)}{z:AV}{fs:Array Field}{b:List (Nat×Nat)}(ho:o.op=.build t parts)(r:zeroOf P t=B1 z)
 (A:P.underlying t=B1 (.struct fs)) (a:∀f∈fs,∃n,bL P f.type=B1 n) (hp:Ad (IM P fs) parts.toList=B1 b):cO P o (parts.toList.map (·.2)) (Op.build z.cells b):=by
 intro D θ ρ w vs v h c;have⟨u,s,d⟩:=Ia (w:=w) r;have⟨pl,x,l⟩:=q59 (w:=w) fs a;unfold Op.build at c;cases g:iD z.cells b vs with
 |none=>grind
 |some out =>
  rw[g]at c;cases c;have j:bH D θ vs (parts.toList.map λ p=>ρ p.2):=by grind [Function.comp_def]
  have⟨cout,y,m⟩:=TE (ρ:=ρ) b vs parts.toList (IM P fs) out hp j z.cells u.cells.toList (d D θ).cells g;refine⟨.agg cout.toArray,.inl ?_,VR.agg m⟩;have q:(λ i=>pl[i]?)=IM P fs:=funext l;simp_all[execOp,Instr.build,ji]
def _u{o:KW}{t e:IV}{parts:Array (Nat×IY)}{z:AV}{len n:Nat}{a:List (Nat×Nat)}(ho:o.op=.build t parts)(r:zeroOf P t=B1 z)
 (q:P.underlying t=B1 (.array len e)) (hn:bL P e=B1 n) (hp:Ad (Ij n) parts.toList=B1 a):cO P o (parts.toList.map (·.2)) (Op.build z.cells a):=by
 intro D θ ρ w vs v h b;have⟨s,c,d⟩:=Ia (w:=w) r;unfold Op.build at b;cases f:iD z.cells a vs with
 |none=>grind
 |some out =>
  rw[f]at b;cases b;have g:bH D θ vs (parts.toList.map λ p=>ρ p.2):=by grind [Function.comp_def]
  have⟨cout,j,l⟩:=TE (ρ:=ρ) a vs parts.toList (Ij n) out hp g z.cells s.cells.toList (d D θ).cells f;refine⟨.agg cout.toArray,.inl ?_,VR.agg l⟩;simp only[execOp,ho,Instr.build,JX,c,JQ,ji q,rH hn];have e:(parts.map λ(p:Nat×IY)=>(p.1,ρ p.2)).toList=parts.toList.map λ p=>(p.1,ρ p.2):=by simp
  simp only[Ak]at j;have m:(λ i=>B1 (i*n,n))=Ij n:=rfl;simp_all
end
end Go.Am
namespace Go.Am
section
variable{P:Fv}{D:Nat->Prop}{θ:Th}{ρ:IY->Hm}{w:J3}
def lO(D:Nat->Prop)(θ:Th)(ρ:IY->Hm):Option IY->Option AV->Prop
 |none,a=>a=B5
 |some x,a=>∃v,a=B1 v/\VR D θ v (ρ x)
def Nz:∀(opts:List (Option IY))(pre rest:List AV),bH D θ rest ((jA opts).map ρ) -> ∀(j:Nat)(o:Option IY)(idx:Option Nat),opts[j]? = B1 o->(fL pre.length opts)[j]? = B1 idx ->
 ∀a,arg (pre++rest) idx=B1 a->lO D θ ρ o a
 |[],pre,rest,h,j,o,idx,ho,hi,a,ha=>by grind
 |none::opts,pre,rest,h,j,o,idx,ho,hi,a,ha=>by
  cases j with
  |zero =>
   simp only[fL,zx,qe]at ho hi;subst ho;subst hi;simp only[arg,qe]at ha;exact ha.symm
  |succ j=>exact Nz opts pre rest h j o idx (by simpa using ho) (by simpa[fL]using hi) a ha
 |some x::opts,pre,rest,h,j,o,idx,ho,hi,a,ha=>by
  cases rest with
  |nil=>have:=h.length;grind [jA]
  |cons v rest =>
   have⟨c,cs,b,d,f⟩:=h.dR;simp only[jA,jm,zg]at b;obtain⟨rfl,rfl⟩:=b;cases j with
   |zero =>
    simp only[fL,zx,qe]at ho hi;subst ho;subst hi;simp only[arg,kX]at ha;rw[z7 (qg _)]at ha;simp at ha;exact⟨v,ha.symm,d⟩
   |succ j =>
    refine Nz opts (pre ++ [v]) rest f j o idx (by simpa using ho) (by simpa[fL]using hi) a ?_
    simpa using ha
def Rn{o:Option IY}{a:Option AV}{d mx r:Nat}(h:lO D θ ρ o a)(hb:bound a d mx=B1 r) :
 (match o with
  |none=>r=d
  |some x=>(∀code y,mx<=y->(Instr.sliceBound (ρ x) y code).run P w=.ok r w)/\r<=mx):=by
 cases o with
 |none =>
  grind [lO,bound]
 |some x =>
  obtain⟨v,rfl,g⟩:=h;unfold bound at hb;split at hb
  .grind
  .rename_i k i heq;cases heq;cases hle:Jo i mx<;>rw[hle]at hb
   .cases hb
   .injection hb with hb;subst hb
    have b:i<=mx:=by simpa[vd]using hle
    refine⟨λ code y j=>?_,b⟩;have c:(0:Int)<=(i:Int)/\(i:Int)<=(y:Int):=by omega
    have f:i<=y:=by omega
    simp[Instr.sliceBound,<-g.now,aq,asIntOf,c]
  .cases hb
def ME{lo c mx:Option IY}{a b m:Option AV}{g:Bool}{len cap low M Y h l:Nat}(ha:lO D θ ρ lo a)(hb:lO D θ ρ c b)(hm:lO D θ ρ mx m)
 (j:(mx=B5/\M=cap) \/ ∃d,bound m d low=B1 M/\low<=cap/\mx.isSome=B4) (s:Y<=M) (o:bound b len Y=B1 h) (hl:bound a 0 h=B1 l) (p:mx.isSome=B4->c.isSome=B4) :
 (AB g len cap (lo.map ρ) (c.map ρ) (mx.map ρ)).run P w=.ok (l,h,M) w:=by
 have i:=Rn (P:=P) (w:=w) hb o;have r:=Rn (P:=P) (w:=w) ha hl;cases mx with
 |none =>
  obtain⟨_,rfl⟩|⟨_,_,_,f⟩:=j
  .cases c with
   |none =>
    simp only at i;subst i;cases lo with
    |none=>simp_all[AB]
    |some x=>simp_all[AB]
   |some y =>
    cases lo with
    |none=>simp_all[AB]
    |some x=>simp_all[AB]
  grind
 |some z =>
  obtain⟨f,_⟩|⟨d,f,n,_⟩:=j
  .cases f
  .have q:=Rn (P:=P) (w:=w) hm f;cases c with
   |none=>grind
   |some y =>
    cases lo with
    |none=>simp_all[AB]
    |some x=>simp_all[AB]
theorem xco(v:AV)(d a:Nat){mx:Nat}:bound (B1 v) d mx=bound (B1 v) a mx:=by
 cases v<;>try rfl
 rename_i k n;cases n<;>rfl
def FE{o:Option IY}{a:Option AV}{d mx r:Nat}(h:lO D θ ρ o a)(hb:bound a d mx=B1 r)(b:d<=mx):r<=mx:=by
 cases o with
 |none=>grind [lO,bound]
 |some x =>
  obtain⟨v,rfl,c⟩:=h;unfold bound at hb;split at hb
  .grind
  .grind [vd]
  grind
def Zp(lo a mx:Option IY):∃i j k,fL 0 [lo,a,mx]=[i,j,k]:=by cases lo<;>cases a<;>cases mx<;>simp[fL]
def XG{size:Nat}{x:AV}{c:Hm}{lo A mx:Option IY}{a b m:Option AV}{v:AV}(F:VR D θ x c)(ha:lO D θ ρ lo a)(hb:lO D θ ρ A b)(hm:lO D θ ρ mx m)(f:ei size x a b m=B1 v) :
 ∃ad len cap l h M,c=.slice ad len cap/\(∀o,(AB o len cap (lo.map ρ) (A.map ρ) (mx.map ρ)).run P w=.ok (l,h,M) w) /\
  VR D θ v (.slice (if M=l then ad else ad.map (·.add (l*size))) (h-l) (M-l)):=by
 have hr:=F.now;unfold ei at f;split at f
 .-- nil
  split at f
  .rename_i R;cases j:bound b 0 0 with
   |none=>grind
   |some h =>
    rw[j]at f;simp only[qm]at f;cases hl:bound a 0 h with
    |none=>grind
    |some l =>
     rw[hl]at f;cases f;have p:mx=none:=by
      cases mx with
      |none=>rfl
      |some z=>have⟨_,q,_⟩:=hm;cases q
     subst p;have G:h=0/\l=0:=by
      have S:=FE hb j (qg _);have T:=FE ha hl (xu _);omega
     obtain⟨rfl,rfl⟩:=G;refine⟨B5,0,0,0,0,0,hr.symm,λ o=>ME (low:=0) ha hb hm (by grind) (qg _) j hl (by simp),λ θ' _=>by simp[aq]⟩
  grind
 .-- a slice of a known capacity
  rename_i bb oo n t;split at f
  .cases f
  .rename_i hnn;cases C:bound m t t with
   |none=>grind
   |some M =>
    rw[C]at f;simp only[qm]at f;cases j:bound b n M with
    |none=>grind
    |some h =>
     rw[j]at f;simp only[qm]at f;cases hl:bound a 0 h with
     |none=>grind
     |some l =>
      rw[hl]at f;cases f;have O:mx.isSome=B4->A.isSome=true:=by
       intro q;cases mx with
       |none=>cases q
       |some z =>
        have⟨_,X,_⟩:=hm;cases A with
        |some _=>rfl
        |none=>grind [lO]
      have I:(mx=B5/\M=t) \/ ∃d,bound m d t=B1 M/\t<=t/\mx.isSome=true:=by
       cases mx with
       |none=>grind [lO,bound]
       |some z=>grind
      refine⟨_,n,t,l,h,M,hr.symm,λ o=>ME ha hb hm I (qg _) j hl O,λ θ' hg=>?_⟩;have g:=F θ' hg;rw[<-hr]at g;simp only[aq,AK,qe,Ah]at g⊢
      by_cases e:M=l
      .simp_all
      .have e':FW M l=false:=by simp_all[Bool.eq_false_iff]
       grind [uM]
 .-- a grown row's slice
  rename_i bb i B s alt n;cases J:(FW s size && Jo i B)<;>rw[J]at f
  .cases f
  .simp only[xq,je,vd]at J;obtain⟨rfl,him⟩:=J;simp only[xg]at f;split at f
   .-- no third bound
    rename_i hi';have p:mx=none:=by
     cases mx with
     |none=>rfl
     |some z=>have⟨_,q,_⟩:=hm;cases q
    subst p;cases j:bound b n (B-i)with
    |none=>grind
    |some h =>
     rw[j]at f;simp only[qm]at f;cases hl:bound a 0 h with
     |none=>grind
     |some l =>
      rw[hl]at f;simp only[qm]at f;cases u:Jo h (B-i)<;>rw[u]at f
      .cases f
      .cases f;have Z:h<=B-i:=by simp_all
       have L:=FE ha hl (xu _);refine⟨_,n,_,l,h,_,hr.symm,λ o=>ME (low:=0) ha hb hm (.inl ⟨rfl,rfl⟩) (Md _ _) j hl (by simp),λ θ' hg=>?_⟩;have g:=F θ' hg;rw[<-hr]at g;simp only[aq,AK,qe,Ah,rp,Cu]at g;have⟨⟨q1,S⟩,T⟩:=g;have r:θ'.ext bb = θ.ext bb:=by omega
       have hmul:(i+l)*s=i*s+l*s:=yk i l s;simp only[aq,AK,Cu,r,hmul];refine⟨?_,by omega⟩
       by_cases e:B-i + θ.ext bb=l
       .rw [qv e,qv (by omega)];simp_all
       .rw [qn e,qn (by omega)];simp only[wq,uM,qe,Ah,rp]
        grind
   .cases f
   .-- a third bound
    rename_i V W;cases C:bound m 0 (B-i)with
    |none=>grind
    |some M =>
     rw[C]at f;simp only[qm]at f;cases j:bound b 0 M with
     |none=>grind
     |some h =>
      rw[j]at f;simp only[qm]at f;cases hl:bound a 0 h with
      |none=>grind
      |some l =>
       rw[hl]at f;simp only[qm]at f;cases u:FW M l<;>rw[u]at f
       .cases f;have N:M≠l:=by intro e;simp_all
        obtain⟨z,X,Q⟩:∃z,mx=B1 z /\ ∃v,m=B1 v:=by
         cases mx with
         |none=>grind [lO]
         |some z=>have⟨v,q,_⟩:=hm;grind
        have⟨mv,hmv⟩:=Q;have E:A.isSome=true:=by
         cases A with
         |some _=>rfl
         |none=>grind [lO]
        have U:=FE hm C (xu _);have Y:=FE hb j (xu _);have L:=FE ha hl (xu _);have K:bound b n M=B1 h:=by
         have⟨y,hy⟩:=Option.isSome_iff_exists.1 E;subst hy;have⟨bv,q,_⟩:=hb
         grind [xco]
        refine⟨_,n,_,l,h,M,hr.symm,λ o=>ME ha hb hm (.inr ⟨0,C,Md _ _,by rw[X];rfl⟩) (qg _) K hl (λ _=>E),λ θ' hg=>?_⟩;have g:=F θ' hg;rw[<-hr]at g;simp only[aq,AK,qe,Ah,rp,Cu]at g;have⟨⟨q1,S⟩,T⟩:=g;have r:θ'.ext bb = θ.ext bb:=by omega
        have hmul:(i+l)*s=i*s+l*s:=yk i l s;simp only[aq,AK,rp,hmul,qn N,wq,uM,qe,Ah]
        grind
       grind
 .-- a slice without room
  rename_i bb;split at f
  .rename_i R;cases j:bound b 0 0 with
   |none=>grind
   |some h =>
    rw[j]at f;simp only[qm]at f;cases hl:bound a 0 h with
    |none=>grind
    |some l =>
     rw[hl]at f;cases f;have p:mx=none:=by
      cases mx with
      |none=>rfl
      |some z=>have⟨_,q,_⟩:=hm;cases q
     subst p;have G:h=0/\l=0:=by
      have S:=FE hb j (qg _);have T:=FE ha hl (xu _);omega
     obtain⟨rfl,rfl⟩:=G;refine⟨_,0,0,0,0,0,hr.symm,λ o=>ME (low:=0) ha hb hm (by grind) (qg _) j hl (by simp),λ θ' hg=>?_⟩;rw[F θ' hg,<-hr];rfl
  grind
 grind
def _l{o:KW}{t e:IV}{x:IY}{lo n mx:Option IY}{size:Nat}(ho:o.op=.slice t x lo n mx)(N:P.underlying t=B1 (.slice e))(hs:bL P e=B1 size) :
 cO P o (x::jA [lo,n,mx]) (Op.aJ size (fL 0 [lo,n,mx])):=by
 intro D θ ρ w vs v h f;have⟨i,j,k,u⟩:=Zp lo n mx;rw[u]at f;unfold Op.aJ at f;split at f
 .rename_i I G J y g heq;injection heq with E r;injection r with r s;injection s with s _;subst E;subst r;subst s
  have⟨c,cs,p,A,F⟩:=h.dR;simp only[jm,zg]at p;obtain⟨rfl,rfl⟩:=p;have d:=λ(q:Nat)(C:Option IY)(idx:Option Nat)(p:[lo,n,mx][q]? = B1 C)(A:[i,j,k][q]? = B1 idx)=>Nz [lo,n,mx] [] g F q C idx p (by grind);cases ha:arg g i with
  |none=>grind
  |some a =>
   rw[ha]at f;simp only[qm]at f;cases hb:arg g j with
   |none=>grind
   |some b =>
    rw[hb]at f;simp only[qm]at f;cases hm:arg g k with
    |none=>grind
    |some m =>
     rw[hm]at f;simp only[qm]at f;have⟨ad,len,cap,l,L,M,K,B,z⟩:=XG (P:=P) (w:=w) A (d 0 lo i rfl rfl a ha) (d 1 n j rfl rfl b hb) (d 2 mx k rfl rfl m hm) f;refine⟨_,.inl ?_,z⟩;simp_all[execOp,Instr.sliceAt,ji,Instr.slice,rH]
 grind
def q50{o:KW}{t e:IV}{x:IY}{lo r mx:Option IY}{n size:Nat}(ho:o.op=.slice t x lo r mx)(R:P.underlying t=B1 (.array n e))(hs:bL P e=B1 size) :
 cO P o (x::jA [lo,r,mx]) (Op.cG n size (fL 0 [lo,r,mx])):=by
 intro D θ ρ w vs v h f;have⟨i,j,k,E⟩:=Zp lo r mx;rw[E]at f;unfold Op.cG at f;split at f
 .rename_i T Q U p y g heq;injection heq with L B;injection B with B C;injection C with C _;subst L;subst B;subst C
  have⟨c,cs,z,A,N⟩:=h.dR;simp only[jm,zg]at z;obtain⟨rfl,rfl⟩:=z;have d:=λ(q:Nat)(G:Option IY)(idx:Option Nat)(z:[lo,r,mx][q]? = B1 G)(A:[i,j,k][q]? = B1 idx)=>Nz [lo,r,mx] [] g N q G idx z (by grind);cases ha:arg g i with
  |none=>grind
  |some a =>
   rw[ha]at f;simp only[qm]at f;cases hb:arg g j with
   |none=>grind
   |some b =>
    rw[hb]at f;simp only[qm]at f;cases hm:arg g k with
    |none=>grind
    |some m =>
     rw[hm]at f;simp only[qm]at f;have S:VR D θ (.slice p y n n) (.slice (B1 ⟨θ.bQ p,θ.off p+y,B5⟩) n n):=λ θ' hg=>by
      have:=A θ' hg;rw[<-A.now]at this;grind [aq]
     have⟨ad,len,cap,l,V,M,O,u,F⟩:=XG (P:=P) (w:=w) S (d 0 lo i rfl rfl a ha) (d 1 r j rfl rfl b hb) (d 2 mx k rfl rfl m hm) f;injection O with I J K;subst I;subst J;subst K
     refine⟨_,.inl ?_,F⟩;have s:=u B2;simp only[execOp,ho,Instr.sliceAt,JX,ji R,JQ,<-A.now,aq,An,A',s,rH hs]
     grind
 grind
def Wm{mx:Bool}{k:KB}:∀(l:List AV)(cs:List Hm)(a r:Int),bH D θ l cs->Op.gT mx a l=B1 r ->
 (cs.foldlM (λ x y=>if mx then Builtin.max2 x y else Builtin.min2 x y) (Hm.int k a)).run P w=.ok (.int k r) w
 |[],cs,a,r,h,hg=>by
  have:=h.kP;simp_all[Op.gT]
 |v::l,cs,a,r,h,hg=>by
  obtain⟨c,cs',rfl,f,hl⟩:=h.dR;cases v with
  |int k' b =>
   simp only[Op.gT]at hg;have g:=Wm (mx:=mx) (k:=k) l cs' _ r hl hg;have d:=f.now;simp only[aq]at d;subst d;simp only[HZ]at g;have s1:(Builtin.min2 (.int k a) (.int k' b)).run P w=.ok (.int k (if b<a then b else a)) w:=rfl;have s2:(Builtin.max2 (.int k a) (.int k' b)).run P w=.ok (.int k (if b > a then b else a)) w:=rfl;cases mx
   .simp only[List.foldlM_cons,za,y8,JX,s1,JQ]
    grind
   .simp only[List.foldlM_cons,rR,JX,s2,JQ]
    grind
  |_=>grind [Op.gT]
def xab{o:KW}{c:Call}{xs:List IY}{mx:Bool}(ho:o.op=.call c)(m:c.callee=.builtin (if mx then .max else .min))(n:c.args.toList=xs):cO P o xs (Op.eN mx):=by
 intro D θ ρ w vs v h d;have⟨consts,he⟩:=G1 (ρ:=ρ) ho m;unfold Op.eN at d;split at d
 .rename_i k a l;cases hg:Op.gT mx a l with
  |none=>rw[hg]at d;cases d
  |some r =>
   rw[hg]at d;cases d;have⟨p,cs',g,i,j⟩:=h.dR;have b:=Wm (P:=P) (w:=w) (k:=k) l cs' a r j hg;have f:=i.now;simp only[aq]at f;subst f;refine⟨.int k r,.inl ?_,.int _ _⟩;rw[he,wO n,g];cases mx
   .simp only[za,y8]at b⊢;simp[builtin,Builtin.min_,b]
   simp_all[builtin,Builtin.max_]
 grind
def ae2{o:KW}{c:Call}{f:FuncId}{fn:Func}{e:Array Hm->Sem Hm}(ho:o.op=.call c)(d:c.callee=.value (.func f))(h:ρ (.func f)=.func (.func f) #[] #[])(g:P.funcs[f]? = B1 fn)(hb:fn.body=B5)
 (hn:fn.name≠ "runtime.NumGoroutine") (a:Extern.findNext fn=B5) (b:Extern.find fn=B1 e) :
 (execOp ρ o).run P w=((e (c.args.map ρ)).run P w).andThen λ v w'=>.ok (.value v) w':=by
 simp[execOp,ho,resolve,d,h,AO,invoke,callFunc,g,hb,hn,a,b]
def ae3(s:List UInt8):(Extern.Bytes.bytesOf (.string ⟨s.toArray⟩)).run P w=.ok ⟨s.toArray⟩ w:=rfl
def _B(n:Int):(Extern.Bytes.asByte (.int .u8 n)).run P w=.ok (AN n.toNat) w:=rfl
theorem q9j(c:UInt8)(s:List UInt8)(k:Nat):EI c s k=((Ig s.length).find? λ i=>s[i]! == c).map (·+k):=by
 induction s generalizing k with
 |nil=>rfl
 |cons x s ih =>
  simp only[EI,PZ,zy];rw[List.range_succ_eq_map,List.find?_cons];have hm:(List.find? (λ i=>(x::s)[i]! == c) (List.map Nat.succ (Ig s.length)))=((Ig s.length).find? λ i=>s[i]! == c).map Nat.succ:=by
   rw[List.find?_map];rfl
  rw[hm,ih (k+1)];have a:(x::s)[0]! = x:=rfl;rw[a];cases h:(x == c)
  .simp only[ze,Option.map_map];congr 1
   grind
  .simp
def uU(s:List UInt8)(i:Nat):(⟨s.toArray⟩:ByteArray)[i]! = s[i]!:=by
 by_cases h:i<s.length
 .have a:i<(⟨s.toArray⟩:ByteArray).size:=by grind [G2]
  rw[getElem!_pos (⟨s.toArray⟩:ByteArray) i a,getElem!_pos s i h];rfl
 grind [G2]
def q7g{P:Fv}{w:J3}(s:List UInt8)(n:Int):(Extern.BytealgIndexByte.indexByte #[.string ⟨s.toArray⟩,.int .u8 n]).run P w =
 .ok (match(Ig s.length).find? (λ i=>s[i]! == AN n.toNat)with|some i=>goInt i|none=>goInt (-1)) w:=by
 change Sem.run P (Extern.Bytes.bytesOf (.string ⟨s.toArray⟩) >>= _) w=_;rw[JX,ae3];change Sem.run P (Extern.Bytes.asByte (.int .u8 n) >>= _) w=_;rw[JX,_B];have a:(λ i=>(⟨s.toArray⟩:ByteArray)[i]! == AN n.toNat)=(λ i=>s[i]! == AN n.toNat):=funext λ i=>by rw[uU]
 simp only[JQ,G2,a];cases(Ig s.length).find? (λ i=>s[i]! == AN n.toNat)<;>rfl
def qpe{o:KW}{c:Call}{f:FuncId}{fn:Func}{xs:List IY}(ho:o.op=.call c)(l:c.callee=.value (.func f))(m:P.funcs[f]? = B1 fn)(hb:fn.body=B5)
 (hn:fn.name≠ "runtime.NumGoroutine") (g:Extern.findNext fn=B5) (j:Extern.find fn=B1 Extern.BytealgIndexByte.indexByte) (p:c.args.toList=xs) :
 ∀(D:Nat->Prop)θ(ρ:IY->Hm)w vs v,ρ (.func f)=.func (.func f) #[] #[]->bH D θ vs (xs.map ρ)->Op.aB vs=B1 v -> ∃c,p8 P (execOp ρ o) w c w/\VR D θ v c:=by
 intro D θ ρ w vs v q h b;unfold Op.aB at b;split at b
 .rename_i s n;obtain⟨x,y,rfl,ha,a⟩:=h.px;cases b;refine⟨_,.inl ?_,.int _ _⟩;rw[ae2 ho l q m hb hn g j,wO p];have d:(λ i=>(⟨s.toArray⟩:ByteArray)[i]! == AN n.toNat)=(λ i=>s[i]! == AN n.toNat):=funext λ i=>by rw[uU]
  simp only[jm,G6,<-ha.now,<-a.now,aq,q7g,JQ]
  grind [q9j,goInt]
 grind
def xg1{o:KW}(xs:List IY):cO P o xs Op.fail:=by
 intro D θ ρ w vs v _ a;cases a
end
end Go.Am
namespace Go.Am
def oQ(P:Fv)(o:KW)(xs:List IY)(f:List AV->ar->Option AV):Prop :=
 ∀(base:Nat)(D:Nat->Prop)θ H(ρ:IY->Hm)w vs v,HR P base D θ H w->bH D θ vs (xs.map ρ)->f vs H=B1 v -> ∃c,p8 P (execOp ρ o) w c w/\VR D θ v c
section
variable{P:Fv}
def xds{o:KW}{t:IV}{x:IY}(ho:o.op=.load t x)(j:lY P t=B1 B5):oQ P o [x] Op.ae:=by
 intro base D θ H ρ w vs v i h a;unfold Op.ae at a;split at a
 .rename_i b off;have⟨l,he,ha⟩:=h.nX;simp only[zg,rp]at he;subst he;have⟨c,f,g⟩:=i.ae a;refine⟨c,.inl ?_,g⟩;have⟨d,_⟩:=O3 (w:=w) j;simp only[execOp,ho,<-ha.now,aq,Instr.loadAt,An,loadVar,JX,A',JQ,d,KV,za,y8,f]
 grind
def xdt{o:KW}{t:IV}{x:IY}{n:Nat}(ho:o.op=.load t x)(j:lY P t=B1 (B1 n)):oQ P o [x] (Op.av n):=by
 intro base D θ H ρ w vs v i h a;unfold Op.av at a;split at a
 .rename_i b off;have⟨m,he,ha⟩:=h.nX;simp only[zg,rp]at he;subst he;cases hl:H.av b off n with
  |none=>grind
  |some l =>
   rw[hl]at a;cases a;have⟨cs,f,g,_⟩:=i.av hl;refine⟨.agg cs.toArray,.inl ?_,.agg g⟩;have⟨c,d⟩:=O3 (w:=w) j;simp only[execOp,ho,<-ha.now,aq,Instr.loadAt,An,loadVar,JX,A',JQ,c,d n rfl,HG,rR,f]
 grind
theorem HR.fR{base:Nat}{D:Nat->Prop}{θ:Th}{H:ar}{w:J3}(h:HR P base D θ H w){b:Nat}{m:List (AV×AV×Nat)×Nat}(hb:H.fR b=B1 m) :
 H.get b=B1 (.map m.1 m.2)/\D b /\ ∃ms:List AW,w.heap[θ.bQ b]? = B1 (.map ms.toArray m.2)/\cV D θ m.1 ms:=by
 unfold ar.fR at hb;cases hg:H.get b with
 |none=>grind
 |some o =>
  rw[hg]at hb;have⟨f,co,d,hr⟩:=h.obj b o hg;cases o<;>simp only[reduceCtorEq,qe]at hb;subst hb;have⟨ms,a,c⟩:=hr
  grind
def IF{w:J3}{r:Nat}{ms:Array AW}{c:Nat}(h:w.heap[r]? = B1 (.map ms c)):(getObj r).run P w=.ok (.map ms c) w:=by
 simp[getObj,Sem.run,h]
def cV.length{D:Nat->Prop}{θ:Th}:∀(es:List (AV×AV×Nat))(ms:List AW),cV D θ es ms->es.length=ms.length
 |[],[],_=>rfl
 |_::es,_::ms,⟨_,h⟩=>by simp[cV.length es ms h]
 |[],_::_,h=>h.elim
 |_::_,[],h=>h.elim
def VR.isAgg{D:Nat->Prop}{θ:Th}{l:List AV}{c:Hm}(h:VR D θ (.agg l) c):∃cs:List Hm,c=.agg cs.toArray/\bH D θ l cs:=h.eK
def q9h{t:IV}{fs:Array Field}(h:P.underlying t=B1 (.struct fs)):P.fieldsOf t=fs:=by
 simp[Fv.fieldsOf,h]
def xcw{x y:AV}{r:Bool}(h:aZ .int x y=B1 r):∃k a b,x=.int k a/\y=.int k b/\r=(a == b):=by
 cases x<;>cases y<;>simp only[aZ,reduceCtorEq]at h;rename_i k a k' b;cases hk:ry k k' with
 |false=>grind
 |true =>
  rw[hk]at h;simp only[xg,qe]at h;have:k=k':=by simpa[O7]using hk
  subst this
  grind [yJ]
def m_{x y:AV}{r:Bool}(h:aZ .str x y=B1 r):∃a b,x=.str a/\y=.str b/\r=(a == b):=by
 cases x<;>cases y<;>simp only[aZ,reduceCtorEq,qe]at h
 grind [GS]
def q9g{x y:AV}{r:Bool}(h:aZ .bool x y=B1 r):∃a b,x=.bool a/\y=.bool b/\r=(a == b):=by
 cases x<;>cases y<;>simp only[aZ,reduceCtorEq,qe]at h
 grind
theorem OZ{off:Nat}{n:Option Nat}{t rest:aM}{x y:AV}{r:Bool}(h:aZ (.part off n t rest) x y=B1 r) :
 ∃l c a b q,x=.agg l/\y=.agg c/\partAt l off n=B1 a/\partAt c off n=B1 b/\aZ t a b=B1 q/\(q=B4->aZ rest (.agg l) (.agg c)=B1 r)/\(q=B2->r=B2):=by
 cases x<;>cases y<;>simp only[aZ,reduceCtorEq]at h
 grind [qd]
theorem OU{x y:AV}{r:Bool}(h:aZ .nil x y=B1 r):r=B4/\(∃l,x=.agg l)/\(∃l,y=.agg l):=by
 cases x<;>cases y<;>simp only[aZ,reduceCtorEq,qe]at h
 grind
def VJ(s:Nat)(a:Option Nat)(q:aM)(n i:Nat){x y:AV}{r:Bool}(h:aZ (dc.itemsT s a q n i) x y=B1 r):(∃l,x=.agg l)/\(∃l,y=.agg l):=by
 cases n with
 |zero=>exact(OU h).2
 |succ n=>have⟨l,d,_,_,_,b,c,_⟩:=OZ h;grind
def XH{go:IV->Option aM}{fs:List Field}{q:aM}(a:dc.fieldsT P go fs=B1 q){x y:AV}{r:Bool}(h:aZ q x y=B1 r):(∃l,x=.agg l)/\(∃l,y=.agg l):=by
 cases fs with
 |nil=>cases a;grind [OU]
 |cons f fs =>
  simp only[dc.fieldsT]at a;split at a
  .cases a
  .simp only[qd]at a
   grind [OZ]
def BR(P:Fv)(w:J3)(D:Nat->Prop)(θ:Th)(m:Nat)(t:IV)(q:aM):Prop :=
 ∀(x y:AV)(cx cy:Hm)(r:Bool),VR D θ x cx->VR D θ y cy->aZ q x y=B1 r->(AE m t cx cy).run P w=.ok r w
def Zz{w:J3}{D:Nat->Prop}{θ:Th}{m:Nat}{go:IV->Option aM}(o:∀t q,go t=B1 q->BR P w D θ m t q){l p:List AV}{cs cs':List Hm}(hl:bH D θ l cs)(d:bH D θ p cs') :
 ∀(fs:List Field)(q:aM)(r:Bool),dc.fieldsT P go fs=B1 q->aZ q (.agg l) (.agg p)=B1 r->(Op.eqFields m cs.toArray cs'.toArray fs).run P w=.ok r w
 |[],q,r,b,h=>by
  cases b;rw[(OU h).1];simp[Op.eqFields]
 |f::fs,q,r,b,h=>by
  simp only[dc.fieldsT]at b;split at b
  .cases b
  .rename_i hn;simp only[qd]at b;have⟨a,ha,F,j,G,n,b⟩:=b;cases b;have⟨l1,l2,x,y,e,g,i,u,v,z,A,I⟩:=OZ h;injection g with g;injection i with i;subst g;subst i
   have⟨c,B,v1⟩:=GZ (w:=w) ha hl u;have⟨s,C,v2⟩:=GZ (w:=w) ha d v;have E:=o f.type F j x y c s e v1 v2 z;simp only[Op.eqFields,hn,ne_eq,not_false_eq_true,rR,JX,B,C,E,JQ];cases e
   .simp_all
   .simpa using Zz o hl d fs G r n (A rfl)
def Y0{w:J3}{D:Nat->Prop}{θ:Th}{m:Nat}{e:IV}{s:Nat}{a:Option Nat}{q:aM}(ha:lY P e=B1 a)(j:BR P w D θ m e q){l o:List AV}{cs cs':List Hm}(hl:bH D θ l cs)(d:bH D θ o cs') :
 ∀(n i:Nat)(r:Bool),aZ (dc.itemsT s a q n i) (.agg l) (.agg o)=B1 r->(Op.eqItems m e s cs.toArray cs'.toArray (List.range' i n)).run P w=.ok r w
 |0,i,r,h=>by rw[(OU h).1];simp[Op.eqItems]
 |n+1,i,r,h=>by
  have⟨l1,l2,x,y,b,f,g,t,u,v,z,E⟩:=OZ h;injection f with f;injection g with g;subst f;subst g
  have⟨c,A,v1⟩:=GZ (w:=w) ha hl t;have⟨p,B,v2⟩:=GZ (w:=w) ha d u;have C:=j x y c p b v1 v2 v;simp only[List.range'_succ,Op.eqItems,JX,A,B,C,JQ];cases b
  .simp_all
  .simpa using Y0 ha j hl d n (i+1) r (z rfl)
def NT(m:Nat){D:Nat->Prop}{θ:Th}(w:J3):∀(d:Nat)(t:IV)(q:aM),dc P d t=B1 q->BR P w D θ (d+m) t q
 |0,_,_,h=>by cases h
 |d+1,t,q,h=>by
  intro x y G I r g j hr;unfold dc at h;have v:d+1+m=(d+m)+1:=by omega
  rw[v];cases hu:P.underlying t with
  |none=>grind
  |some kd =>
   rw[hu]at h;cases kd
   case int k0 =>
    cases h;obtain⟨k,a,b,rfl,rfl,rfl⟩:=xcw hr;rw[<-g.now,<-j.now,aq,aq,run_equalIn_int w _ t k k0 a b hu]
   case string =>
    cases h;obtain⟨a,b,rfl,rfl,rfl⟩:=m_ hr;rw[<-g.now,<-j.now,aq,aq,run_equalIn_string w _ t _ _ hu,VG,VG]
   case bool =>
    cases h;obtain⟨a,b,rfl,rfl,rfl⟩:=q9g hr;rw[<-g.now,<-j.now,aq,aq,run_equalIn_bool' w _ t _ _ hu]
   case struct fs =>
    simp only at h;split at h
    .cases h
    .rename_i p;have f:P.stoodInHeld t=false:=by simpa using p
     obtain⟨⟨l,rfl⟩,⟨E,rfl⟩⟩:=XH h hr;obtain⟨cs,rfl,hl⟩:=g.eK;obtain⟨cs',rfl,c⟩:=j.eK;have u:=q9h hu;rw[run_equalIn_struct w _ t _ _ (by rw[u];exact hu) f,u];exact Zz (λ t q C=>NT m w d t q C) hl c _ _ _ h hr
   case array n e =>
    simp only[qd]at h;have⟨s,hs,a,ha,F,o,h⟩:=h;cases h;obtain⟨⟨l,rfl⟩,⟨E,rfl⟩⟩:=VJ _ _ _ _ _ hr;obtain⟨cs,rfl,hl⟩:=g.eK;obtain⟨cs',rfl,c⟩:=j.eK;have⟨i,A,B⟩:=Yu hs;rw[run_equalIn_array _ _ _ _ hu A,List.range_eq_range'];have z:P.cellsOf e=s:=by grind [Fv.cellsOf]
    rw[z];exact Y0 ha (NT m w d e F o) hl c n 0 r hr
   all_goals grind
theorem Pj{off:Nat}{n:Option Nat}{t rest:aM}{x:AV}(h:cP (.part off n t rest) x=B4) :
 ∃l a,x=.agg l/\partAt l off n=B1 a/\cP t a=B4/\cP rest (.agg l)=true:=by
 cases x<;>simp only[cP,za]at h
 grind
def YS{x:AV}(h:cP .nil x=B4):∃l,x=.agg l:=by
 cases x<;>simp only[cP,za]at h
 grind
def q98(s:Nat)(a:Option Nat)(q:aM)(n i:Nat){x:AV}(h:cP (dc.itemsT s a q n i) x=B4):∃l,x=.agg l:=by
 cases n with
 |zero=>exact YS h
 |succ n=>have⟨l,_,b,_⟩:=Pj h;grind
def q70{go:IV->Option aM}{fs:List Field}{q:aM}(a:dc.fieldsT P go fs=B1 q){x:AV}(h:cP q x=B4):∃l,x=.agg l:=by
 cases fs with
 |nil=>cases a;exact YS h
 |cons f fs =>
  simp only[dc.fieldsT]at a;split at a
  .cases a
  .simp only[qd]at a
   grind [Pj]
def FY(P:Fv)(w:J3)(D:Nat->Prop)(θ:Th)(em:Bool)(m:Nat)(t:IV)(q:aM):Prop :=
 ∀(x:AV)(cx:Hm),VR D θ x cx->cP q x=B4->(AQ em m t cx).run P w=.ok () w
def V9{w:J3}{D:Nat->Prop}{θ:Th}{em:Bool}{m:Nat}{e:IV}{s:Nat}{a:Option Nat}{q:aM}(ha:lY P e=B1 a)(hs:bL P e=B1 s)(b:FY P w D θ em m e q){l:List AV}{cs:List Hm}(hl:bH D θ l cs) :
 ∀(n i:Nat),cP (dc.itemsT s a q n i) (.agg l)=B4 ->
  (forIn (List.range' i n) PUnit.unit (λ i _=>(do AQ em m e (<-part e cs.toArray (i*(<-sizeOf e)));pure (ForInStep.yield PUnit.unit):Sem (ForInStep PUnit)))).run P w=.ok PUnit.unit w
 |0,i,h=>by simp
 |n+1,i,h=>by
  have⟨l1,x,d,f,g,j⟩:=Pj h;cases d;have⟨c,o,v1⟩:=GZ (w:=w) ha hl f;have p:=b x c v1 g;simp only[List.range'_succ,List.forIn_cons,JX,rH hs,o,p,JQ,A']
  simpa using V9 ha hs b hl n (i+1) j
def Uj(em:Bool)(m:Nat){D:Nat->Prop}{θ:Th}(w:J3):∀(d:Nat)(t:IV)(q:aM),dc P d t=B1 q->FY P w D θ em (d+m) t q
 |0,_,_,h=>by cases h
 |d+1,t,q,h=>by
  intro x B j hr;unfold dc at h;have o:d+1+m=(d+m)+1:=by omega
  rw[o];cases hu:P.underlying t with
  |none=>grind
  |some kd =>
   rw[hu]at h;cases kd
   case int k0=>simp[AQ,ji hu]
   case string=>simp[AQ,ji hu]
   case bool=>simp[AQ,ji hu]
   case struct fs =>
    simp only at h;split at h
    .cases h
    .obtain ⟨l,rfl⟩:=q70 h hr;obtain⟨cs,rfl,hl⟩:=j.eK;simp only[AQ,JX,ji hu,JQ];rw[<-Array.forIn_toList];clear hu;generalize fs.toList=L at h
     induction L generalizing q with
     |nil=>simp
     |cons f L ihL =>
      simp only[dc.fieldsT]at h;split at h
      .cases h
      .rename_i hn;simp only[qd]at h;have⟨a,ha,i,b,A,g,h⟩:=h;cases h;have⟨l1,x,p,r,u,v⟩:=Pj hr;cases p;have⟨c,y,v1⟩:=GZ (w:=w) ha hl r;have z:=Uj em m w d f.type i b x c v1 u;simp only[List.forIn_cons,JX,hn,ne_eq,not_false_eq_true,rR,JQ,y,z,A'];exact ihL A v g
   case array n e =>
    simp only[qd]at h;have⟨s,hs,a,ha,i,b,h⟩:=h;cases h;obtain⟨l,rfl⟩:=q98 _ _ _ _ _ hr;obtain⟨cs,rfl,hl⟩:=j.eK;have:=V9 (w:=w) (em:=em) ha hs (Uj em m w d e i b) hl n 0 hr;simp_all[AQ,ji]
   all_goals grind
def Uk{em:Bool}{D:Nat->Prop}{θ:Th}{w:J3}{t:IV}{q:aM}(h:nT P t=B1 q){x:AV}{a:Hm}(b:VR D θ x a)(hr:cP q x=B4) :
 (AQ em 10000 t a).run P w=.ok () w:=Uj em 9980 w 20 t q h x a b hr
def Ce{D:Nat->Prop}{θ:Th}{w:J3}{t:IV}{q:aM}(h:nT P t=B1 q){x y:AV}{a b:Hm}{r:Bool}(c:VR D θ x a)(d:VR D θ y b)(hr:aZ q x y=B1 r) :
 (BW t a b).run P w=.ok r w:=NT 9980 w 20 t q h x y a b r c d hr
def FF(D:Nat->Prop)(θ:Th):Option (Nat×AV)->Option (Nat×Hm)->Prop
 |none,B5=>True
 |some (i,v),B1 (j,c)=>i=j/\VR D θ v c
 |_,_=>False
def VZ{D:Nat->Prop}{θ:Th}{w:J3}{t:IV}{q:aM}(h:nT P t=B1 q){k:AV}{d:Hm}(hk:VR D θ k d) :
 ∀(es:List (AV×AV×Nat))(ms:List AW)(i:Nat)(r:Option (Nat×AV)),cV D θ es ms->findKey q k es i=B1 r ->
  ∃a,(AF t d ms i).run P w=.ok a w/\FF D θ r a
 |[],[],i,r,_,hr=>by
  simp only[findKey,qe]at hr;subst hr;exact⟨B5,by simp[AF],trivial⟩
 |(k',v,b)::es,e::ms,i,r,⟨⟨h1,h2,_⟩,hes⟩,hr=>by
  simp only[findKey,qd]at hr;have⟨c,j,hr⟩:=hr;have:=Ce (w:=w) h hk h1 j;cases c
  .have ⟨a,f,g⟩:=VZ (w:=w) h hk es ms (i+1) r hes hr;exact⟨a,by simp[AF,this,f],g⟩
  .simp only[xg,qe]at hr;subst hr;exact⟨B1 (i,e.val),by simp[AF,this],rfl,h2⟩
 |[],_::_,_,_,h,_=>h.elim
 |_::_,[],_,_,h,_=>h.elim
def xah{t:IV}{d:TypeDesc}(hu:P.underlying t=B1 d){x y:Hm}{b:Bool}(h:Instr.sameNow d x y=B1 b)(w:J3):(BW t x y).run P w=.ok b w:=by
 unfold Instr.sameNow at h;split at h
 .rename_i k a k' c;split at h
  .rename_i hk;subst hk;cases h;exact run_equalIn_int w _ t _ _ _ _ hu
  grind
 .cases h;show(AE (9999+1) t _ _).run P w=_
  grind [run_equalIn_string,beq_toListBytes]
 .cases h;exact run_equalIn_bool' w _ t _ _ hu
 grind
def WB{t:IV}{d:TypeDesc}(hu:P.underlying t=B1 d){c:Hm}(w:J3):∀(ms:List AW)(i:Nat)(r a:Option (Nat×Hm)),
 B7 d c ms i=B1 r->(AF t c ms i).run P w=.ok a w->r=a
 |[],i,r,a,h,h'=>by
  simp_all[B7,AF]
 |e::ms,i,r,a,h,h'=>by
  simp only[B7]at h;cases hs:Instr.sameNow d c e.key with
  |none=>grind
  |some b =>
   rw[hs]at h;have:=xah hu hs w;cases b
   .simp [AF,this]at h';exact WB hu w ms (i+1) r a h h'
   simp_all[AF]
def W5{D:Nat->Prop}{θ:Th}{w:J3}{t:IV}{q:aM}(h:nT P t=B1 q){k:AV}{b:Hm}(hk:VR D θ k b){es:List (AV×AV×Nat)}{ms:List AW}{r:Option (Nat×AV)}
 (c:cV D θ es ms) (hr:findKey q k es 0=B1 r):∃a,(BT t b ms).run P w=.ok a w/\FF D θ r a:=by
 have⟨a,f,g⟩:=VZ (w:=w) h hk es ms 0 r c hr;have hu:∃d,P.underlying t=B1 d:=by
  grind [nT,dc]
 have⟨d,hu⟩:=hu;refine⟨a,?_,g⟩;simp only[BT,JX,ji hu,JQ];cases hn:B7 d b ms 0 with
 |none=>simpa using f
 |some r2=>simp[WB hu w ms 0 r2 a hn f]
def xae{o:KW}{t u e:IV}{E kk:IY}{ok:Bool}{q:aM}{z:AV}(ho:o.op=.lookup t E kk ok)(hu:P.underlying t=B1 (.map u e))(B:nT P u=B1 q)(J:zeroOf P e=B1 z) :
 oQ P o [E,kk] (Op.lookup q z ok):=by
 intro base D θ H ρ w vs v I h a;have⟨A,f,g⟩:=Ia (w:=w) J;unfold Op.lookup at a;split at a
 .rename_i k;have⟨x,y,he,ha,hb⟩:=h.px;simp only[zg,rp]at he;obtain⟨rfl,rfl⟩:=he;cases c:cP q k with
  |false=>grind
  |true =>
   rw[c]at a;simp only[xg,qe]at a;have j:=λ em=>Uk (em:=em) (w:=w) B hb c;have C:(BT u (ρ kk) []).run P w=.ok B5 w:=by
    have hu:∃d,P.underlying u=B1 d:=by
     grind [nT,dc]
    have⟨d,hu⟩:=hu;simp[BT,ji hu,B7]
   subst a;cases ok
   .refine ⟨A,.inl ?_,g _ _⟩;simp[execOp,ho,B0,ji hu,<-ha.now,aq,j,C,f]
   .refine ⟨.tuple [A,.bool B2].toArray,.inl ?_,.tuple (.cons (g _ _) (.one (.bool _)))⟩;simp[execOp,ho,B0,ji hu,<-ha.now,aq,j,C,f]
 .rename_i b k;have⟨x,y,he,ha,hb⟩:=h.px;simp only[zg,rp]at he;obtain⟨rfl,rfl⟩:=he;cases c:cP q k with
  |false=>grind
  |true =>
   rw[c]at a;simp only[xg,qd]at a;have⟨m,hm,r,hr,a⟩:=a;have⟨_,_,ms,s,G⟩:=I.fR hm;have j:=λ em=>Uk (em:=em) (w:=w) B hb c;have⟨F,n,l⟩:=W5 (w:=w) B hb G hr;cases r with
   |none =>
    cases F with
    |some _=>exact l.elim
    |none =>
     simp only[qe]at a;subst a;cases ok
     .refine ⟨A,.inl ?_,g _ _⟩;simp[execOp,ho,B0,ji hu,<-ha.now,aq,j,n,f,IF s]
     .refine ⟨.tuple [A,.bool B2].toArray,.inl ?_,.tuple (.cons (g _ _) (.one (.bool _)))⟩;simp[execOp,ho,B0,ji hu,<-ha.now,aq,j,n,f,IF s]
   |some p =>
    have⟨i,pv⟩:=p;cases F with
    |none=>exact l.elim
    |some p' =>
     have⟨K,pc⟩:=p';have⟨_,l⟩:=l;simp only[qe]at a;subst a;cases ok
     .refine ⟨pc,.inl ?_,l⟩;simp[execOp,ho,B0,ji hu,<-ha.now,aq,j,n,IF s]
     .refine ⟨.tuple [pc,.bool B4].toArray,.inl ?_,.tuple (.cons l (.one (.bool _)))⟩;simp[execOp,ho,B0,ji hu,<-ha.now,aq,j,n,IF s]
 grind
end
end Go.Am
namespace Go.Am
section
variable{P:Fv}{base:Nat}{D:Nat->Prop}{θ:Th}{H:ar}{w:J3}
def isStr:AV->Bool
 | .str _=>B4
 |_=>B2
def Tr(g:HR P base D θ H w){x:AV}{c:Hm}{size n k:Nat}{l:List AV}(d:VR D θ x c)(hk:eL x=B1 k)(hn:n<=k)(hs:isStr x=B2)
 (h:firstCells H size n x=B1 l):∃a len cap,c=.slice a len cap/\len=k/\((a=B5/\l=[]/\n=0/\k=0) \/
  ∃ad cs,a=B1 ad/\(loadCells ad (n*size)).run P w=.ok cs.toArray w/\bH D θ l cs/\l.length=n*size):=by
 have t:∀a,(loadCells a 0).run P w=.ok ([]:List Hm).toArray w:=λ a=>rfl;cases x<;>simp only[eL,reduceCtorEq,qe]at hk
 case str s=>cases hs
 case nils =>
  subst hk;simp only[firstCells,qe]at h;subst h;exact⟨B5,0,0,d.now.symm,rfl,(by grind)⟩
 case slice b o n' cp =>
  subst hk;simp only[firstCells]at h;refine⟨_,_,_,d.now.symm,rfl,.inr ?_⟩;cases hb:FW n 0 with
  |true =>
   have:n=0:=by simpa using hb
   subst this;rw[hb]at h;cases h;exact⟨_,[],rfl,by grind,.nil,by simp⟩
  |false =>
   rw[hb]at h;have⟨cs,j,p,q⟩:=g.av h
   grind
 case eslice b =>
  subst hk;have:n=0:=by omega
  subst this;simp only[firstCells,FW,xg,qe]at h;subst h;exact⟨_,_,_,d.now.symm,rfl,.inr ⟨_,[],rfl,by grind,.nil,by simp⟩⟩
 case gslice b i m s alt n' =>
  subst hk;simp only[firstCells]at h;refine⟨_,_,_,d.now.symm,rfl,.inr ?_⟩;cases hb:FW n 0 with
  |true =>
   have:n=0:=by simpa using hb
   subst this;rw[hb]at h;cases h;exact⟨_,[],rfl,by grind,.nil,by simp⟩
  |false =>
   rw[hb]at h;simp only[ze]at h;cases f:(FW s size && KI i m)with
   |false=>grind
   |true =>
    rw[f]at h;simp only[xq,je,uv]at f;obtain⟨rfl,r⟩:=f;have⟨cs,j,p,q⟩:=g.av h
    grind
end
end Go.Am
namespace Go.Am
section
variable{P:Fv}{base:Nat}{D:Nat->Prop}{θ:Th}{H:ar}{w:J3}
def S9{w:J3}{r:Nat}{c:Array Hm}{e:IV}{fz:Nat×Nat}(h:w.heap[r]? = B1 (.cells c e fz)):w.shape? r=B1 (e,c.size):=by
 simp[J3.shape?,h]
def qwp{w:J3}{r:Nat}{c:Array Hm}{e:IV}{fz:Nat×Nat}(h:w.heap[r]? = B1 (.cells c e fz)):(viewAt r).run P w=.ok B5 w:=by
 simp[viewAt,S9 h]
def Vn{w:J3}{a:Addr}{c:Array Hm}{e:IV}{fz:Nat×Nat}(h:w.heap[a.block]? = B1 (.cells c e fz)):(noView a).run P w=.ok () w:=by
 simp[noView,qwp h]
def PC{a b:AV->Bool}{x y:AV}{q:Bool}(h:qO a b x y=B1 q) :
 (a x=B4/\a y=B4/\q=B4)\/(a x=B4/\b y=B4/\q=B2)\/(b x=B4/\a y=B4/\q=B2):=by
 grind [qO]
def RA.not{a:Nat×Nat}(h:RA (0,0) a)(i:Nat):¬(a.1<=i/\i<a.2):=by
 rcases h with h|⟨_,h⟩<;>simp at *<;>omega
def xg0(p:HR P base D θ H w){b d o o':Nat}(J:b≠d)(h:uQ H b d=B4) :
 (sameAddr ⟨θ.bQ b,θ.off b+o,B5⟩ ⟨θ.bQ d,θ.off d+o',B5⟩).run P w=.ok B2 w:=by
 have key:∀(f g o1 o2:Nat)(z A:Array Hm)(K L:IV)(m n:Nat×Nat),f≠g->w.heap[f]? = B1 (.cells z K m)->w.heap[g]? = B1 (.cells A L n) ->
  ((∀i,¬(m.1<=i/\i<m.2))/\A.size≠0\/(∀i,¬(n.1<=i/\i<n.2))/\z.size≠0)->(sameAddr ⟨f,o1,B5⟩ ⟨g,o2,B5⟩).run P w=.ok B2 w:=by
  intro f g o1 o2 z A K L m n hk G r u;have s1:=S9 G;have s2:=S9 r;have n1:(noView ⟨f,o1,B5⟩).run P w=_:=Vn G;have n2:(noView ⟨g,o2,B5⟩).run P w=_:=Vn r;have R:∀i,w.frozen? ⟨f,i,B5⟩=(decide (m.1<=i) && decide (i<m.2)):=λ i=>by simp[J3.frozen?,G]
  have S:∀i,w.frozen? ⟨g,i,B5⟩=(decide (n.1<=i) && decide (i<n.2)):=λ i=>by simp[J3.frozen?,r]
  have v:(f == g)=false:=by simpa using hk
  rcases u with⟨U,V⟩|⟨U,V⟩
  .have E:∀i,w.frozen? ⟨f,i,B5⟩=false:=λ i=>by simp_all
   simp only[sameAddr,JX,run_frozen,E,n1,n2,v,mayBeOne,stringish,run_shape,s1,s2,Sem.run_ite,Bool.false_and,za,y8,A',JQ];simp_all
  .have F:∀i,w.frozen? ⟨g,i,B5⟩=false:=λ i=>by simp_all
   simp only[sameAddr,JX,run_frozen,F,n1,n2,v,mayBeOne,stringish,run_shape,s1,Sem.run_ite,Bool.and_false,za,y8,A',JQ];simp_all
 unfold uQ at h;split at h
 .rename_i c e x O e' T W hb a;obtain⟨_,co,u,pre,cs,post,B,Q,rfl,r,M,N⟩:=p.obj b _ hb;obtain⟨_,co',j,y,cs',l,q,C,rfl,I,s,t⟩:=p.obj d _ a;refine key _ _ _ _ _ _ _ _ _ _ (p.inj b d _ _ hb a rfl J) u j (.inl ⟨(N rfl).2.2.2.not,?_⟩);have:=s.length
  grind
 .rename_i c e fz ow O e' hb a;obtain⟨_,co,u,pre,cs,post,B,Q,rfl,r,M,N⟩:=p.obj b _ hb;obtain⟨_,co',j,y,cs',l,q,C,rfl,I,s,t⟩:=p.obj d _ a;refine key _ _ _ _ _ _ _ _ _ _ (λ e=>p.inj d b _ _ a hb rfl (by omega) e.symm) u j (.inr ⟨(t rfl).2.2.2.not,?_⟩);have:=M.length
  grind
 grind
def tB(P:Fv)(t:IV)(x y:IY):tC->Prop
 | .bool=>P.underlying t=B1 .bool
 | .ptr=>∃e n,P.underlying t=B1 (.pointer e)/\bL P e=B1 (n+1)
 | .slice=>∃e,P.underlying t=B1 (.slice e)
 | .map=>∃k e,P.underlying t=B1 (.map k e)
 | .func=>∃a b c,P.underlying t=B1 (.func a b c)
 | .iface=>∃ms,P.underlying t=B1 (.interface ms)/\((∃v,x=.const v) \/ ∃v,y=.const v)
 | .ifaces f=>(∃ms,P.underlying t=B1 (.interface ms)) /\ ∀u q,f u=B1 q->dc P 20 u=B1 q /\ ∃i,P.info? u=B1 i/\i.comparable=B4
 | .agg q=>P.eqGuardType P.depth t=B2/\nT P t=B1 q/\((∃fs,P.underlying t=B1 (.struct fs)) \/ ∃n e,P.underlying t=B1 (.array n e))
set_option maxHeartbeats 2000000 in
def GP(hh:HR P base D θ H w){t:IV}{x y:IY}{ρ:IY->Hm}{k:tC}(hk:tB P t x y k){a b:AV}(ha:VR D θ a (ρ x))(hb:VR D θ b (ρ y)){q:Bool}
 (h:E9 H k a b=B1 q) (op:BinOp) (g:op=.eql\/op=.neq) :
 ((do eqGuard op t x y (ρ x) (ρ y);binOp op t (ρ x) (ρ y)):Sem Hm).run P w=.ok (.bool (if op=.neq then !q else q)) w:=by
 have fin:(eqGuard op t x y (ρ x) (ρ y)).run P w=.ok () w->(BW t (ρ x) (ρ y)).run P w=.ok q w->(binOp .eql t (ρ x) (ρ y)).run P w=((do pure (.bool (<-BW t (ρ x) (ρ y)))):Sem Hm).run P w ->
  (binOp .neq t (ρ x) (ρ y)).run P w=((do pure (.bool (!(<-BW t (ρ x) (ρ y))))):Sem Hm).run P w ->
  ((do eqGuard op t x y (ρ x) (ρ y);binOp op t (ρ x) (ρ y)):Sem Hm).run P w=.ok (.bool (if op=.neq then !q else q)) w:=by
  intro I G h3 h4;rw[JX,I,JQ];rcases g with rfl|rfl
  .rw [h3];simp[G]
  .rw [h4];simp[G]
 obtain⟨dd,j,W⟩:∃d,(∀p q,BW t p q=AE (d+1) t p q) /\ ∃m,d=20+m:=⟨9999,λ _ _=>rfl,9979,rfl⟩
 cases k
 case bool =>
  cases a<;>cases b<;>simp only[E9,reduceCtorEq,qe]at h;subst h;have hu:P.underlying t=B1 .bool:=hk;rw[<-ha.now,<-hb.now];rw[<-ha.now,<-hb.now]at fin;refine fin ?_ (run_equalIn_bool' w _ t _ _ hu) (by simp only[aq,binOp]) (by simp only[aq,binOp]);rcases g with rfl|rfl<;>simp[eqGuard,aq]
 case ptr =>
  have⟨e,n,hu,hs⟩:=hk;have L:=rH (w:=w) hs;have B:(BW t (ρ x) (ρ y)).run P w=.ok q w:=by
   cases a<;>cases b<;>simp only[E9,reduceCtorEq,qe]at h
   .subst h;rw[<-ha.now,<-hb.now,j];simp[aq,AE,ji hu]
   .subst h;rw[<-ha.now,<-hb.now,j];simp[aq,AE,ji hu]
   .subst h;rw[<-ha.now,<-hb.now,j];simp[aq,AE,ji hu]
   .rename_i E o1 F o2;rw[<-ha.now,<-hb.now,j];simp only[aq,AE,JX,ji hu,JQ,L,ne_eq,Nat.succ_ne_zero,not_false_eq_true,rR];cases u:FW E F with
    |true =>
     rw[u]at h;have:E=F:=by simpa using u
     subst this;simp only[xg,qe]at h;subst h;simp only[sameAddr,beq_self_eq_true,rR,A'];congr 1
     by_cases ho:o1=o2
     .subst ho;simp
     .have:FW o1 o2=false:=by simpa[<-Bool.not_eq_true,je]using ho
      rw[this];simp[ho]
    |false =>
     rw[u]at h;simp only[ze]at h;cases hp:uQ H E F with
     |false=>rw[hp]at h;cases h
     |true =>
      rw[hp]at h;simp only[xg,qe]at h;subst h;have z:E≠F:=λ e=>by subst e;simp at u
      exact xg0 hh z hp
  cases a<;>cases b<;>simp only[E9,reduceCtorEq,qe]at h <;>
   (rw[<-ha.now,<-hb.now]at B⊢;rw[<-ha.now,<-hb.now]at fin
    exact fin (by rcases g with rfl|rfl<;>simp[eqGuard,aq]) B (by simp only[aq,binOp]) (by simp only[aq,binOp]))
 case slice =>
  have⟨e,hu⟩:=hk;have r:=PC h;cases a<;>cases b<;>simp[zD,isSlice]at r <;>
   (subst r;rw[<-ha.now,<-hb.now];rw[<-ha.now,<-hb.now]at fin
    exact fin (by rcases g with rfl|rfl<;>simp[eqGuard,aq]) (by rw[j];simp[aq,AE,ji hu]) (by simp only[aq,binOp]) (by simp only[aq,binOp]))
 case map =>
  have⟨k,e,hu⟩:=hk;have r:=PC h;cases a<;>cases b<;>simp[AM,isMap]at r <;>
   (subst r;rw[<-ha.now,<-hb.now];rw[<-ha.now,<-hb.now]at fin
    exact fin (by rcases g with rfl|rfl<;>simp[eqGuard,aq]) (by rw[j];simp[aq,AE,ji hu]) (by simp only[aq,binOp]) (by simp only[aq,binOp]))
 case func =>
  have⟨p1,p2,p3,hu⟩:=hk;have r:=PC h;cases a<;>cases b<;>simp[Be,Ky]at r <;>
   (subst r;rw[<-ha.now,<-hb.now];rw[<-ha.now,<-hb.now]at fin
    exact fin (by rcases g with rfl|rfl<;>simp[eqGuard,aq]) (by rw[j];simp[aq,AE,ji hu]) (by simp only[aq,binOp]) (by simp only[aq,binOp]))
 case iface =>
  have⟨ms,hu,Q⟩:=hk;have r:=PC h;cases a<;>cases b<;>simp[wU,isIface]at r <;>
   (subst r;rw[<-ha.now,<-hb.now];rw[<-ha.now,<-hb.now]at fin
    exact fin (by rcases g with rfl|rfl<;>rcases Q with⟨v,rfl⟩|⟨v,rfl⟩<;>simp[eqGuard,aq]) (by rw[j];simp[aq,AE,ji hu]) (by simp only[aq,binOp]) (by simp only[aq,binOp]))
 case ifaces f =>
  have⟨⟨ms,hu⟩,hf⟩:=hk;cases a<;>cases b<;>simp only[E9,reduceCtorEq,qe]at h
  .rename_i R v1 T v2;have⟨U,J,N⟩:=ha.kR;have⟨V,K,O⟩:=hb.kR;rw[J,K]at fin⊢;refine fin (by rcases g with rfl|rfl<;>simp[eqGuard]) ?_ (by simp only[binOp]) (by simp only[binOp]);rw[j];cases o:FW R T with
   |true =>
    rw[o]at h;simp only[je]at o;subst o;simp only[xg,qd]at h;have⟨S,M,h⟩:=h;have⟨X,i,Y,Z⟩:=hf _ _ M;obtain⟨m,rfl⟩:=W;have C:=NT m (D:=D) (θ:=θ) w 20 R S X v1 v2 U V q N O h;simp[AE,ji hu,typeInfo,Y,Z,C]
   |false =>
    rw[o]at h;have z:R≠T:=λ e=>by subst e;simp at o
    simp only[ze,qe]at h;subst h;simp[AE,ji hu,z]
  .subst h;rw[<-ha.now,<-hb.now];rw[<-ha.now,<-hb.now]at fin;exact fin (by rcases g with rfl|rfl<;>simp[eqGuard,aq]) (by rw[j];simp[aq,AE,ji hu]) (by simp only[aq,binOp]) (by simp only[aq,binOp])
  .subst h;rw[<-ha.now,<-hb.now];rw[<-ha.now,<-hb.now]at fin;exact fin (by rcases g with rfl|rfl<;>simp[eqGuard,aq]) (by rw[j];simp[aq,AE,ji hu]) (by simp only[aq,binOp]) (by simp only[aq,binOp])
 case agg S =>
  have⟨hg,c,hu⟩:=hk;have B:=Ce (w:=w) c ha hb h;have A:(∃l,a=.agg l) /\ ∃l,b=.agg l:=by
   have c:dc P (19+1) t=B1 S:=c;rw[dc]at c;rcases hu with⟨fs,hu⟩|⟨n,e,hu⟩
   .rw [hu]at c;simp only at c;split at c
    .cases c
    .exact XH c h
   .rw [hu]at c;simp only[qd]at c;have⟨s,hs,a',ha',q1,hq1,c⟩:=c;cases c;exact VJ _ _ _ _ _ h
  obtain⟨⟨l,rfl⟩,⟨l',rfl⟩⟩:=A;have⟨cs,I,_⟩:=ha.eK;have⟨cs',G,_⟩:=hb.eK;rw[I,G]at B fin⊢;exact fin (run_eqGuard_agg w _ t x y _ _ hg) B (by simp only[binOp]) (by simp only[binOp])
def lh{o:KW}{t g:IV}{x y:IY}{k:tC}{neg:Bool}(ho:o.op=.binOp (if neg then .neq else .eql) t x y g)(hk:tB P t x y k):oQ P o [x,y] (Op.eq k neg):=by
 intro base D θ H ρ w vs v d h c;unfold Op.eq at c;split at c
 .rename_i a b;have⟨i,j,he,ha,hb⟩:=h.px;simp only[zg,rp]at he;obtain⟨rfl,rfl⟩:=he;simp only[qd]at c;have⟨q,f,c⟩:=c;cases c;have:=GP d hk ha hb f (if neg then .neq else .eql) (by grind);refine⟨_,.inl ?_,.bool _⟩;simp only[execOp,ho];rw[JX,this];simp_all
 grind
end
end Go.Am
namespace Go.Am
structure mF(w w0:J3):Prop where
 heap:w0.heap=w.heap
 os:w0.os=w.os
 tape:w0.tape=w.tape
 output:w0.output=w.output
theorem mF.refl(w:J3):mF w w:=⟨rfl,rfl,rfl,rfl⟩
theorem mF.trans{a b c:J3}(h:mF a b)(d:mF b c):mF a c:=⟨d.heap.trans h.heap,d.os.trans h.os,d.tape.trans h.tape,d.output.trans h.output⟩
def kO(P:Fv)(o:KW)(xs:List IY)(f:List AV->Option (bB×(Nat->AV))):Prop :=
 ∀(D:Nat->Prop)θ(ρ:IY->Hm)w vs ob mk,bH D θ vs (xs.map ρ)->f vs=B1 (ob,mk) ->
  own ob=B4 /\ ∃w0 co ext c,(execOp ρ o).run P w=.ok (.value c) (w0.alloc co)/\mF w w0 /\
   ∀(D':Nat->Prop)θ' id,Ag D θ θ'->(∀b,D b->D' b)->D' id -> θ'.bQ id=w.heap.size -> θ'.off id=0 -> θ'.ext id=ext->mV P D' θ' id ob co/\VR D' θ' (mk id) c
section
variable{P:Fv}
def NO{D':Nat->Prop}{θ':Th}{id:Nat}{cells:List AV}{cs:List Hm}{e:IV}(h:bH D' θ' cells cs)(ho:θ'.off id=0) :
 mV P D' θ' id (.row cells e (0,0) B4) (.cells cs.toArray e (0,0)) :=
 ⟨[],cs,[],(0,0),_,by simp,by grind,h,λ _=>⟨rfl,rfl,rfl,.inl rfl⟩⟩
def qx{D':Nat->Prop}{θ':Th}{id k:Nat}(a:D' id)(hb:θ'.bQ id=k)(ho:θ'.off id=0):VR D' θ' (Op.ptrTo id) (.pointer (B1 ⟨k,0,B5⟩)):=by
 have:=VR.ptr (θ:=θ') (o:=0) a;rw[hb,ho]at this;exact this
def ZS{D':Nat->Prop}{θ':Th}{id k n m:Nat}(a:D' id)(hb:θ'.bQ id=k)(ho:θ'.off id=0):VR D' θ' (Op.sliceTo n m id) (.slice (B1 ⟨k,0,B5⟩) n m):=by
 have:=VR.slice (θ:=θ') (o:=0) (n:=n) (c:=m) a;simp only[aq,hb,ho]at this;exact this
def q8z{o:KW}{e:IV}{z:AV}(ho:o.op=.alloc e)(f:zeroOf P e=B1 z):kO P o [] (Op.alloc e z.cells):=by
 intro D θ ρ w vs l mk h c;unfold Op.alloc at c;split at c
 .cases c;have⟨i,g,d⟩:=Ia (w:=w) f;refine⟨rfl,w,.cells i.cells e (0,0),0,.pointer (B1 ⟨w.heap.size,0,B5⟩),?_,.refl w,λ D' θ' id ha j b hb a _=>⟨?_,qx b hb a⟩⟩
  .simp_all [execOp,Instr.alloc,newVar,newRow]
  .have:=NO (P:=P) (e:=e) (d D' θ').cells a
   simpa using this
 grind
def xeq{o:KW}{e:IV}{x:IY}(ho:o.op=.box e x):kO P o [x] (Op.box e):=by
 intro D θ ρ w vs f mk h c;unfold Op.box at c;split at c
 .rename_i v;have⟨g,he,ha⟩:=h.nX;simp only[zg,rp]at he;subst he;cases c;refine⟨rfl,w,.cells (ρ x).cells e (0,0),0,.pointer (B1 ⟨w.heap.size,0,B5⟩),?_,.refl w,λ D' θ' id hg d b hb a _=>⟨?_,qx b hb a⟩⟩
  .simp [execOp,ho,Instr.box,newVar,newRow]
  .have:=NO (P:=P) (e:=e) (ha.up hg d).cells a
   simpa using this
 grind
def Xo{o:KW}{t:IV}{r:Option IY}(ho:o.op=.makeMap t r)(hr:r=B5\/(∃k n,r=B1 (.const (.int k n)) /\ ∃a b,P.underlying t=B1 (.map a b)))
 (j:∀(ρ:IY->Hm),True):∀(D:Nat->Prop)θ(ρ:IY->Hm)w vs d mk,(∀v,ρ (.const v)=v)->bH D θ vs (([]:List IY).map ρ)->Op.mkMap vs=B1 (d,mk) ->
 own d=B4 /\ ∃w0 co ext c,(execOp ρ o).run P w=.ok (.value c) (w0.alloc co)/\mF w w0 /\
  ∀(D':Nat->Prop)θ' id,Ag D θ θ'->(∀b,D b->D' b)->D' id -> θ'.bQ id=w.heap.size -> θ'.off id=0 -> θ'.ext id=ext->mV P D' θ' id d co/\VR D' θ' (mk id) c:=by
 intro D θ ρ w vs d mk m h f;unfold Op.mkMap at f;split at f
 .cases f;refine⟨rfl,w,.map #[] 0,0,.map (B1 w.heap.size),?_,.refl w,λ D' θ' id hg l i hb g _=>⟨⟨[],rfl,trivial⟩,?_⟩⟩
  .rcases hr with rfl|⟨k,n,rfl,a,b,hu⟩
   .simp [execOp,ho,Instr.makeMap]
   simp_all[execOp,Instr.makeMap,ji,asInt,asIntOf]
  grind [VR.map]
 grind
def Rl{D:Nat->Prop}{θ:Th}{z:List AV}{a:List Hm}(h:bH D θ z a)(n:Nat):bH D θ (fp n z) (Fh n a).flatten:=by
 induction n with
 |zero=>exact .nil
 |succ n ih =>
  simp only[fp,wx,LW,List.flatten_cons];exact h.app ih
def S6(a:List Hm)(n:Nat):((BQ (n*a.length)).map (λ i=>a.toArray[i % a.toArray.size]!))=(Fh n a).flatten.toArray:=by
 apply Array.ext';simp only[Array.toList_map,Array.toList_range,List.size_toArray]
 induction n with
 |zero=>simp
 |succ n ih =>
  rw[show(n+1)*a.length=a.length+n*a.length from by rw[yk];omega,List.range_add,List.map_append,Ep,LW,List.flatten_cons];congr 1
  .apply List.ext_getElem
   .simp
   grind [Nat.mod_eq_of_lt]
  simp_all[List.map_congr_left]
def f_{o:KW}{t e:IV}{len n:Nat}{parts:Array (Nat×IY)}{z:AV}{v:List (Nat×Nat)}(ho:o.op=.buildSlice t len parts)(hu:P.underlying t=B1 (.slice e))
 (hs:bL P e=B1 n) (F:zeroOf P e=B1 z) (hp:Ad (Ij n) parts.toList=B1 v) (I:z.cells.length=n) (y:len*n<=16777216) :
 kO P o (parts.toList.map (·.2)) (Op.buildSlice e len z.cells v):=by
 intro D θ ρ w vs J mk h l;simp only[Op.buildSlice,qd]at l;have⟨c,C,l⟩:=l;cases l;have⟨f,u,j⟩:=Ia (w:=w) F;have G:=(j D θ).cells.length;have g:bH D θ (fp len z.cells) (Fh len f.cells.toList).flatten:=Rl (j D θ).cells len;have s:bH D θ vs (parts.toList.map λ p=>ρ p.2):=by grind [Function.comp_def]
 have⟨cout,A,B⟩:=TE v vs parts.toList (Ij n) c hp s _ _ g C;have r:f.cells.size=n:=by rw[<-Array.length_toList];omega
 refine⟨rfl,w,.cells cout.toArray e (0,0),0,.slice (B1 ⟨w.heap.size,0,B5⟩) len len,?_,.refl w,λ D' θ' id hg E q hb d _=>⟨NO (B.up hg E) d,ZS q hb d⟩⟩;have a:=S6 f.cells.toList len;rw[show f.cells.toList.length=n from by omega]at a;simp only[Ak]at a;have m:Instr.fill (λ i=>B1 (i*n,n)) (((BQ (len*n)).map (λ i=>f.cells[i % f.cells.size]!))) ((parts.map λ(p:Nat×IY)=>(p.1,ρ p.2)).toList)=B1 cout.toArray:=by
  rw[a,xgx];exact A
 by_cases x:len*n=0
 .have b:Instr.fill (λ i=>B1 (i*n,n)) #[] ((parts.map λ(p:Nat×IY)=>(p.1,ρ p.2)).toList)=B1 cout.toArray:=by
   grind
  simp only[execOp,ho,Instr.buildSlice,JX,ji hu,JQ,rH hs,x,show BQ 0 = #[]from rfl,Array.map_empty,rR,A',b];simp[newRow]
 .have hb:¬(len*n > 2 ^ 24):=by omega
  simp only[execOp,ho,Instr.buildSlice,JX,ji hu,JQ,rH hs,x,hb,y8,u,A'];simp_all[newRow]
def p_{o:KW}{t e:IV}{l c:IY}{b n:Nat}{z:AV}(ho:o.op=.makeSlice t l c)(hu:P.underlying t=B1 (.slice e))(hb:lJ P e=B1 b)
 (hs:bL P e=B1 n) (L:zeroOf P e=B1 z) (N:z.cells.length=n):kO P o [l,c] (Op.mkSlice e b z.cells):=by
 intro D θ ρ w vs Y mk h p;unfold Op.mkSlice at p;split at p
 .rename_i W m X f;have⟨x,y,he,ha,u⟩:=h.px;simp only[zg,rp]at he;obtain⟨rfl,rfl⟩:=he;cases d:(sC 0 m && sC m f && sC (f*b) 140737488355328 && sC f 140737488355328)with
  |false=>grind
  |true =>
   rw[d]at p;simp only[xg,qe,xx]at p;obtain⟨rfl,rfl⟩:=p;simp only[xq,Jn,decide_eq_true_eq]at d;have⟨⟨⟨R,S⟩,T⟩,U⟩:=d;have⟨r,C,q⟩:=Ia (w:=w) L;have M:=(q D θ).cells.length;have B:r.cells.size=n:=by grind
   refine⟨rfl,w,.cells (Fh f.toNat r.cells.toList).flatten.toArray e (0,0),0,.slice (B1 ⟨w.heap.size,0,B5⟩) m.toNat f.toNat,?_,.refl w,
    λ D' θ' id hg V A hb j _=>⟨NO (Rl ((q D' θ').cells) _) j,ZS A hb j⟩⟩
   have O:KB.i64.wrap m=m:=by grind [IntKind.wrap,IntKind.bits]
   have Q:KB.i64.wrap f=f:=by grind [IntKind.wrap,IntKind.bits]
   have v:∃i,P.info? e=B1 i/\i.bytes=b:=by
    unfold lJ at hb;cases E:P.info? e with
    |none=>grind
    |some i=>grind
   obtain⟨inf,E,rfl⟩:=v;have a:=S6 r.cells.toList f.toNat;rw[show r.cells.toList.length=n from by omega]at a;simp only[Ak]at a;have F:¬(f<0):=by omega
   have G:¬((inf.bytes:Int)*f > 2 ^ 48):=by grind
   have I:¬(m<0):=by omega
   have J:¬(m > f):=by omega
   have K:¬(f.toNat*inf.bytes > roomBytes):=by
    grind [roomBytes]
   have Z:(2:Int) ^ 48=281474976710656:=by decide
   simp only[execOp,ho,<-ha.now,<-u.now,aq,Instr.makeSlice,JX,ji hu,JQ,asInt,asIntOf,A',typeInfo,run_program,E,O,Q]
   by_cases s:f.toNat*n=0
   .have g:(Fh f.toNat r.cells.toList).flatten.toArray = #[]:=by rw[<-a,s,show BQ 0 = #[]from rfl,Array.map_empty]
    simp only[F,G,I,J,K,s,askRoom,g,Il,Bool.or_self,za,y8,rR,JX,A',JQ,rH hs,show BQ 0 = #[]from rfl,Array.map_empty];simp[newRow]
   .simp only[F,G,I,J,K,s,askRoom,Il,Bool.or_self,za,y8,JX,A',JQ,rH hs,C,a];simp[newRow]
 grind
end
end Go.Am
