/- CodeO: CodeS CodeLA CodeLB CodePN. -/
import Derived.Test.YtbimikjajohflaaDoorAmOB4
import Derived.Test.YtbimikjajohflaaDoorAmOB1
import Derived.KernelRfl
import Derived.Test.YtbimikjajohflaaDoorRows
set_option linter.unusedVariables false
set_option maxRecDepth 100000
namespace Go.Am
abbrev kh:Nat:=136
abbrev kx:Nat:=147
abbrev jp:Nat:=141
abbrev qhg:Nat:=142
abbrev ky:Nat:=145
abbrev kz:Nat:=140
abbrev y8:Nat:=139
abbrev qn3:Nat:=20
abbrev qa8:Nat:=146
abbrev qav:Nat:=127
abbrev wf:Nat:=97
abbrev yh:Nat:=98
abbrev kg:Nat:=42
abbrev jh:Nat:=94
abbrev j9:Nat:=122
abbrev qa4:Nat:=126
abbrev q4m:Nat:=167
abbrev yp:Nat:=9
abbrev vj:Nat:=5
abbrev zt:Nat:=1
def q37:List UInt8:=[115,116,114,105,110,103,115,46,66,117,105,108,100,101,114,46,71,114,111,119,58,32,110,101,103,97,116,105,118,101,32,99,111,117,110,116]
def qrq:List UInt8:=[48,49,50,51,52,53,54,55,56,57,97,98,99,100,101,102,103,104,105,106,107,108,109,110,111,112,113,114,115,116,117,118,119,120,121,122]
def ww:List UInt8:=[48,48,48,49,48,50,48,51,48,52,48,53,48,54,48,55,48,56,48,57,49,48,49,49,49,50,49,51,49,52,49,53,49,54,49,55,49,56,49,57,50,48,50,49,50,50,50,51,50,52,50,53,50,54,50,55,50,56,50,57,51,48,51,49,51,50,51,51,51,52,51,53,51,54,51,55,51,56,51,57,52,48,52,49,52,50,52,51,52,52,52,53,52,54,52,55,52,56,52,57,53,48,53,49,53,50,53,51,53,52,53,53,53,54,53,55,53,56,53,57,54,48,54,49,54,50,54,51,54,52,54,53,54,54,54,55,54,56,54,57,55,48,55,49,55,50,55,51,55,52,55,53,55,54,55,55,55,56,55,57,56,48,56,49,56,50,56,51,56,52,56,53,56,54,56,55,56,56,56,57,57,48,57,49,57,50,57,51,57,52,57,53,57,54,57,55,57,56,57,57]
def qn1:List UInt8:=[0,1,2,2,3,3,3,3,4,4,4,4,4,4,4,4,5,5,5,5,5,5,5,5,5,5,5,5,5,5,5,5,6,6,6,6,6,6,6,6,6,6,6,6,6,6,6,6,6,6,6,6,6,6,6,6,6,6,6,6,6,6,6,6,7,7,7,7,7,7,7,7,7,7,7,7,7,7,7,7,7,7,7,7,7,7,7,7,7,7,7,7,7,7,7,7,7,7,7,7,7,7,7,7,7,7,7,7,7,7,7,7,7,7,7,7,7,7,7,7,7,7,7,7,7,7,7,7,8,8,8,8,8,8,8,8,8,8,8,8,8,8,8,8,8,8,8,8,8,8,8,8,8,8,8,8,8,8,8,8,8,8,8,8,8,8,8,8,8,8,8,8,8,8,8,8,8,8,8,8,8,8,8,8,8,8,8,8,8,8,8,8,8,8,8,8,8,8,8,8,8,8,8,8,8,8,8,8,8,8,8,8,8,8,8,8,8,8,8,8,8,8,8,8,8,8,8,8,8,8,8,8,8,8,8,8,8,8,8,8,8,8,8,8,8,8,8,8,8,8,8,8,8,8,8,8]
noncomputable section
open Go.Proofs Go.Proofs.YtbimikjajohflaaDoor
class MK (M:Mac):Prop where
 ok:∀ n,memN n [20,30]=false->M.func n=(cProg Tryd.prog).func n
theorem MK.at {M:Mac} [h:MK M] {n:Nat} {F:AFunc} (hn:memN n [20,30]=false) (hF:(cProg Tryd.prog).func n=some F):M.func n=some F:=(h.ok n hn).trans hF
theorem callf {M:Mac} [h:MK M] {n:Nat} {F:AFunc} (hn:memN n [20,30]=false) {rs:List ARes} (hF:(cProg Tryd.prog).func n=some F/\F.results=rs) {ks:Kp} {vs:List AV} (hk:keepB 0 vs.length ks.keep=true) {H:AHeap} {Q:AEnd->AHeap->Prop} (hw:W M ⟨none,n⟩ (ks,part F.body 0) true (FIN3 M rs Q) (envA 0 vs) [] H):wu M n vs H Q:=calle (MK.at hn hF.1) hk (hF.2 ▸ hw)
variable {M:Mac} [MK M] {H:AHeap} {Q:AEnd->AHeap->Prop} {a0 a1:AV}
def qe3:AFunc:=funcAt Tryd.prog qav
def qhr:Kp:=⟨[0,1,4],false,[0]⟩
def qhs (k:Nat):Kp × ACode:=(qhr,part qe3.body k)
theorem qht (M:Mac) (c:Ctx):(∀ Q E D H,W M c (qhs 0) true Q E D H =
 Lz E 0 fun g t0=>Ly g E 1 fun g t1=>C3 M g (.func kh) [t0,t1] H fun g t7 H1=>GO3 g Q .ret ((4,t7)::(4,(.str []))::E) D H1):=by intro _ _ _ _;refine W_unf ?_;kernel_rfl
theorem qmv:(cProg Tryd.prog).func qav=some qe3/\qe3.results=[.tmp 4]:=x6 (by kernel_rfl)
theorem qmw (h:W M ⟨none,qav⟩ (qhs 0) true (FIN3 M [.tmp 4] Q) [(0,a0),(1,a1)] [] H):wu M qav [a0,a1] H Q:=callf (by decide) qmv (ks:=qhr) (by kernel_rfl) h
def qds:AFunc:=funcAt Tryd.prog wf
def qgn:Kp:=⟨[0,1],false,[0,2,8]⟩
def wg (k:Nat):Kp × ACode:=(qgn,part qds.body k)
theorem qcl (M:Mac) (c:Ctx):(∀ Q E D H,W M c (wg 0) true Q E D H =
 Lz E 0 fun g t0=>C3 M g (.func j9) [t0] H fun g t5 H1=>W M c (wg 2) g Q E D H1) /\
 (∀ Q E D H,W M c (wg 2) true Q E D H =
  Lz E 1 fun g t1=>Cb g .lss t1 (.int .i64 0) (fun g=>B3 g ((Op.mkIface yp) [(.str q37)]) fun g t8=>False) (fun g=>Gt g M c (wg 8) Q E D H)) /\
 (∀ Q E D H,W M c (wg 8) true Q E D H =
  Lz E 0 fun g t0=>Nf g 1 t0 H fun g t12=>B3 g (Op.cap [t12]) fun g t13=>Nf g 1 t0 H fun g t17=>B3 g (Op.lenSl [t17]) fun g t18=>Bn g .sub t13 t18 fun g t19=>Ly g E 1 fun g t1=>Cb g .lss t19 t1 (fun g=>Ly g E 0 fun g t0_1=>Ly g E 1 fun g t1_1=>C3 M g (.func qa4) [t0_1,t1_1] H fun g t24 H1=>GO3 g Q .normal E D H1) (fun g=>GO3 g Q .normal E D H)):=by (repeat' apply And.intro)<;>(intro _ _ _ _;refine W_unf ?_;kernel_rfl)
theorem qli:(cProg Tryd.prog).func wf=some qds/\qds.results=[]:=x6 (by kernel_rfl)
theorem qlj (h:W M ⟨none,wf⟩ (wg 0) true (FIN3 M [] Q) [(0,a0),(1,a1)] [] H):wu M wf [a0,a1] H Q:=callf (by decide) qli (ks:=qgn) (by kernel_rfl) h
def qbw:AFunc:=funcAt Tryd.prog jh
def qdp:Kp:=⟨[0,1,4,5],false,[0]⟩
def qdq (k:Nat):Kp × ACode:=(qdp,part qbw.body k)
theorem qbx (M:Mac) (c:Ctx):(∀ Q E D H,W M c (qdq 0) true Q E D H =
 Lz E 0 fun g t0=>C3 M g (.func j9) [t0] H fun g t7 H1=>Ly g E 0 fun g t0_1=>Nf g 1 t0_1 H1 fun g t12=>Ly g E 1 fun g t1=>B32 g ((Op.append vj 1 1) [t12,t1] H1) fun g t14 H2=>Ns g 1 t0_1 t14 H2 fun g u H3=>Ly g E 1 fun g t1_1=>B3 g (Op.lenStr [t1_1]) fun g t18=>GO3 g Q .ret ((5,.nili)::(4,t18)::(5,.nili)::(4,(.int .i64 0))::E) D H3):=by intro _ _ _ _;refine W_unf ?_;kernel_rfl
theorem qhj:(cProg Tryd.prog).func jh=some qbw/\qbw.results=[.tmp 4,.tmp 5]:=x6 (by kernel_rfl)
theorem qhk (h:W M ⟨none,jh⟩ (qdq 0) true (FIN3 M [.tmp 4,.tmp 5] Q) [(0,a0),(1,a1)] [] H):wu M jh [a0,a1] H Q:=callf (by decide) qhj (ks:=qdp) (by kernel_rfl) h
def qdb:AFunc:=funcAt Tryd.prog kg
def qfx:Kp:=⟨[0,2],false,[0]⟩
def qfy (k:Nat):Kp × ACode:=(qfx,part qdb.body k)
theorem qfz (M:Mac) (c:Ctx):(∀ Q E D H,W M c (qfy 0) true Q E D H =
 Lz E 0 fun g t0=>Nf g 1 t0 H fun g t6=>B3 g (Op.sliceData [t6]) fun g t7=>Nf g 1 t0 H fun g t11=>B3 g (Op.lenSl [t11]) fun g t12=>B32 g ((Op.strOfPtr vj) [t7,t12] H) fun g t13 H1=>GO3 g Q .ret ((2,t13)::(2,(.str []))::E) D H1):=by intro _ _ _ _;refine W_unf ?_;kernel_rfl
theorem qkp:(cProg Tryd.prog).func kg=some qdb/\qdb.results=[.tmp 2]:=x6 (by kernel_rfl)
theorem qkq (h:W M ⟨none,kg⟩ (qfy 0) true (FIN3 M [.tmp 2] Q) [(0,a0)] [] H):wu M kg [a0] H Q:=callf (by decide) qkp (ks:=qfx) (by kernel_rfl) h
def qek:AFunc:=funcAt Tryd.prog yh
def qhe:Kp:=⟨[0,2],false,[0]⟩
def qhf (k:Nat):Kp × ACode:=(qhe,part qek.body k)
theorem ql9 (M:Mac) (c:Ctx):(∀ Q E D H,W M c (qhf 0) true Q E D H =
 Lz E 0 fun g t0=>Nf g 1 t0 H fun g t6=>B3 g (Op.lenSl [t6]) fun g t7=>GO3 g Q .ret ((2,t7)::(2,(.int .i64 0))::E) D H):=by intro _ _ _ _;refine W_unf ?_;kernel_rfl
theorem ql7:(cProg Tryd.prog).func yh=some qek/\qek.results=[.tmp 2]:=x6 (by kernel_rfl)
theorem ql8 (h:W M ⟨none,yh⟩ (qhf 0) true (FIN3 M [.tmp 2] Q) [(0,a0)] [] H):wu M yh [a0] H Q:=callf (by decide) ql7 (ks:=qhe) (by kernel_rfl) h
def qbv:AFunc:=funcAt Tryd.prog kh
def qdo:Kp:=⟨[0,1,4,5,6,8],false,[0,2,6,14,24]⟩
def xx (k:Nat):Kp × ACode:=(qdo,part qbv.body k)
theorem qac (M:Mac) (c:Ctx):(∀ Q E D H,W M c (xx 0) true Q E D H =
 W M c (xx 2) true Q ((4,(.str []))::E) D H) /\
 (∀ Q E D H,W M c (xx 2) true Q E D H =
  Lz E 1 fun g t1=>Cb g .eql t1 (.int .i64 10) (fun g=>W M c (xx 6) g (SEQ3 (W M c (xx 24)) Q) E D H) (fun g=>Gt g M c (xx 24) Q E D H)) /\
 (∀ Q E D H,W M c (xx 24) true Q E D H =
  Lz E 0 fun g t0=>Ly g E 1 fun g t1=>C3 M g (.func qhg) [.nils,t0,t1,(.bool false),(.bool false)] H fun g t28 H1=>B3 g ((Op.extract 0) [t28]) fun g t29=>B3 g ((Op.extract 1) [t28]) fun g t30=>GO3 g Q .ret ((4,t30)::(8,t30)::E) D H1) /\
 (∀ Q E D H,W M c (xx 6) true Q E D H =
  Lz E 0 fun g t0=>Cb g .lss t0 (.int .u64 100) (fun g=>Ly g E 0 fun g t0_1=>B3 g ((Op.wrap .i64) [t0_1]) fun g t14=>C3 M g (.func y8) [t14] H fun g t15 H1=>GO3 g (SEQ3 (W M c (xx 14)) Q) .ret ((4,t15)::E) D H1) (fun g=>Gt g M c (xx 14) Q E D H)) /\
 (∀ Q E D H,W M c (xx 14) true Q E D H =
  A3 true q4m (List.replicate 24 (.int .u8 0)) H fun g t5 H1=>Ly g E 0 fun g t0=>C3 M g (.func kz) [t0] H1 fun g t17 H2=>B3 g ((Op.sliceArr 24 1 [none,(some 0),none]) [t5,t17]) fun g t19=>Ly g E 0 fun g t0_1=>C3 M g (.func jp) [t19,t0_1] H2 fun g t21 H3=>B3 g ((Op.sliceArr 24 1 [none,(some 0),none]) [t5,t17]) fun g t23=>B3 g (Op.strOfBytes [t23] H3) fun g t24=>GO3 g Q .ret ((4,t24)::(6,t17)::(5,t5)::E) D H3):=by (repeat' apply And.intro)<;>(intro _ _ _ _;refine W_unf ?_;kernel_rfl)
theorem qhh:(cProg Tryd.prog).func kh=some qbv/\qbv.results=[.tmp 4]:=x6 (by kernel_rfl)
theorem qhi (h:W M ⟨none,kh⟩ (xx 0) true (FIN3 M [.tmp 4] Q) [(0,a0),(1,a1)] [] H):wu M kh [a0,a1] H Q:=callf (by decide) qhh (ks:=qdo) (by kernel_rfl) h
def qci:AFunc:=funcAt Tryd.prog j9
def qel:Kp:=⟨[0],false,[0]⟩
def qem (k:Nat):Kp × ACode:=(qel,part qci.body k)
theorem qen (M:Mac) (c:Ctx):(∀ Q E D H,W M c (qem 0) true Q E D H =
 Lz E 0 fun g t0=>Nf g 0 t0 H fun g t5=>B3 g ((Op.eq .ptr false) [t5,.nilp] H) fun g t6=>IF3 g t6 (fun g=>Ly g E 0 fun g t0_1=>B3 g ((Op.castPtr (liesB Tryd.prog 78)) [t0_1] H) fun g t9=>B3 g (Op.noEscape [t9]) fun g t10=>B3 g ((Op.castPtr (liesB Tryd.prog 78)) [t10] H) fun g t11=>Ns g 0 t0_1 t11 H fun g u H1=>GO3 g Q .normal E D H1) (fun g=>Ly g E 0 fun g t0_1=>Nf g 0 t0_1 H fun g t17=>B3 g ((Op.eq .ptr true) [t17,t0_1] H) fun g t19=>IF3 g t19 (fun g=>False) (fun g=>GO3 g Q .normal E D H))):=by intro _ _ _ _;refine W_unf ?_;kernel_rfl
theorem qi4:(cProg Tryd.prog).func j9=some qci/\qci.results=[]:=x6 (by kernel_rfl)
theorem qi5 (h:W M ⟨none,j9⟩ (qem 0) true (FIN3 M [] Q) [(0,a0)] [] H):wu M j9 [a0] H Q:=callf (by decide) qi4 (ks:=qel) (by kernel_rfl) h
def qdt:AFunc:=funcAt Tryd.prog qa4
def qgo:Kp:=⟨[0,1,4],false,[0]⟩
def qgp (k:Nat):Kp × ACode:=(qgo,part qdt.body k)
theorem qlm (M:Mac) (c:Ctx):(∀ Q E D H,W M c (qgp 0) true Q E D H =
 Lz E 0 fun g t0=>Nf g 1 t0 H fun g t8=>B3 g (Op.cap [t8]) fun g t9=>Bn g .mul (.int .i64 2) t9 fun g t10=>Ly g E 1 fun g t1=>Bn g .add t10 t1 fun g t12=>Nf g 1 t0 H fun g t17=>B3 g (Op.lenSl [t17]) fun g t18=>B32 g ((Op.makeNoZero vj) [t12]) fun g o1 k1=>B3 g ((Op.sliceSl 1 [none,(some 0),none]) [(k1 H.next),t18]) fun g t19=>Ly g E 0 fun g t0_1=>Nf g 1 t0_1 (H.alloc o1) fun g t24=>B32 g ((Op.copy 1) [t19,t24] (H.alloc o1)) fun g t25 H2=>Ly g E 0 fun g t0_2=>Ns g 1 t0_2 t19 H2 fun g u H3=>GO3 g Q .normal ((4,t19)::E) D H3):=by intro _ _ _ _;refine W_unf ?_;kernel_rfl
theorem qlk:(cProg Tryd.prog).func qa4=some qdt/\qdt.results=[]:=x6 (by kernel_rfl)
theorem qll (h:W M ⟨none,qa4⟩ (qgp 0) true (FIN3 M [] Q) [(0,a0),(1,a1)] [] H):wu M qa4 [a0,a1] H Q:=callf (by decide) qlk (ks:=qgo) (by kernel_rfl) h
def qc6:AFunc:=funcAt Tryd.prog y8
def qft:Kp:=⟨[0,2],false,[0,2,10]⟩
def yf (k:Nat):Kp × ACode:=(qft,part qc6.body k)
theorem qfu (M:Mac) (c:Ctx):(∀ Q E D H,W M c (yf 0) true Q E D H =
 W M c (yf 2) true Q ((2,(.str []))::E) D H) /\
 (∀ Q E D H,W M c (yf 2) true Q E D H =
  Lz E 0 fun g t0=>Cb g .lss t0 (.int .i64 10) (fun g=>Ly g E 0 fun g t0_1=>Bn g .add t0_1 (.int .i64 1) fun g t7=>B3 g ((Op.sliceStr [(some 0),(some 1)]) [(.str qrq),t0_1,t7]) fun g t8=>GO3 g (SEQ3 (W M c (yf 10)) Q) .ret ((2,t8)::E) D H) (fun g=>Gt g M c (yf 10) Q E D H)) /\
 (∀ Q E D H,W M c (yf 10) true Q E D H =
  Lz E 0 fun g t0=>Bn g .mul t0 (.int .i64 2) fun g t10=>Bn g .mul t0 (.int .i64 2) fun g t12=>Bn g .add t12 (.int .i64 2) fun g t13=>B3 g ((Op.sliceStr [(some 0),(some 1)]) [(.str ww),t10,t13]) fun g t14=>GO3 g Q .ret ((2,t14)::E) D H):=by (repeat' apply And.intro)<;>(intro _ _ _ _;refine W_unf ?_;kernel_rfl)
theorem qkb:(cProg Tryd.prog).func y8=some qc6/\qc6.results=[.tmp 2]:=x6 (by kernel_rfl)
theorem qkc (h:W M ⟨none,y8⟩ (yf 0) true (FIN3 M [.tmp 2] Q) [(0,a0)] [] H):wu M y8 [a0] H Q:=callf (by decide) qkb (ks:=qft) (by kernel_rfl) h
def qb5:AFunc:=funcAt Tryd.prog kz
def qdz:Kp:=⟨[0,2,3],false,[0]⟩
def qd0 (k:Nat):Kp × ACode:=(qdz,part qb5.body k)
theorem yx (M:Mac) (c:Ctx):(∀ Q E D H,W M c (qd0 0) true Q E D H =
 Lz E 0 fun g t0=>C3 M g (.func qa8) [t0] H fun g t5 H1=>C3 M g (.func ky) [t5] H1 fun g t6 H2=>Ly g E 0 fun g t0_1=>B3 g ((Op.indexArr 20 1) [(.ptr zt 0),t6]) fun g t10=>B3 g (Op.load1 [t10] H2) fun g t11=>Bn g .geq t0_1 t11 fun g t12=>C3 M g (.func kx) [t12] H2 fun g t13 H3=>Bn g .add t6 t13 fun g t14=>GO3 g Q .ret ((2,t14)::(3,t6)::(2,(.int .i64 0))::E) D H3):=by intro _ _ _ _;refine W_unf ?_;kernel_rfl
theorem qia:(cProg Tryd.prog).func kz=some qb5/\qb5.results=[.tmp 2]:=x6 (by kernel_rfl)
theorem qib (h:W M ⟨none,kz⟩ (qd0 0) true (FIN3 M [.tmp 2] Q) [(0,a0)] [] H):wu M kz [a0] H Q:=callf (by decide) qia (ks:=qdz) (by kernel_rfl) h
def qbc:AFunc:=funcAt Tryd.prog jp
def qc4:Kp:=⟨[0,1,4,5,6,7,8,9,10,11,12,13,14,15,16],false,[0,2,5,11,16,20,24,31,33,39,43,49,61]⟩
def qj (k:Nat):Kp × ACode:=(qc4,part qbc.body k)
theorem z6 (M:Mac) (c:Ctx):(∀ Q E D H,W M c (qj 0) true Q E D H =
 Lz E 0 fun g t0=>B3 g (Op.lenSl [t0]) fun g t18=>W M c (qj 2) g Q ((4,t18)::E) D H) /\
 (∀ Q E D H,W M c (qj 2) true Q E D H =
  LOOP3 (W M c (qj 5)) (BLK3 0 (SEQ3 (W M c (qj 31)) Q)) E D H) /\
 (∀ Q E D H,W M c (qj 31) true Q E D H =
  Lz E 1 fun g t1=>B3 g ((Op.wrap .u32) [t1]) fun g t97=>W M c (qj 33) g Q ((12,t97)::E) D H) /\
 (∀ Q E D H,W M c (qj 5) true Q E D H =
  Lz E 4 fun g t4=>Cb g .geq t4 (.int .i64 8) (fun g=>Gt g M c (qj 11) Q E D H) (fun g=>GO3 g (SEQ3 (W M c (qj 11)) Q) (.exit 0) E D H)) /\
 (∀ Q E D H,W M c (qj 33) true Q E D H =
  Lz E 4 fun g t4=>Cb g .geq t4 (.int .i64 4) (fun g=>Ly g E 12 fun g t12=>Bn g .rem t12 (.int .u32 10000) fun g t101=>W M c (qj 39) g (SEQ3 (W M c (qj 49)) Q) ((13,t101)::E) D H) (fun g=>Gt g M c (qj 49) Q E D H)) /\
 (∀ Q E D H,W M c (qj 11) true Q E D H =
  Lz E 1 fun g t1=>Bn g .rem t1 (.int .u64 100000000) fun g t22=>B3 g ((Op.wrap .u32) [t22]) fun g t23=>Ly g E 1 fun g t1_1=>Bn g .quo t1_1 (.int .u64 100000000) fun g t25=>W M c (qj 16) g (BLK3 1 Q) ((1,t25)::(5,t23)::E) D H) /\
 (∀ Q E D H,W M c (qj 49) true Q E D H =
  Lz E 4 fun g t4=>Cb g .geq t4 (.int .i64 2) (fun g=>Ly g E 12 fun g t12=>Bn g .rem t12 (.int .u32 100) fun g t141=>Bn g .mul t141 (.int .u32 2) fun g t142=>Ly g E 12 fun g t12_1=>Bn g .quo t12_1 (.int .u32 100) fun g t144=>Ly g E 0 fun g t0=>Ly g E 4 fun g t4_1=>Bn g .sub t4_1 (.int .i64 1) fun g t147=>Bn g .sub t4_1 (.int .i64 2) fun g t150=>Bn g .add t142 (.int .u32 1) fun g t152=>B3 g (Op.indexStr [(.str ww),t152]) fun g t153=>B3 g (Op.indexStr [(.str ww),t142]) fun g t155=>Xs g t0 t147 t153 H fun g u H1=>Xs g t0 t150 t155 H1 fun g u_1 H2=>Ly g E 4 fun g t4_2=>Bn g .sub t4_2 (.int .i64 2) fun g t159=>Gt g M c (qj 61) Q ((4,t159)::(12,t144)::(16,t142)::E) D H2) (fun g=>Gt g M c (qj 61) Q E D H)) /\
 (∀ Q E D H,W M c (qj 39) true Q E D H =
  Lz E 12 fun g t12=>Bn g .quo t12 (.int .u32 10000) fun g t103=>Ly g E 13 fun g t13=>Bn g .quo t13 (.int .u32 100) fun g t105=>Bn g .mul t105 (.int .u32 2) fun g t106=>Bn g .rem t13 (.int .u32 100) fun g t108=>Bn g .mul t108 (.int .u32 2) fun g t109=>W M c (qj 43) g Q ((15,t109)::(14,t106)::(12,t103)::E) D H) /\
 (∀ Q E D H,W M c (qj 16) true Q E D H =
  Lz E 5 fun g t5=>Bn g .quo t5 (.int .u32 10000) fun g t27=>Bn g .rem t5 (.int .u32 10000) fun g t29=>Bn g .quo t29 (.int .u32 100) fun g t31=>Bn g .mul t31 (.int .u32 2) fun g t32=>Bn g .rem t29 (.int .u32 100) fun g t34=>Bn g .mul t34 (.int .u32 2) fun g t35=>W M c (qj 20) g Q ((9,t35)::(8,t32)::(7,t29)::(6,t27)::E) D H) /\
 (∀ Q E D H,W M c (qj 61) true Q E D H =
  Lz E 4 fun g t4=>Cb g .gtr t4 (.int .i64 0) (fun g=>Ly g E 0 fun g t0=>Ly g E 12 fun g t12=>Bn g .add (.int .u32 48) t12 fun g t164=>B3 g ((Op.wrap .u8) [t164]) fun g t165=>Xs g t0 (.int .i64 0) t165 H fun g u H1=>GO3 g Q .normal E D H1) (fun g=>GO3 g Q .normal E D H)) /\
 (∀ Q E D H,W M c (qj 43) true Q E D H =
  Lz E 0 fun g t0=>Ly g E 4 fun g t4=>Bn g .sub t4 (.int .i64 1) fun g t112=>Bn g .sub t4 (.int .i64 2) fun g t115=>Ly g E 15 fun g t15=>Bn g .add t15 (.int .u32 1) fun g t117=>B3 g (Op.indexStr [(.str ww),t117]) fun g t118=>B3 g (Op.indexStr [(.str ww),t15]) fun g t120=>Xs g t0 t112 t118 H fun g u H1=>Xs g t0 t115 t120 H1 fun g u_1 H2=>Ly g E 0 fun g t0_1=>Ly g E 4 fun g t4_1=>Bn g .sub t4_1 (.int .i64 3) fun g t125=>Bn g .sub t4_1 (.int .i64 4) fun g t128=>Ly g E 14 fun g t14=>Bn g .add t14 (.int .u32 1) fun g t130=>B3 g (Op.indexStr [(.str ww),t130]) fun g t131=>B3 g (Op.indexStr [(.str ww),t14]) fun g t133=>Xs g t0_1 t125 t131 H2 fun g u_2 H3=>Xs g t0_1 t128 t133 H3 fun g u_3 H4=>Ly g E 4 fun g t4_2=>Bn g .sub t4_2 (.int .i64 4) fun g t137=>GO3 g Q .normal ((4,t137)::E) D H4) /\
 (∀ Q E D H,W M c (qj 20) true Q E D H =
  Lz E 6 fun g t6=>Bn g .quo t6 (.int .u32 100) fun g t37=>Bn g .mul t37 (.int .u32 2) fun g t38=>Bn g .rem t6 (.int .u32 100) fun g t40=>Bn g .mul t40 (.int .u32 2) fun g t41=>Ly g E 0 fun g t0=>Ly g E 4 fun g t4=>Bn g .sub t4 (.int .i64 1) fun g t44=>Bn g .sub t4 (.int .i64 2) fun g t47=>Ly g E 9 fun g t9=>Bn g .add t9 (.int .u32 1) fun g t49=>B3 g (Op.indexStr [(.str ww),t49]) fun g t50=>B3 g (Op.indexStr [(.str ww),t9]) fun g t52=>Xs g t0 t44 t50 H fun g u H1=>Xs g t0 t47 t52 H1 fun g u_1 H2=>W M c (qj 24) g Q ((11,t41)::(10,t38)::E) D H2) /\
 (∀ Q E D H,W M c (qj 24) true Q E D H =
  Lz E 0 fun g t0=>Ly g E 4 fun g t4=>Bn g .sub t4 (.int .i64 3) fun g t57=>Bn g .sub t4 (.int .i64 4) fun g t60=>Ly g E 8 fun g t8=>Bn g .add t8 (.int .u32 1) fun g t62=>B3 g (Op.indexStr [(.str ww),t62]) fun g t63=>B3 g (Op.indexStr [(.str ww),t8]) fun g t65=>Xs g t0 t57 t63 H fun g u H1=>Xs g t0 t60 t65 H1 fun g u_1 H2=>Ly g E 0 fun g t0_1=>Ly g E 4 fun g t4_1=>Bn g .sub t4_1 (.int .i64 5) fun g t70=>Bn g .sub t4_1 (.int .i64 6) fun g t73=>Ly g E 11 fun g t11=>Bn g .add t11 (.int .u32 1) fun g t75=>B3 g (Op.indexStr [(.str ww),t75]) fun g t76=>B3 g (Op.indexStr [(.str ww),t11]) fun g t78=>Xs g t0_1 t70 t76 H2 fun g u_2 H3=>Xs g t0_1 t73 t78 H3 fun g u_3 H4=>Ly g E 0 fun g t0_2=>Ly g E 4 fun g t4_2=>Bn g .sub t4_2 (.int .i64 7) fun g t83=>Bn g .sub t4_2 (.int .i64 8) fun g t86=>Ly g E 10 fun g t10=>Bn g .add t10 (.int .u32 1) fun g t88=>B3 g (Op.indexStr [(.str ww),t88]) fun g t89=>B3 g (Op.indexStr [(.str ww),t10]) fun g t91=>Xs g t0_2 t83 t89 H4 fun g u_4 H5=>Xs g t0_2 t86 t91 H5 fun g u_5 H6=>Ly g E 4 fun g t4_3=>Bn g .sub t4_3 (.int .i64 8) fun g t95=>GO3 g Q .normal ((4,t95)::E) D H6):=by (repeat' apply And.intro)<;>(intro _ _ _ _;refine W_unf ?_;kernel_rfl)
theorem qgv:(cProg Tryd.prog).func jp=some qbc/\qbc.results=[]:=x6 (by kernel_rfl)
theorem qgw (h:W M ⟨none,jp⟩ (qj 0) true (FIN3 M [] Q) [(0,a0),(1,a1)] [] H):wu M jp [a0,a1] H Q:=callf (by decide) qgv (ks:=qc4) (by kernel_rfl) h
def qb4:AFunc:=funcAt Tryd.prog ky
def qdx:Kp:=⟨[0,2],false,[0]⟩
def qdy (k:Nat):Kp × ACode:=(qdx,part qb4.body k)
theorem qh9 (M:Mac) (c:Ctx):(∀ Q E D H,W M c (qdy 0) true Q E D H =
 Lz E 0 fun g t0=>Bn g .mul t0 (.int .i64 78913) fun g t4=>Bn g .shr t4 (.int .u64 18) fun g t5=>GO3 g Q .ret ((2,t5)::(2,(.int .i64 0))::E) D H):=by intro _ _ _ _;refine W_unf ?_;kernel_rfl
theorem qh7:(cProg Tryd.prog).func ky=some qb4/\qb4.results=[.tmp 2]:=x6 (by kernel_rfl)
theorem qh8 (h:W M ⟨none,ky⟩ (qdy 0) true (FIN3 M [.tmp 2] Q) [(0,a0)] [] H):wu M ky [a0] H Q:=callf (by decide) qh7 (ks:=qdx) (by kernel_rfl) h
def qgz:AFunc:=funcAt Tryd.prog qa8
def qkk:Kp:=⟨[0,2],false,[0,2,10,18,26]⟩
def jg (k:Nat):Kp × ACode:=(qkk,part qgz.body k)
theorem qeu (M:Mac) (c:Ctx):(∀ Q E D H,W M c (jg 0) true Q E D H =
 W M c (jg 2) true Q ((2,(.int .i64 0))::E) D H) /\
 (∀ Q E D H,W M c (jg 2) true Q E D H =
  Lz E 0 fun g t0=>Cb g .geq t0 (.int .u64 4294967296) (fun g=>Ly g E 0 fun g t0_1=>Bn g .shr t0_1 (.int .u64 32) fun g t6=>Gt g M c (jg 10) Q ((2,(.int .i64 32))::(0,t6)::E) D H) (fun g=>Gt g M c (jg 10) Q E D H)) /\
 (∀ Q E D H,W M c (jg 10) true Q E D H =
  Lz E 0 fun g t0=>Cb g .geq t0 (.int .u64 65536) (fun g=>Ly g E 0 fun g t0_1=>Bn g .shr t0_1 (.int .u64 16) fun g t10=>Ly g E 2 fun g t2=>Bn g .add t2 (.int .i64 16) fun g t12=>Gt g M c (jg 18) Q ((2,t12)::(0,t10)::E) D H) (fun g=>Gt g M c (jg 18) Q E D H)) /\
 (∀ Q E D H,W M c (jg 18) true Q E D H =
  Lz E 0 fun g t0=>Cb g .geq t0 (.int .u64 256) (fun g=>Ly g E 0 fun g t0_1=>Bn g .shr t0_1 (.int .u64 8) fun g t16=>Ly g E 2 fun g t2=>Bn g .add t2 (.int .i64 8) fun g t18=>Gt g M c (jg 26) Q ((2,t18)::(0,t16)::E) D H) (fun g=>Gt g M c (jg 26) Q E D H)) /\
 (∀ Q E D H,W M c (jg 26) true Q E D H =
  Lz E 2 fun g t2=>Ly g E 0 fun g t0=>B3 g ((Op.wrap .u8) [t0]) fun g t21=>B3 g (Op.indexStr [(.str qn1),t21]) fun g t22=>B3 g ((Op.wrap .i64) [t22]) fun g t23=>Bn g .add t2 t23 fun g t24=>GO3 g Q .ret ((2,t24)::E) D H):=by (repeat' apply And.intro)<;>(intro _ _ _ _;refine W_unf ?_;kernel_rfl)
theorem qpw:(cProg Tryd.prog).func qa8=some qgz/\qgz.results=[.tmp 2]:=x6 (by kernel_rfl)
theorem qpx (h:W M ⟨none,qa8⟩ (jg 0) true (FIN3 M [.tmp 2] Q) [(0,a0)] [] H):wu M qa8 [a0] H Q:=callf (by decide) qpw (ks:=qkk) (by kernel_rfl) h
def qb3:AFunc:=funcAt Tryd.prog kx
def qdw:Kp:=⟨[0,2],false,[0,2,10]⟩
def j4 (k:Nat):Kp × ACode:=(qdw,part qb3.body k)
theorem qh6 (M:Mac) (c:Ctx):(∀ Q E D H,W M c (j4 0) true Q E D H =
 W M c (j4 2) true Q ((2,(.int .i64 0))::E) D H) /\
 (∀ Q E D H,W M c (j4 2) true Q E D H =
  Lz E 0 fun g t0=>IF3 g t0 (fun g=>GO3 g (SEQ3 (W M c (j4 10)) Q) .ret ((2,(.int .i64 1))::E) D H) (fun g=>Gt g M c (j4 10) Q E D H)) /\
 (∀ Q E D H,W M c (j4 10) true Q E D H =
  GO3 true Q .ret ((2,(.int .i64 0))::E) D H):=by (repeat' apply And.intro)<;>(intro _ _ _ _;refine W_unf ?_;kernel_rfl)
theorem qh4:(cProg Tryd.prog).func kx=some qb3/\qb3.results=[.tmp 2]:=x6 (by kernel_rfl)
theorem qh5 (h:W M ⟨none,kx⟩ (j4 0) true (FIN3 M [.tmp 2] Q) [(0,a0)] [] H):wu M kx [a0] H Q:=callf (by decide) qh4 (ks:=qdw) (by kernel_rfl) h
end
end Go.Am
namespace Go.Am
abbrev ya:Nat:=125
abbrev qcs:Nat:=15
abbrev qfn:Nat:=63
abbrev qbm:Nat:=40
abbrev qfo:Nat:=62
abbrev qea:Nat:=129
abbrev qfp:Nat:=128
abbrev yj:Nat:=101
abbrev qbn:Nat:=100
abbrev jc:Nat:=99
abbrev qao:Nat:=41
abbrev jd:Nat:=66
abbrev xc:Nat:=64
abbrev qce:Nat:=95
abbrev qpn:Nat:=123
abbrev qca:Nat:=124
abbrev qae:Nat:=93
abbrev jy:Nat:=96
abbrev qay:Nat:=65
abbrev zj:Nat:=58
abbrev qw5:Nat:=4
abbrev T_int:Nat:=3
abbrev kq:Nat:=80
abbrev qc3:Nat:=78
def q18:List UInt8:=[115,116,114,105,110,103,115,58,32,110,101,103,97,116,105,118,101,32,82,101,112,101,97,116,32,99,111,117,110,116]
def q19:List UInt8:=[115,116,114,105,110,103,115,58,32,82,101,112,101,97,116,32,111,117,116,112,117,116,32,108,101,110,103,116,104,32,111,118,101,114,102,108,111,119]
def qgr:List UInt8:=[32,32,32,32,32,32,32,32,32,32,32,32,32,32,32,32,32,32,32,32,32,32,32,32,32,32,32,32,32,32,32,32,32,32,32,32,32,32,32,32,32,32,32,32,32,32,32,32,32,32,32,32,32,32,32,32,32,32,32,32,32,32,32,32,32,32,32,32,32,32,32,32,32,32,32,32,32,32,32,32,32,32,32,32,32,32,32,32,32,32,32,32,32,32,32,32,32,32,32,32,32,32,32,32,32,32,32,32,32,32,32,32,32,32,32,32,32,32,32,32,32,32,32,32,32,32,32,32]
def qt4:List UInt8:=[45,45,45,45,45,45,45,45,45,45,45,45,45,45,45,45,45,45,45,45,45,45,45,45,45,45,45,45,45,45,45,45,45,45,45,45,45,45,45,45,45,45,45,45,45,45,45,45,45,45,45,45,45,45,45,45,45,45,45,45,45,45,45,45,45,45,45,45,45,45,45,45,45,45,45,45,45,45,45,45,45,45,45,45,45,45,45,45,45,45,45,45,45,45,45,45,45,45,45,45,45,45,45,45,45,45,45,45,45,45,45,45,45,45,45,45,45,45,45,45,45,45,45,45,45,45,45,45]
def qt5:List UInt8:=[48,48,48,48,48,48,48,48,48,48,48,48,48,48,48,48,48,48,48,48,48,48,48,48,48,48,48,48,48,48,48,48,48,48,48,48,48,48,48,48,48,48,48,48,48,48,48,48,48,48,48,48,48,48,48,48,48,48,48,48,48,48,48,48]
def qt6:List UInt8:=[61,61,61,61,61,61,61,61,61,61,61,61,61,61,61,61,61,61,61,61,61,61,61,61,61,61,61,61,61,61,61,61,61,61,61,61,61,61,61,61,61,61,61,61,61,61,61,61,61,61,61,61,61,61,61,61,61,61,61,61,61,61,61,61,61,61,61,61,61,61,61,61,61,61,61,61,61,61,61,61,61,61,61,61,61,61,61,61,61,61,61,61,61,61,61,61,61,61,61,61,61,61,61,61,61,61,61,61,61,61,61,61,61,61,61,61,61,61,61,61,61,61,61,61,61,61,61,61]
def qt7:List UInt8:=[9,9,9,9,9,9,9,9,9,9,9,9,9,9,9,9,9,9,9,9,9,9,9,9,9,9,9,9,9,9,9,9,9,9,9,9,9,9,9,9,9,9,9,9,9,9,9,9,9,9,9,9,9,9,9,9,9,9,9,9,9,9,9,9]
def q2a:List UInt8:=[116,104,101,32,114,101,115,117,108,116,32,111,102,32,40,108,101,110,40,120,41,32,42,32,99,111,117,110,116,41,32,111,118,101,114,102,108,111,119,115]
noncomputable section
open Go.Proofs Go.Proofs.YtbimikjajohflaaDoor
variable {M:Mac} [MK M] {H:AHeap} {Q:AEnd->AHeap->Prop} {a0 a1 a2:AV}
def qlt:AFunc:=funcAt Tryd.prog qcs
def qqk:Kp:=⟨[0,2,3,4],false,[0,2,10,14,22]⟩
def qaz (k:Nat):Kp × ACode:=(qqk,part qlt.body k)
theorem qxu (M:Mac) (c:Ctx):(∀ Q E D H,W M c (qaz 0) true Q E D H =
 W M c (qaz 2) true Q ((3,(.int .i64 0))::(2,(.str []))::E) D H) /\
 (∀ Q E D H,W M c (qaz 2) true Q E D H =
  Lz E 0 fun g t0=>C3 M g (.func qbm) [t0] H fun g t6 H1=>B3 g ((Op.un .not) [t6]) fun g t7=>IF3 g t7 (fun g=>GO3 g (SEQ3 (W M c (qaz 10)) Q) .ret ((3,(.int .i64 2))::(2,(.str []))::E) D H1) (fun g=>Gt g M c (qaz 10) Q E D H1)) /\
 (∀ Q E D H,W M c (qaz 10) true Q E D H =
  Lz E 0 fun g t0=>B3 g ((Op.build [.nilp,.nils,.nils,(.int .i64 0),(.int .i64 0)] [(2,1)]) [t0]) fun g t9=>A3 g kq (AV.cells t9) H fun g t10 H1=>Ly g E 0 fun g t0_1=>B3 g (Op.lenSl [t0_1]) fun g t13=>Bn g .sub t13 (.int .i64 1) fun g t14=>C3 M g (.func qao) [t10,t14,(.int .i64 0)] H1 fun g t15 H2=>W M c (qaz 14) g Q ((4,t10)::E) D H2) /\
 (∀ Q E D H,W M c (qaz 14) true Q E D H =
  Lz E 4 fun g t4=>Nf g 4 t4 H fun g t19=>Cb g .gtr t19 (.int .i64 50) (fun g=>GO3 g (SEQ3 (W M c (qaz 22)) Q) .ret ((3,(.int .i64 2))::(2,(.str []))::E) D H) (fun g=>Gt g M c (qaz 22) Q E D H)) /\
 (∀ Q E D H,W M c (qaz 22) true Q E D H =
  Lz E 4 fun g t4=>B3 g (Op.nilCheck [t4]) fun g t22=>B3 g ((Op.fieldAddr 0) [t22]) fun g t23=>C3 M g (.func kg) [t23] H fun g t24 H1=>GO3 g Q .ret ((3,(.int .i64 0))::(2,t24)::E) D H1):=by (repeat' apply And.intro)<;>(intro _ _ _ _;refine W_unf ?_;kernel_rfl)
theorem qxs:(cProg Tryd.prog).func qcs=some qlt/\qlt.results=[.tmp 2,.tmp 3]:=x6 (by kernel_rfl)
theorem qxt (h:W M ⟨none,qcs⟩ (qaz 0) true (FIN3 M [.tmp 2,.tmp 3] Q) [(0,a0)] [] H):wu M qcs [a0] H Q:=callf (by decide) qxs (ks:=qqk) (by kernel_rfl) h
def qpp:AFunc:=funcAt Tryd.prog qbm
def qul:Kp:=⟨[0,2,3,4,5,6,7,8,9,10,11,33,34,35,70,71,72],false,[0,2,10,14,19,25,31,39,41,46,52,56,64,65,66,70,78,80,81,82]⟩
def xo (k:Nat):Kp × ACode:=(qul,part qpp.body k)
theorem qum (M:Mac) (c:Ctx):(∀ Q E D H,W M c (xo 0) true Q E D H =
 W M c (xo 2) true Q ((2,(.bool false))::E) D H) /\
 (∀ Q E D H,W M c (xo 2) true Q E D H =
  Lz E 0 fun g t0=>B3 g (Op.lenSl [t0]) fun g t13=>Bn g .lss t13 (.int .i64 1) fun g t14=>JN (fun (k:Bool->AV->AV->AV->AHeap->Prop)=>B3 g (wantV false (some t14)) fun g w=>IG3 g w (fun g=>B3 g (Op.lenSl [t0]) fun g t17=>Bn g .gtr t17 (.int .i64 2000) fun g t18=>k g t18 t17 t0 H) (fun g=>k g uu uu uu H)) (fun g t18_1 t17_1 t16_1 H1=>B3 g (Op.pick [t14,(.bool true),t18_1]) fun g t19=>JN (fun (k:Bool->AV->AV->AV->AV->AV->AV->AV->AV->AHeap->Prop)=>B3 g (wantV false (some t19)) fun g w=>IG3 g w (fun g=>B3 g (Op.lenSl [t0]) fun g t23=>Bn g .sub t23 (.int .i64 1) fun g t24=>B3 g ((Op.indexSl 3) [t0,t24]) fun g t25=>B3 g ((Op.fieldAddr 0) [t25]) fun g t26=>B3 g (Op.load1 [t26] H1) fun g t27=>Bn g .neq t27 (.int .i64 20) fun g t28=>k g t28 t27 t26 t25 t24 t23 t0 t0 H1) (fun g=>k g uu uu uu uu uu uu uu uu H1)) (fun g t28_1 t27_1 t26_1 t25_1 t24_1 t23_1 t22_1 t21_1 H2=>B3 g (Op.pick [t19,(.bool true),t28_1]) fun g t29=>IF3 g t29 (fun g=>GO3 g (SEQ3 (W M c (xo 10)) Q) .ret ((2,(.bool false))::E) D H2) (fun g=>Gt g M c (xo 10) Q E D H2)))) /\
 (∀ Q E D H,W M c (xo 10) true Q E D H =
  Lz E 0 fun g t0=>B3 g (Op.lenSl [t0]) fun g t31=>B32 g ((Op.mkSlice qw5 1 [(.bool false)]) [t31,t31]) fun g o1 k1=>W M c (xo 14) g Q ((4,(k1 H.next))::(3,.nils)::E) D (H.alloc o1)) /\
 (∀ Q E D H,W M c (xo 14) true Q E D H =
  Lz E 0 fun g t0=>B3 g (Op.lenSl [t0]) fun g t34=>LOOP3 (W M c (xo 19)) (BLK3 0 (SEQ3 (W M c (xo 82)) Q)) ((35,(.int .i64 0))::(34,t34)::(33,t0)::E) D H) /\
 (∀ Q E D H,W M c (xo 82) true Q E D H =
  Lz E 3 fun g t3=>B3 g (Op.lenSl [t3]) fun g t132=>Bn g .eql t132 (.int .i64 1) fun g t133=>GO3 g Q .ret ((2,t133)::E) D H) /\
 (∀ Q E D H,W M c (xo 19) true Q E D H =
  Lz E 35 fun g t35=>Ly g E 34 fun g t34=>Cb g .lss t35 t34 (fun g=>Gt g M c (xo 25) Q E D H) (fun g=>GO3 g (SEQ3 (W M c (xo 25)) Q) (.exit 0) E D H)) /\
 (∀ Q E D H,W M c (xo 25) true Q E D H =
  Lz E 35 fun g t35=>Ly g E 33 fun g t33=>B3 g ((Op.indexSl 3) [t33,t35]) fun g t38=>B3 g ((Op.loadN 3) [t38] H) fun g t39=>A3 g zj [(.int .i64 0),(.int .u64 0),.nils] H fun g t6 H1=>B32 g ((Op.store 3) [t6,t39] H1) fun g u H2=>B3 g ((Op.loadN 3) [t6] H2) fun g t41=>C3 M g (.func qfo) [t41] H2 fun g t42 H3=>B3 g ((Op.extract 0) [t42]) fun g t43=>B3 g ((Op.extract 1) [t42]) fun g t44=>W M c (xo 31) g (BLK3 1 (SEQ3 (W M c (xo 81)) Q)) ((8,t44)::(7,t43)::(5,t35)::(6,t6)::E) D H3) /\
 (∀ Q E D H,W M c (xo 81) true Q E D H =
  Lz E 35 fun g t35=>Bn g .add t35 (.int .i64 1) fun g t130=>GO3 g Q .normal ((35,t130)::E) D H) /\
 (∀ Q E D H,W M c (xo 31) true Q E D H =
  Lz E 8 fun g t8=>B3 g ((Op.un .not) [t8]) fun g t46=>JN (fun (k:Bool->AV->AV->AV->AV->AV->AV->AHeap->Prop)=>B3 g (wantV false (some t46)) fun g w=>IG3 g w (fun g=>Ly g E 7 fun g t7=>B3 g (Op.lenSl [t7]) fun g t49=>Ly g E 6 fun g t6=>B3 g ((Op.fieldAddr 2) [t6]) fun g t50=>B3 g (Op.load1 [t50] H) fun g t51=>B3 g (Op.lenSl [t51]) fun g t52=>Bn g .neq t49 t52 fun g t53=>k g t53 t52 t51 t50 t49 t7 H) (fun g=>k g uu uu uu uu uu uu H)) (fun g t53_1 t52_1 t51_1 t50_1 t49_1 t48_1 H1=>B3 g (Op.pick [t46,(.bool true),t53_1]) fun g t54=>JN (fun (k:Bool->AV->AV->AV->AV->AV->AHeap->Prop)=>B3 g (wantV false (some t54)) fun g w=>IG3 g w (fun g=>Ly g E 7 fun g t7_1=>B3 g (Op.lenSl [t7_1]) fun g t57=>Ly g E 3 fun g t3=>B3 g (Op.lenSl [t3]) fun g t59=>Bn g .gtr t57 t59 fun g t60=>k g t60 t59 t3 t57 t7_1 H1) (fun g=>k g uu uu uu uu uu H1)) (fun g t60_1 t59_1 t58_1 t57_1 t56_1 H2=>B3 g (Op.pick [t54,(.bool true),t60_1]) fun g t61=>IF3 g t61 (fun g=>GO3 g (SEQ3 (W M c (xo 39)) Q) .ret ((2,(.bool false))::E) D H2) (fun g=>Gt g M c (xo 39) Q E D H2)))) /\
 (∀ Q E D H,W M c (xo 39) true Q E D H =
  Lz E 3 fun g t3=>B3 g (Op.lenSl [t3]) fun g t64=>Ly g E 7 fun g t7=>B3 g (Op.lenSl [t7]) fun g t66=>Bn g .sub t64 t66 fun g t67=>B3 g ((Op.sliceSl 1 [(some 0),none,none]) [t3,t67]) fun g t68=>W M c (xo 41) g Q ((9,t68)::E) D H) /\
 (∀ Q E D H,W M c (xo 41) true Q E D H =
  Lz E 6 fun g t6=>Fl g 2 t6 H fun g t70=>B3 g (Op.lenSl [t70]) fun g t71=>LOOP3 (W M c (xo 46)) (BLK3 2 (SEQ3 (W M c (xo 66)) Q)) ((72,(.int .i64 0))::(71,t71)::(70,t70)::E) D H) /\
 (∀ Q E D H,W M c (xo 66) true Q E D H =
  Lz E 6 fun g t6=>Fl g 0 t6 H fun g t111=>Cb g .eql t111 (.int .i64 18) (fun g=>W M c (xo 70) g (SEQ3 (W M c (xo 80)) Q) E D H) (fun g=>Gt g M c (xo 80) Q E D H)) /\
 (∀ Q E D H,W M c (xo 46) true Q E D H =
  Lz E 72 fun g t72=>Ly g E 71 fun g t71=>Cb g .lss t72 t71 (fun g=>Gt g M c (xo 52) Q E D H) (fun g=>GO3 g (SEQ3 (W M c (xo 52)) Q) (.exit 2) E D H)) /\
 (∀ Q E D H,W M c (xo 80) true Q E D H =
  Lz E 3 fun g t3=>B3 g (Op.lenSl [t3]) fun g t122=>Ly g E 7 fun g t7=>B3 g (Op.lenSl [t7]) fun g t124=>Bn g .sub t122 t124 fun g t125=>B3 g ((Op.sliceSl 1 [none,(some 0),none]) [t3,t125]) fun g t126=>Ly g E 5 fun g t5=>B32 g ((Op.buildSlice T_int 1 [(.int .i64 0)] [(0,1)]) [t5]) fun g o1 k1=>B32 g ((Op.append T_int 1 8) [t126,(k1 H.next)] (H.alloc o1)) fun g t129 H2=>GO3 g Q .normal ((3,t129)::E) D H2) /\
 (∀ Q E D H,W M c (xo 70) true Q E D H =
  Lz E 4 fun g t4=>Ly g E 5 fun g t5=>Xl g t4 t5 H fun g t116=>IF3 g t116 (fun g=>GO3 g (SEQ3 (W M c (xo 78)) Q) .ret ((2,(.bool false))::E) D H) (fun g=>Gt g M c (xo 78) Q E D H)) /\
 (∀ Q E D H,W M c (xo 52) true Q E D H =
  Lz E 72 fun g t72=>Ly g E 70 fun g t70=>Xl g t70 t72 H fun g t76=>W M c (xo 56) g (BLK3 3 (SEQ3 (W M c (xo 65)) Q)) ((11,t76)::(10,t72)::E) D H) /\
 (∀ Q E D H,W M c (xo 78) true Q E D H =
  Lz E 4 fun g t4=>Ly g E 5 fun g t5=>Xs g t4 t5 (.bool true) H fun g u H1=>GO3 g Q .normal E D H1) /\
 (∀ Q E D H,W M c (xo 65) true Q E D H =
  Lz E 72 fun g t72=>Bn g .add t72 (.int .i64 1) fun g t109=>GO3 g Q .normal ((72,t109)::E) D H) /\
 (∀ Q E D H,W M c (xo 56) true Q E D H =
  Lz E 9 fun g t9=>Ly g E 10 fun g t10=>Xl g t9 t10 H fun g t80=>Ly g E 11 fun g t11=>Bn g .neq t80 t11 fun g t82=>JN (fun (k:Bool->AV->AV->AV->AV->AV->AV->AV->AV->AV->AV->AV->AHeap->Prop)=>B3 g (wantV false (some t82)) fun g w=>IG3 g w (fun g=>Ly g E 0 fun g t0=>B3 g ((Op.indexSl 3) [t0,t11]) fun g t86=>B3 g ((Op.fieldAddr 0) [t86]) fun g t87=>B3 g (Op.load1 [t87] H) fun g t88=>Ly g E 7 fun g t7=>B3 g ((Op.indexSl 1) [t7,t10]) fun g t92=>B3 g (Op.load1 [t92] H) fun g t93=>C3 M g (.func qfn) [t88] H fun g t89 H1=>CK3 g (Op.load1 [t92] H1) (some t93) fun g=>Bn g .neq t89 t93 fun g t94=>k g t94 t89 t93 t92 t10 t7 t88 t87 t86 t11 t0 H1) (fun g=>k g uu uu uu uu uu uu uu uu uu uu uu H)) (fun g t94_1 t89_1 t93_1 t92_1 t91_1 t90_1 t88_1 t87_1 t86_1 t85_1 t84_1 H2=>B3 g (Op.pick [t82,(.bool true),t94_1]) fun g t95=>IF3 g t95 (fun g=>GO3 g (SEQ3 (W M c (xo 64)) Q) .ret ((2,(.bool false))::E) D H2) (fun g=>Gt g M c (xo 64) Q E D H2))) /\
 (∀ Q E D H,W M c (xo 64) true Q E D H =
  Lz E 4 fun g t4=>Ly g E 5 fun g t5=>Xl g t4 t5 H fun g t101=>JN (fun (k:Bool->AV->AV->AV->AV->AHeap->Prop)=>B3 g (wantV false (some t101)) fun g w=>IG3 g w (fun g=>Ly g E 11 fun g t11=>B3 g ((Op.indexSl 1) [t4,t11]) fun g t105=>B3 g (Op.load1 [t105] H) fun g t106=>k g t106 t105 t11 t4 H) (fun g=>k g uu uu uu uu H)) (fun g t106_1 t105_1 t104_1 t103_1 H1=>B3 g (Op.pick [t101,(.bool true),t106_1]) fun g t107=>Xs g t4 t5 t107 H1 fun g u H2=>GO3 g Q .normal E D H2)):=by (repeat' apply And.intro)<;>(intro _ _ _ _;refine W_unf ?_;kernel_rfl)
theorem q22:(cProg Tryd.prog).func qbm=some qpp/\qpp.results=[.tmp 2]:=x6 (by kernel_rfl)
theorem q23 (h:W M ⟨none,qbm⟩ (xo 0) true (FIN3 M [.tmp 2] Q) [(0,a0)] [] H):wu M qbm [a0] H Q:=callf (by decide) q22 (ks:=qul) (by kernel_rfl) h
def qgb:AFunc:=funcAt Tryd.prog qao
def qjr:Kp:=⟨[0,1,2,7,15,16,17],false,[0,4,10,19]⟩
def yz (k:Nat):Kp × ACode:=(qjr,part qgb.body k)
theorem qbq (M:Mac) (c:Ctx):(∀ Q E D H,W M c (yz 0) true Q E D H =
 Lz E 0 fun g t0=>Nf g 2 t0 H fun g t11=>Ly g E 1 fun g t1=>B3 g ((Op.indexSl 3) [t11,t1]) fun g t13=>Fl g 2 t13 H fun g t15=>B3 g (Op.lenSl [t15]) fun g t16=>LOOP3 (W M c (yz 4)) (BLK3 0 Q) ((17,(.int .i64 0))::(16,t16)::(15,t15)::E) D H) /\
 (∀ Q E D H,W M c (yz 4) true Q E D H =
  Lz E 17 fun g t17=>Ly g E 16 fun g t16=>Cb g .lss t17 t16 (fun g=>Gt g M c (yz 10) Q E D H) (fun g=>GO3 g (SEQ3 (W M c (yz 10)) Q) (.exit 0) E D H)) /\
 (∀ Q E D H,W M c (yz 10) true Q E D H =
  Lz E 15 fun g t15=>Ly g E 17 fun g t17=>Xl g t15 t17 H fun g t20=>Ly g E 0 fun g t0=>Ly g E 2 fun g t2=>C3 M g (.func qay) [(.str [32,32]),t2] H fun g t23 H1=>C3 M g (.func xc) [t0,t23] H1 fun g t24 H2=>Ly g E 0 fun g t0_1=>Ly g E 2 fun g t2_1=>C3 M g (.func jd) [t0_1,t20,t2_1] H2 fun g t28 H3=>Ly g E 0 fun g t0_2=>C3 M g (.func xc) [t0_2,(.str [10])] H3 fun g t30 H4=>GO3 g (BLK3 1 (SEQ3 (W M c (yz 19)) Q)) .normal ((7,t20)::E) D H4) /\
 (∀ Q E D H,W M c (yz 19) true Q E D H =
  Lz E 17 fun g t17=>Bn g .add t17 (.int .i64 1) fun g t31=>GO3 g Q .normal ((17,t31)::E) D H):=by (repeat' apply And.intro)<;>(intro _ _ _ _;refine W_unf ?_;kernel_rfl)
theorem qo1:(cProg Tryd.prog).func qao=some qgb/\qgb.results=[]:=x6 (by kernel_rfl)
theorem qo2 (h:W M ⟨none,qao⟩ (yz 0) true (FIN3 M [] Q) [(0,a0),(1,a1),(2,a2)] [] H):wu M qao [a0,a1,a2] H Q:=callf (by decide) qo1 (ks:=qjr) (by kernel_rfl) h
def qlv:AFunc:=funcAt Tryd.prog qfo
def qqm:Kp:=⟨[0,1,2,3,4,33,43,51,75],false,[0,4,12,24,28,34,38,44,54,60,70,77]⟩
def zb (k:Nat):Kp × ACode:=(qqm,part qlv.body k)
theorem kr (M:Mac) (c:Ctx):(∀ Q E D H,W M c (zb 0) true Q E D H =
 Lz E 0 fun g t0=>A3 g zj (AV.cells t0) H fun g t1 H1=>Fl g 0 t1 H1 fun g t6=>Bn g .eql t6 (.int .i64 2) fun g t7=>JN (fun (k:Bool->AV->AV->AV->AHeap->Prop)=>B3 g (wantV false (some t7)) fun g w=>IG3 g w (fun g=>B3 g ((Op.fieldAddr 0) [t1]) fun g t9=>B3 g (Op.load1 [t9] H1) fun g t10=>Bn g .eql t10 (.int .i64 14) fun g t11=>k g t11 t10 t9 H1) (fun g=>k g uu uu uu H1)) (fun g t11_1 t10_1 t9_1 H2=>B3 g (Op.pick [t7,(.bool true),t11_1]) fun g t12=>W M c (zb 4) g Q ((4,t12)::(3,(.bool false))::(2,.nils)::(1,t1)::E) D H2)) /\
 (∀ Q E D H,W M c (zb 4) true Q E D H =
  Lz E 4 fun g t4=>JN (fun (k:Bool->AV->AV->AV->AHeap->Prop)=>B3 g (wantV true (some t4)) fun g w=>IG3 g w (fun g=>Ly g E 1 fun g t1=>B3 g ((Op.fieldAddr 1) [t1]) fun g t15=>B3 g (Op.load1 [t15] H) fun g t16=>Bn g .gtr t16 (.int .u64 7) fun g t17=>k g t17 t16 t15 H) (fun g=>k g uu uu uu H)) (fun g t17_1 t16_1 t15_1 H1=>B3 g (Op.pick [t4,t17_1,(.bool false)]) fun g t18=>JN (fun (k:Bool->AV->AV->AV->AHeap->Prop)=>B3 g (wantV false (some t18)) fun g w=>IG3 g w (fun g=>B3 g ((Op.un .not) [t4]) fun g t21=>k g t21 t21 t4 H1) (fun g=>k g uu uu uu H1)) (fun g t22_1 t21_1 t20_1 H2=>JN (fun (k:Bool->AV->AV->AV->AHeap->Prop)=>B3 g (wantV true (some t22_1)) fun g w=>IG3 g w (fun g=>Ly g E 1 fun g t1_1=>B3 g ((Op.fieldAddr 0) [t1_1]) fun g t23=>B3 g (Op.load1 [t23] H2) fun g t24=>Bn g .neq t24 (.int .i64 1) fun g t25=>k g t25 t24 t23 H2) (fun g=>k g uu uu uu H2)) (fun g t25_1 t24_1 t23_1 H3=>JN (fun (k:Bool->AV->AV->AHeap->Prop)=>B3 g (wantV false (some t18)) fun g w=>IG3 g w (fun g=>B3 g (Op.pick [t22_1,t25_1,(.bool false)]) fun g t26=>k g t26 t26 H3) (fun g=>k g uu uu H3)) (fun g t27_1 t26_1 H4=>JN (fun (k:Bool->AV->AV->AV->AHeap->Prop)=>B3 g (wantV true (some t27_1)) fun g w=>IG3 g w (fun g=>Ly g E 1 fun g t1_2=>B3 g ((Op.fieldAddr 1) [t1_2]) fun g t28=>B3 g (Op.load1 [t28] H4) fun g t29=>Bn g .neq t29 (.int .u64 0) fun g t30=>k g t30 t29 t28 H4) (fun g=>k g uu uu uu H4)) (fun g t30_1 t29_1 t28_1 H5=>JN (fun (k:Bool->AV->AHeap->Prop)=>B3 g (wantV false (some t18)) fun g w=>IG3 g w (fun g=>B3 g (Op.pick [t27_1,t30_1,(.bool false)]) fun g t31=>k g t31 H5) (fun g=>k g uu H5)) (fun g t31_1 H6=>B3 g (Op.pick [t18,(.bool true),t31_1]) fun g t32=>IF3 g t32 (fun g=>GO3 g (SEQ3 (W M c (zb 12)) Q) .ret ((3,(.bool false))::(2,.nils)::E) D H6) (fun g=>Gt g M c (zb 12) Q E D H6)))))))) /\
 (∀ Q E D H,W M c (zb 12) true Q E D H =
  Lz E 1 fun g t1=>Fl g 0 t1 H fun g t35=>Bn g .eql t35 (.int .i64 1) fun g t36=>IF3 g t36 (fun g=>Gt g M c (zb 24) (BLK3 0 (SEQ3 (W M c (zb 77)) Q)) ((33,t36)::E) D H) (fun g=>Ly g E 1 fun g t1_1=>Fl g 0 t1_1 H fun g t38=>Bn g .eql t38 (.int .i64 2) fun g t39=>IF3 g t39 (fun g=>Gt g M c (zb 24) (BLK3 0 (SEQ3 (W M c (zb 77)) Q)) ((33,t39)::(33,t36)::E) D H) (fun g=>Ly g E 1 fun g t1_2=>Fl g 0 t1_2 H fun g t41=>Bn g .eql t41 (.int .i64 19) fun g t42=>Gt g M c (zb 24) (BLK3 0 (SEQ3 (W M c (zb 77)) Q)) ((33,t42)::(33,t39)::(33,t36)::E) D H))) /\
 (∀ Q E D H,W M c (zb 77) true Q E D H =
  GO3 true Q .ret ((3,(.bool false))::(2,.nils)::E) D H) /\
 (∀ Q E D H,W M c (zb 24) true Q E D H =
  Lz E 33 fun g t33=>IF3 g t33 (fun g=>GO3 g Q .ret ((3,(.bool true))::(2,.nils)::E) D H) (fun g=>W M c (zb 28) g Q E D H)) /\
 (∀ Q E D H,W M c (zb 28) true Q E D H =
  Lz E 1 fun g t1=>Fl g 0 t1 H fun g t45=>Bn g .eql t45 (.int .i64 3) fun g t46=>IF3 g t46 (fun g=>Gt g M c (zb 34) Q ((43,t46)::E) D H) (fun g=>Ly g E 1 fun g t1_1=>Fl g 0 t1_1 H fun g t48=>Bn g .eql t48 (.int .i64 14) fun g t49=>Gt g M c (zb 34) Q ((43,t49)::(43,t46)::E) D H)) /\
 (∀ Q E D H,W M c (zb 34) true Q E D H =
  Lz E 43 fun g t43=>IF3 g t43 (fun g=>B32 g ((Op.buildSlice T_int 1 [(.int .i64 0)] [(0,1)]) [(.int .i64 1)]) fun g o1 k1=>GO3 g Q .ret ((3,(.bool true))::(2,(k1 H.next))::E) D (H.alloc o1)) (fun g=>W M c (zb 38) g Q E D H)) /\
 (∀ Q E D H,W M c (zb 38) true Q E D H =
  Lz E 1 fun g t1=>Fl g 0 t1 H fun g t53=>Bn g .geq t53 (.int .i64 4) fun g t54=>JN (fun (k:Bool->AV->AV->AV->AHeap->Prop)=>B3 g (wantV true (some t54)) fun g w=>IG3 g w (fun g=>B3 g ((Op.fieldAddr 0) [t1]) fun g t56=>B3 g (Op.load1 [t56] H) fun g t57=>Bn g .leq t57 (.int .i64 13) fun g t58=>k g t58 t57 t56 H) (fun g=>k g uu uu uu H)) (fun g t58_1 t57_1 t56_1 H1=>B3 g (Op.pick [t54,t58_1,(.bool false)]) fun g t59=>IF3 g t59 (fun g=>Gt g M c (zb 44) Q ((51,t59)::E) D H1) (fun g=>Ly g E 1 fun g t1_1=>Fl g 0 t1_1 H1 fun g t61=>Bn g .eql t61 (.int .i64 15) fun g t62=>Gt g M c (zb 44) Q ((51,t62)::(51,t59)::E) D H1))) /\
 (∀ Q E D H,W M c (zb 44) true Q E D H =
  Lz E 51 fun g t51=>IF3 g t51 (fun g=>B32 g ((Op.buildSlice T_int 2 [(.int .i64 0)] [(0,1),(1,1)]) [(.int .i64 1),(.int .i64 1)]) fun g o1 k1=>GO3 g Q .ret ((3,(.bool true))::(2,(k1 H.next))::E) D (H.alloc o1)) (fun g=>Ly g E 1 fun g t1=>Fl g 0 t1 H fun g t66=>Bn g .eql t66 (.int .i64 16) fun g t67=>JN (fun (k:Bool->AV->AV->AV->AV->AHeap->Prop)=>B3 g (wantV true (some t67)) fun g w=>IG3 g w (fun g=>B3 g ((Op.fieldAddr 2) [t1]) fun g t69=>B3 g (Op.load1 [t69] H) fun g t70=>B3 g (Op.lenSl [t70]) fun g t71=>Bn g .eql t71 (.int .i64 3) fun g t72=>k g t72 t71 t70 t69 H) (fun g=>k g uu uu uu uu H)) (fun g t72_1 t71_1 t70_1 t69_1 H1=>B3 g (Op.pick [t67,t72_1,(.bool false)]) fun g t73=>IF3 g t73 (fun g=>B32 g ((Op.buildSlice T_int 3 [(.int .i64 0)] [(0,1),(1,1),(2,1)]) [(.int .i64 2),(.int .i64 4),(.int .i64 4)]) fun g o2 k2=>GO3 g Q .ret ((3,(.bool true))::(2,(k2 H1.next))::E) D (H1.alloc o2)) (fun g=>W M c (zb 54) g Q E D H1)))) /\
 (∀ Q E D H,W M c (zb 54) true Q E D H =
  Lz E 1 fun g t1=>Fl g 0 t1 H fun g t77=>Bn g .eql t77 (.int .i64 16) fun g t78=>IF3 g t78 (fun g=>Gt g M c (zb 60) Q ((75,t78)::E) D H) (fun g=>Ly g E 1 fun g t1_1=>Fl g 0 t1_1 H fun g t80=>Bn g .eql t80 (.int .i64 17) fun g t81=>Gt g M c (zb 60) Q ((75,t81)::(75,t78)::E) D H)) /\
 (∀ Q E D H,W M c (zb 60) true Q E D H =
  Lz E 75 fun g t75=>IF3 g t75 (fun g=>B32 g ((Op.buildSlice T_int 2 [(.int .i64 0)] [(0,1),(1,1)]) [(.int .i64 2),(.int .i64 4)]) fun g o1 k1=>GO3 g Q .ret ((3,(.bool true))::(2,(k1 H.next))::E) D (H.alloc o1)) (fun g=>Ly g E 1 fun g t1=>Fl g 0 t1 H fun g t85=>Cb g .eql t85 (.int .i64 18) (fun g=>B32 g ((Op.buildSlice T_int 1 [(.int .i64 0)] [(0,1)]) [(.int .i64 4)]) fun g o1 k1=>GO3 g Q .ret ((3,(.bool true))::(2,(k1 H.next))::E) D (H.alloc o1)) (fun g=>W M c (zb 70) g Q E D H))) /\
 (∀ Q E D H,W M c (zb 70) true Q E D H =
  Lz E 1 fun g t1=>Fl g 0 t1 H fun g t90=>Cb g .eql t90 (.int .i64 20) (fun g=>B32 g ((Op.buildSlice T_int 1 [(.int .i64 0)] [(0,1)]) [(.int .i64 3)]) fun g o1 k1=>Ly g E 1 fun g t1_1=>Fl g 2 t1_1 (H.alloc o1) fun g t94=>B3 g (Op.lenSl [t94]) fun g t95=>C3 M g (.func qae) [(k1 H.next),t95] (H.alloc o1) fun g t96 H2=>GO3 g Q .ret ((3,(.bool true))::(2,t96)::E) D H2) (fun g=>GO3 g Q .normal E D H)):=by (repeat' apply And.intro)<;>(intro _ _ _ _;refine W_unf ?_;kernel_rfl)
theorem qxx:(cProg Tryd.prog).func qfo=some qlv/\qlv.results=[.tmp 2,.tmp 3]:=x6 (by kernel_rfl)
theorem qxy (h:W M ⟨none,qfo⟩ (zb 0) true (FIN3 M [.tmp 2,.tmp 3] Q) [(0,a0)] [] H):wu M qfo [a0] H Q:=callf (by decide) qxx (ks:=qqm) (by kernel_rfl) h
def qlu:AFunc:=funcAt Tryd.prog qfn
def qql:Kp:=⟨[0,2],false,[0,2,16,29]⟩
def qb9 (k:Nat):Kp × ACode:=(qql,part qlu.body k)
theorem qfv (M:Mac) (c:Ctx):(∀ Q E D H,W M c (qb9 0) true Q E D H =
 W M c (qb9 2) true Q ((2,(.int .i64 0))::E) D H) /\
 (∀ Q E D H,W M c (qb9 2) true Q E D H =
  Lz E 0 fun g t0=>Bn g .geq t0 (.int .i64 1) fun g t5=>JN (fun (k:Bool->AV->AV->AHeap->Prop)=>B3 g (wantV true (some t5)) fun g w=>IG3 g w (fun g=>Bn g .leq t0 (.int .i64 10) fun g t8=>k g t8 t0 H) (fun g=>k g uu uu H)) (fun g t8_1 t7_1 H1=>B3 g (Op.pick [t5,t8_1,(.bool false)]) fun g t9=>IF3 g t9 (fun g=>GO3 g (BLK3 0 (SEQ3 (W M c (qb9 29)) Q)) .ret ((2,(.int .i64 1))::E) D H1) (fun g=>Ly g E 0 fun g t0_1=>Bn g .geq t0_1 (.int .i64 11) fun g t12=>JN (fun (k:Bool->AV->AV->AHeap->Prop)=>B3 g (wantV true (some t12)) fun g w=>IG3 g w (fun g=>Bn g .leq t0_1 (.int .i64 13) fun g t15=>k g t15 t0_1 H1) (fun g=>k g uu uu H1)) (fun g t15_1 t14_1 H2=>B3 g (Op.pick [t12,t15_1,(.bool false)]) fun g t16=>IF3 g t16 (fun g=>GO3 g (BLK3 0 (SEQ3 (W M c (qb9 29)) Q)) .ret ((2,(.int .i64 2))::E) D H2) (fun g=>W M c (qb9 16) g (BLK3 0 (SEQ3 (W M c (qb9 29)) Q)) E D H2))))) /\
 (∀ Q E D H,W M c (qb9 29) true Q E D H =
  GO3 true Q .ret ((2,(.int .i64 0))::E) D H) /\
 (∀ Q E D H,W M c (qb9 16) true Q E D H =
  Lz E 0 fun g t0=>Bn g .geq t0 (.int .i64 14) fun g t19=>JN (fun (k:Bool->AV->AV->AHeap->Prop)=>B3 g (wantV true (some t19)) fun g w=>IG3 g w (fun g=>Bn g .leq t0 (.int .i64 19) fun g t22=>k g t22 t0 H) (fun g=>k g uu uu H)) (fun g t22_1 t21_1 H1=>B3 g (Op.pick [t19,t22_1,(.bool false)]) fun g t23=>IF3 g t23 (fun g=>GO3 g Q .ret ((2,(.int .i64 3))::E) D H1) (fun g=>Ly g E 0 fun g t0_1=>Cb g .eql t0_1 (.int .i64 20) (fun g=>GO3 g Q .ret ((2,(.int .i64 4))::E) D H1) (fun g=>GO3 g Q .normal E D H1)))):=by (repeat' apply And.intro)<;>(intro _ _ _ _;refine W_unf ?_;kernel_rfl)
theorem qxv:(cProg Tryd.prog).func qfn=some qlu/\qlu.results=[.tmp 2]:=x6 (by kernel_rfl)
theorem qxw (h:W M ⟨none,qfn⟩ (qb9 0) true (FIN3 M [.tmp 2] Q) [(0,a0)] [] H):wu M qfn [a0] H Q:=callf (by decide) qxv (ks:=qql) (by kernel_rfl) h
def qgd:AFunc:=funcAt Tryd.prog xc
def qjs:Kp:=⟨[0,1,5,7,8,11,12,34],false,[0,5,11,18,23,27,33,36]⟩
def za (k:Nat):Kp × ACode:=(qjs,part qgd.body k)
theorem qjt (M:Mac) (c:Ctx):(∀ Q E D H,W M c (za 0) true Q E D H =
 Lz E 1 fun g t1=>B32 g (Op.rangeStr [t1]) fun g o1 k1=>LOOP3 (W M c (za 5)) (BLK3 0 (SEQ3 (W M c (za 36)) Q)) ((7,(k1 H.next))::E) D (H.alloc o1)) /\
 (∀ Q E D H,W M c (za 36) true Q E D H =
  Lz E 0 fun g t0=>B3 g (Op.nilCheck [t0]) fun g t45=>B3 g ((Op.fieldAddr 0) [t45]) fun g t46=>Ly g E 1 fun g t1=>C3 M g (.func jh) [t46,t1] H fun g t48 H1=>GO3 g Q .normal E D H1) /\
 (∀ Q E D H,W M c (za 5) true Q E D H =
  Lz E 7 fun g t7=>B32 g (Op.nextStr [t7] H) fun g t8 H1=>B3 g ((Op.extract 0) [t8]) fun g t9=>IF3 g t9 (fun g=>Gt g M c (za 11) Q ((8,t8)::E) D H1) (fun g=>GO3 g (SEQ3 (W M c (za 11)) Q) (.exit 0) ((8,t8)::E) D H1)) /\
 (∀ Q E D H,W M c (za 11) true Q E D H =
  Lz E 8 fun g t8=>B3 g ((Op.extract 2) [t8]) fun g t10=>W M c (za 18) g (SEQ3 (W M c (za 23)) (BLK3 2 (BLK3 1 Q))) ((11,t10)::(5,t10)::E) D H) /\
 (∀ Q E D H,W M c (za 23) true Q E D H =
  Lz E 12 fun g t12=>IF3 g t12 (fun g=>Ly g E 0 fun g t0=>Nf g 3 t0 H fun g t18=>Bn g .add t18 (.int .i64 1) fun g t19=>Ns g 3 t0 t19 H fun g u H1=>Ly g E 0 fun g t0_1=>Nf g 4 t0_1 H1 fun g t26=>Nf g 3 t0_1 H1 fun g t30=>B3 g ((Op.minmax true) [t26,t30]) fun g t31=>Ns g 4 t0_1 t31 H1 fun g u_1 H2=>GO3 g Q .normal E D H2) (fun g=>W M c (za 27) g Q E D H)) /\
 (∀ Q E D H,W M c (za 18) true Q E D H =
  Lz E 11 fun g t11=>Bn g .eql t11 (.int .i32 40) fun g t13=>IF3 g t13 (fun g=>GO3 g Q .normal ((12,t13)::E) D H) (fun g=>Ly g E 11 fun g t11_1=>Bn g .eql t11_1 (.int .i32 123) fun g t14=>GO3 g Q .normal ((12,t14)::(12,t13)::E) D H)) /\
 (∀ Q E D H,W M c (za 27) true Q E D H =
  Lz E 11 fun g t11=>Bn g .eql t11 (.int .i32 41) fun g t35=>IF3 g t35 (fun g=>Gt g M c (za 33) Q ((34,t35)::E) D H) (fun g=>Ly g E 11 fun g t11_1=>Bn g .eql t11_1 (.int .i32 125) fun g t36=>Gt g M c (za 33) Q ((34,t36)::(34,t35)::E) D H)) /\
 (∀ Q E D H,W M c (za 33) true Q E D H =
  Lz E 34 fun g t34=>IF3 g t34 (fun g=>Ly g E 0 fun g t0=>Nf g 3 t0 H fun g t40=>Bn g .sub t40 (.int .i64 1) fun g t41=>Ns g 3 t0 t41 H fun g u H1=>GO3 g Q .normal E D H1) (fun g=>GO3 g Q .normal E D H)):=by (repeat' apply And.intro)<;>(intro _ _ _ _;refine W_unf ?_;kernel_rfl)
theorem qo3:(cProg Tryd.prog).func xc=some qgd/\qgd.results=[]:=x6 (by kernel_rfl)
theorem qo4 (h:W M ⟨none,xc⟩ (za 0) true (FIN3 M [] Q) [(0,a0),(1,a1)] [] H):wu M xc [a0,a1] H Q:=callf (by decide) qo3 (ks:=qjs) (by kernel_rfl) h
def qhl:AFunc:=funcAt Tryd.prog qay
def qlg:Kp:=⟨[0,1,4,5,6,7,8,9,10,11,42,43],false,[0,2,19,25,27,33,35,43,52,60,65,79,91,99,101,107,113,117,119,122,128,132]⟩
def qr (k:Nat):Kp × ACode:=(qlg,part qhl.body k)
theorem qq4 (M:Mac) (c:Ctx):(∀ Q E D H,W M c (qr 0) true Q E D H =
 W M c (qr 2) true Q ((4,(.str []))::E) D H) /\
 (∀ Q E D H,W M c (qr 2) true Q E D H =
  Lz E 1 fun g t1=>Cb g .eql t1 (.int .i64 0) (fun g=>GO3 g (BLK3 0 (SEQ3 (W M c (qr 19)) Q)) .ret ((4,(.str []))::(11,t1)::E) D H) (fun g=>Cb g .eql t1 (.int .i64 1) (fun g=>Ly g E 0 fun g t0=>GO3 g (BLK3 0 (SEQ3 (W M c (qr 19)) Q)) .ret ((4,t0)::(11,t1)::E) D H) (fun g=>GO3 g (BLK3 0 (SEQ3 (W M c (qr 19)) Q)) .normal ((11,t1)::E) D H))) /\
 (∀ Q E D H,W M c (qr 19) true Q E D H =
  Lz E 1 fun g t1=>Cb g .lss t1 (.int .i64 0) (fun g=>B3 g ((Op.mkIface yp) [(.str q18)]) fun g t19=>False) (fun g=>Gt g M c (qr 25) Q E D H)) /\
 (∀ Q E D H,W M c (qr 25) true Q E D H =
  Lz E 0 fun g t0=>B3 g (Op.lenStr [t0]) fun g t22=>B3 g ((Op.wrap .u64) [t22]) fun g t23=>Ly g E 1 fun g t1=>B3 g ((Op.wrap .u64) [t1]) fun g t25=>C3 M g (.func qce) [t23,t25] H fun g t26 H1=>B3 g ((Op.extract 0) [t26]) fun g t27=>B3 g ((Op.extract 1) [t26]) fun g t28=>W M c (qr 27) g Q ((6,t28)::(5,t27)::E) D H1) /\
 (∀ Q E D H,W M c (qr 27) true Q E D H =
  Lz E 5 fun g t5=>Bn g .gtr t5 (.int .u64 0) fun g t30=>JN (fun (k:Bool->AV->AV->AHeap->Prop)=>B3 g (wantV false (some t30)) fun g w=>IG3 g w (fun g=>Ly g E 6 fun g t6=>Bn g .gtr t6 (.int .u64 9223372036854775807) fun g t33=>k g t33 t6 H) (fun g=>k g uu uu H)) (fun g t33_1 t32_1 H1=>B3 g (Op.pick [t30,(.bool true),t33_1]) fun g t34=>IF3 g t34 (fun g=>B3 g ((Op.mkIface yp) [(.str q19)]) fun g t35=>False) (fun g=>Gt g M c (qr 33) Q E D H1))) /\
 (∀ Q E D H,W M c (qr 33) true Q E D H =
  Lz E 6 fun g t6=>B3 g ((Op.wrap .i64) [t6]) fun g t37=>W M c (qr 35) g Q ((7,t37)::E) D H) /\
 (∀ Q E D H,W M c (qr 35) true Q E D H =
  Lz E 0 fun g t0=>B3 g (Op.lenStr [t0]) fun g t39=>Cb g .eql t39 (.int .i64 0) (fun g=>GO3 g (SEQ3 (W M c (qr 43)) Q) .ret ((4,(.str []))::E) D H) (fun g=>Gt g M c (qr 43) Q E D H)) /\
 (∀ Q E D H,W M c (qr 43) true Q E D H =
  Lz E 0 fun g t0=>B3 g (Op.indexStr [t0,(.int .i64 0)]) fun g t42=>Bn g .eql t42 (.int .u8 32) fun g t44=>IF3 g t44 (fun g=>Gt g M c (qr 65) (BLK3 1 (SEQ3 (W M c (qr 99)) Q)) ((43,t44)::(42,t42)::E) D H) (fun g=>W M c (qr 52) g (SEQ3 (W M c (qr 65)) (BLK3 1 (SEQ3 (W M c (qr 99)) Q))) ((43,t44)::(42,t42)::E) D H)) /\
 (∀ Q E D H,W M c (qr 99) true Q E D H =
  Lz E 7 fun g t7=>W M c (qr 101) g Q ((8,t7)::E) D H) /\
 (∀ Q E D H,W M c (qr 65) true Q E D H =
  Lz E 43 fun g t43=>IF3 g t43 (fun g=>Ly g E 7 fun g t7=>Bn g .leq t7 (.int .i64 128) fun g t51=>JN (fun (k:Bool->AV->AV->AHeap->Prop)=>B3 g (wantV true (some t51)) fun g w=>IG3 g w (fun g=>Ly g E 0 fun g t0=>C3 M g (.func jy) [(.str qgr),t0] H fun g t54 H1=>k g t54 t0 H1) (fun g=>k g uu uu H)) (fun g t54_1 t53_1 H2=>B3 g (Op.pick [t51,t54_1,(.bool false)]) fun g t55=>IF3 g t55 (fun g=>Ly g E 7 fun g t7_1=>B3 g ((Op.sliceStr [none,(some 0)]) [(.str qgr),t7_1]) fun g t57=>GO3 g (BLK3 2 Q) .ret ((4,t57)::E) D H2) (fun g=>Ly g E 7 fun g t7_1=>Bn g .leq t7_1 (.int .i64 128) fun g t60=>JN (fun (k:Bool->AV->AV->AHeap->Prop)=>B3 g (wantV true (some t60)) fun g w=>IG3 g w (fun g=>Ly g E 0 fun g t0_1=>C3 M g (.func jy) [(.str qt4),t0_1] H2 fun g t63 H3=>k g t63 t0_1 H3) (fun g=>k g uu uu H2)) (fun g t63_1 t62_1 H4=>B3 g (Op.pick [t60,t63_1,(.bool false)]) fun g t64=>IF3 g t64 (fun g=>Ly g E 7 fun g t7_2=>B3 g ((Op.sliceStr [none,(some 0)]) [(.str qt4),t7_2]) fun g t66=>GO3 g (BLK3 2 Q) .ret ((4,t66)::E) D H4) (fun g=>W M c (qr 79) g (BLK3 2 Q) E D H4))))) (fun g=>GO3 g Q .normal E D H)) /\
 (∀ Q E D H,W M c (qr 52) true Q E D H =
  Lz E 42 fun g t42=>Bn g .eql t42 (.int .u8 45) fun g t45=>IF3 g t45 (fun g=>GO3 g Q .normal ((43,t45)::E) D H) (fun g=>Ly g E 42 fun g t42_1=>Bn g .eql t42_1 (.int .u8 48) fun g t46=>IF3 g t46 (fun g=>GO3 g Q .normal ((43,t46)::(43,t45)::E) D H) (fun g=>W M c (qr 60) g Q ((43,t46)::(43,t45)::E) D H))) /\
 (∀ Q E D H,W M c (qr 101) true Q E D H =
  Lz E 7 fun g t7=>Cb g .gtr t7 (.int .i64 8192) (fun g=>Ly g E 0 fun g t0=>B3 g (Op.lenStr [t0]) fun g t98=>Bn g .quo (.int .i64 8192) t98 fun g t99=>B3 g (Op.lenStr [t0]) fun g t101=>Bn g .mul t99 t101 fun g t102=>W M c (qr 107) g (SEQ3 (W M c (qr 113)) Q) ((8,t102)::E) D H) (fun g=>Gt g M c (qr 113) Q E D H)) /\
 (∀ Q E D H,W M c (qr 79) true Q E D H =
  Lz E 7 fun g t7=>Bn g .leq t7 (.int .i64 64) fun g t69=>JN (fun (k:Bool->AV->AV->AHeap->Prop)=>B3 g (wantV true (some t69)) fun g w=>IG3 g w (fun g=>Ly g E 0 fun g t0=>C3 M g (.func jy) [(.str qt5),t0] H fun g t72 H1=>k g t72 t0 H1) (fun g=>k g uu uu H)) (fun g t72_1 t71_1 H2=>B3 g (Op.pick [t69,t72_1,(.bool false)]) fun g t73=>IF3 g t73 (fun g=>Ly g E 7 fun g t7_1=>B3 g ((Op.sliceStr [none,(some 0)]) [(.str qt5),t7_1]) fun g t75=>GO3 g Q .ret ((4,t75)::E) D H2) (fun g=>Ly g E 7 fun g t7_1=>Bn g .leq t7_1 (.int .i64 128) fun g t78=>JN (fun (k:Bool->AV->AV->AHeap->Prop)=>B3 g (wantV true (some t78)) fun g w=>IG3 g w (fun g=>Ly g E 0 fun g t0_1=>C3 M g (.func jy) [(.str qt6),t0_1] H2 fun g t81 H3=>k g t81 t0_1 H3) (fun g=>k g uu uu H2)) (fun g t81_1 t80_1 H4=>B3 g (Op.pick [t78,t81_1,(.bool false)]) fun g t82=>IF3 g t82 (fun g=>Ly g E 7 fun g t7_2=>B3 g ((Op.sliceStr [none,(some 0)]) [(.str qt6),t7_2]) fun g t84=>GO3 g Q .ret ((4,t84)::E) D H4) (fun g=>W M c (qr 91) g Q E D H4))))) /\
 (∀ Q E D H,W M c (qr 60) true Q E D H =
  Lz E 42 fun g t42=>Bn g .eql t42 (.int .u8 61) fun g t47=>IF3 g t47 (fun g=>GO3 g Q .normal ((43,t47)::E) D H) (fun g=>Ly g E 42 fun g t42_1=>Bn g .eql t42_1 (.int .u8 9) fun g t48=>GO3 g Q .normal ((43,t48)::(43,t47)::E) D H)) /\
 (∀ Q E D H,W M c (qr 113) true Q E D H =
  A3 true qc3 [.nilp,.nils] H fun g t9 H1=>Ly g E 7 fun g t7=>C3 M g (.func wf) [t9,t7] H1 fun g t108 H2=>W M c (qr 117) g Q ((9,t9)::E) D H2) /\
 (∀ Q E D H,W M c (qr 107) true Q E D H =
  Lz E 8 fun g t8=>Cb g .eql t8 (.int .i64 0) (fun g=>Ly g E 0 fun g t0=>B3 g (Op.lenStr [t0]) fun g t106=>GO3 g Q .normal ((8,t106)::E) D H) (fun g=>GO3 g Q .normal E D H)) /\
 (∀ Q E D H,W M c (qr 91) true Q E D H =
  Lz E 7 fun g t7=>Bn g .leq t7 (.int .i64 64) fun g t87=>JN (fun (k:Bool->AV->AV->AHeap->Prop)=>B3 g (wantV true (some t87)) fun g w=>IG3 g w (fun g=>Ly g E 0 fun g t0=>C3 M g (.func jy) [(.str qt7),t0] H fun g t90 H1=>k g t90 t0 H1) (fun g=>k g uu uu H)) (fun g t90_1 t89_1 H2=>B3 g (Op.pick [t87,t90_1,(.bool false)]) fun g t91=>IF3 g t91 (fun g=>Ly g E 7 fun g t7_1=>B3 g ((Op.sliceStr [none,(some 0)]) [(.str qt7),t7_1]) fun g t93=>GO3 g Q .ret ((4,t93)::E) D H2) (fun g=>GO3 g Q .normal E D H2))) /\
 (∀ Q E D H,W M c (qr 117) true Q E D H =
  Lz E 0 fun g t0=>Ly g E 9 fun g t9=>C3 M g (.func jh) [t9,t0] H fun g t110 H1=>W M c (qr 119) g Q E D H1) /\
 (∀ Q E D H,W M c (qr 119) true Q E D H =
  LOOP3 (W M c (qr 122)) (BLK3 3 (SEQ3 (W M c (qr 132)) Q)) E D H) /\
 (∀ Q E D H,W M c (qr 132) true Q E D H =
  Lz E 9 fun g t9=>C3 M g (.func kg) [t9] H fun g t124 H1=>GO3 g Q .ret ((4,t124)::E) D H1) /\
 (∀ Q E D H,W M c (qr 122) true Q E D H =
  Lz E 9 fun g t9=>C3 M g (.func yh) [t9] H fun g t111 H1=>Ly g E 7 fun g t7=>Cb g .lss t111 t7 (fun g=>Gt g M c (qr 128) Q E D H1) (fun g=>GO3 g (SEQ3 (W M c (qr 128)) Q) (.exit 3) E D H1)) /\
 (∀ Q E D H,W M c (qr 128) true Q E D H =
  Lz E 7 fun g t7=>Ly g E 9 fun g t9=>C3 M g (.func yh) [t9] H fun g t115 H1=>Bn g .sub t7 t115 fun g t116=>C3 M g (.func yh) [t9] H1 fun g t117 H2=>Ly g E 8 fun g t8=>B3 g ((Op.minmax false) [t116,t117,t8]) fun g t119=>Ly g E 9 fun g t9_1=>C3 M g (.func kg) [t9_1] H2 fun g t120 H3=>B3 g ((Op.sliceStr [none,(some 0)]) [t120,t119]) fun g t122=>C3 M g (.func jh) [t9_1,t122] H3 fun g t123 H4=>GO3 g (BLK3 4 Q) .normal ((10,t119)::E) D H4):=by (repeat' apply And.intro)<;>(intro _ _ _ _;refine W_unf ?_;kernel_rfl)
theorem qq2:(cProg Tryd.prog).func qay=some qhl/\qhl.results=[.tmp 4]:=x6 (by kernel_rfl)
theorem qq3 (h:W M ⟨none,qay⟩ (qr 0) true (FIN3 M [.tmp 4] Q) [(0,a0),(1,a1)] [] H):wu M qay [a0,a1] H Q:=callf (by decide) qq2 (ks:=qlg) (by kernel_rfl) h
def qdh:AFunc:=funcAt Tryd.prog jd
def qgc:Kp:=⟨[0,1,2,6,15,54],false,[0,13,25,31,34,38,53]⟩
def xw (k:Nat):Kp × ACode:=(qgc,part qdh.body k)
theorem xn (M:Mac) (c:Ctx):(∀ Q E D H,W M c (xw 0) true Q E D H =
 Lz E 0 fun g t0=>Nf g 2 t0 H fun g t10=>Ly g E 1 fun g t1=>B3 g ((Op.indexSl 3) [t10,t1]) fun g t12=>B3 g ((Op.loadN 3) [t12] H) fun g t13=>A3 g zj [(.int .i64 0),(.int .u64 0),.nils] H fun g t6 H1=>B32 g ((Op.store 3) [t6,t13] H1) fun g u H2=>Fl g 0 t6 H2 fun g t15=>Cb g .eql t15 (.int .i64 14) (fun g=>Ly g E 0 fun g t0_1=>Fl g 1 t6 H2 fun g t20=>Bn g .add (.int .u64 97) t20 fun g t21=>B3 g ((Op.wrap .i32) [t21]) fun g t22=>B3 g (Op.strOfInt [t22]) fun g t23=>Bn g .add t23 (.str [32,61,32]) fun g t24=>C3 M g (.func xc) [t0_1,t24] H2 fun g t25 H3=>Ly g E 0 fun g t0_2=>Fl g 2 t6 H3 fun g t28=>Xl g t28 (.int .i64 0) H3 fun g t30=>C3 M g (.func jc) [t0_2,t30,(.int .i64 0)] H3 fun g t31 H4=>Ly g E 0 fun g t0_3=>C3 M g (.func xc) [t0_3,(.str [59])] H4 fun g t33 H5=>GO3 g (BLK3 0 Q) .normal ((15,t15)::(6,t6)::E) D H5) (fun g=>W M c (xw 13) g (BLK3 0 Q) ((15,t15)::(6,t6)::E) D H2)) /\
 (∀ Q E D H,W M c (xw 13) true Q E D H =
  Lz E 15 fun g t15=>Cb g .eql t15 (.int .i64 15) (fun g=>Ly g E 0 fun g t0=>C3 M g (.func xc) [t0,(.str [115,116,111,114,101,40])] H fun g t37 H1=>Ly g E 0 fun g t0_1=>Ly g E 6 fun g t6=>Fl g 2 t6 H1 fun g t40=>Xl g t40 (.int .i64 0) H1 fun g t42=>C3 M g (.func jc) [t0_1,t42,(.int .i64 0)] H1 fun g t43 H2=>Ly g E 0 fun g t0_2=>C3 M g (.func xc) [t0_2,(.str [44,32])] H2 fun g t45 H3=>Ly g E 0 fun g t0_3=>Ly g E 6 fun g t6_1=>Fl g 2 t6_1 H3 fun g t48=>Xl g t48 (.int .i64 1) H3 fun g t50=>C3 M g (.func jc) [t0_3,t50,(.int .i64 0)] H3 fun g t51 H4=>Ly g E 0 fun g t0_4=>C3 M g (.func xc) [t0_4,(.str [41,59])] H4 fun g t53 H5=>GO3 g Q .normal E D H5) (fun g=>W M c (xw 25) g Q E D H)) /\
 (∀ Q E D H,W M c (xw 25) true Q E D H =
  Lz E 15 fun g t15=>Bn g .eql t15 (.int .i64 16) fun g t55=>IF3 g t55 (fun g=>Gt g M c (xw 31) Q ((54,t55)::E) D H) (fun g=>Ly g E 15 fun g t15_1=>Bn g .eql t15_1 (.int .i64 17) fun g t56=>Gt g M c (xw 31) Q ((54,t56)::(54,t55)::E) D H)) /\
 (∀ Q E D H,W M c (xw 31) true Q E D H =
  Lz E 54 fun g t54=>IF3 g t54 (fun g=>Ly g E 0 fun g t0=>B32 g ((Op.buildSlice yp 2 [(.str [])] [(0,1),(1,1)]) [(.str [105,102,32,40]),(.str [119,104,105,108,101,32,40])]) fun g o1 k1=>Ly g E 6 fun g t6=>Fl g 0 t6 (H.alloc o1) fun g t60=>Bn g .sub t60 (.int .i64 16) fun g t61=>Xl g (k1 H.next) t61 (H.alloc o1) fun g t63=>C3 M g (.func xc) [t0,t63] (H.alloc o1) fun g t64 H2=>W M c (xw 34) g Q E D H2) (fun g=>Ly g E 15 fun g t15=>Cb g .eql t15 (.int .i64 18) (fun g=>Ly g E 0 fun g t0=>C3 M g (.func xc) [t0,(.str [97,116,111,109,105,99,32])] H fun g t96 H1=>Ly g E 0 fun g t0_1=>Ly g E 6 fun g t6=>Fl g 2 t6 H1 fun g t99=>Xl g t99 (.int .i64 0) H1 fun g t101=>Ly g E 2 fun g t2=>C3 M g (.func yj) [t0_1,t101,t2] H1 fun g t103 H2=>GO3 g Q .normal E D H2) (fun g=>W M c (xw 53) g Q E D H))) /\
 (∀ Q E D H,W M c (xw 34) true Q E D H =
  Lz E 0 fun g t0=>Ly g E 6 fun g t6=>Fl g 2 t6 H fun g t67=>Xl g t67 (.int .i64 0) H fun g t69=>C3 M g (.func qbn) [t0,t69] H fun g t70 H1=>Ly g E 0 fun g t0_1=>C3 M g (.func xc) [t0_1,(.str [41,32])] H1 fun g t72 H2=>W M c (xw 38) g Q E D H2) /\
 (∀ Q E D H,W M c (xw 53) true Q E D H =
  Lz E 15 fun g t15=>Cb g .eql t15 (.int .i64 19) (fun g=>Ly g E 0 fun g t0=>C3 M g (.func xc) [t0,(.str [104,97,108,116,59])] H fun g t107 H1=>GO3 g Q .normal E D H1) (fun g=>GO3 g Q .normal E D H)) /\
 (∀ Q E D H,W M c (xw 38) true Q E D H =
  Lz E 0 fun g t0=>Ly g E 6 fun g t6=>Fl g 2 t6 H fun g t75=>Xl g t75 (.int .i64 1) H fun g t77=>Ly g E 2 fun g t2=>C3 M g (.func yj) [t0,t77,t2] H fun g t79 H1=>Ly g E 6 fun g t6_1=>Fl g 2 t6_1 H1 fun g t81=>B3 g (Op.lenSl [t81]) fun g t82=>Cb g .eql t82 (.int .i64 3) (fun g=>Ly g E 0 fun g t0_1=>C3 M g (.func xc) [t0_1,(.str [32,101,108,115,101,32])] H1 fun g t85 H2=>Ly g E 0 fun g t0_2=>Ly g E 6 fun g t6_2=>Fl g 2 t6_2 H2 fun g t88=>Xl g t88 (.int .i64 2) H2 fun g t90=>Ly g E 2 fun g t2_1=>C3 M g (.func yj) [t0_2,t90,t2_1] H2 fun g t92 H3=>GO3 g Q .normal E D H3) (fun g=>GO3 g Q .normal E D H1)):=by (repeat' apply And.intro)<;>(intro _ _ _ _;refine W_unf ?_;kernel_rfl)
theorem qk1:(cProg Tryd.prog).func jd=some qdh/\qdh.results=[]:=x6 (by kernel_rfl)
theorem yl (h:W M ⟨none,jd⟩ (xw 0) true (FIN3 M [] Q) [(0,a0),(1,a1),(2,a2)] [] H):wu M jd [a0,a1,a2] H Q:=callf (by decide) qk1 (ks:=qgc) (by kernel_rfl) h
def qfi:AFunc:=funcAt Tryd.prog qae
def qi2:Kp:=⟨[0,1,4,5,6,7,8],false,[0,2,8,10,16,20,23,29,31]⟩
def xz (k:Nat):Kp × ACode:=(qi2,part qfi.body k)
theorem qnw (M:Mac) (c:Ctx):(∀ Q E D H,W M c (xz 0) true Q E D H =
 W M c (xz 2) true Q ((4,.nils)::E) D H) /\
 (∀ Q E D H,W M c (xz 2) true Q E D H =
  Lz E 1 fun g t1=>Cb g .lss t1 (.int .i64 0) (fun g=>B3 g ((Op.mkIface yp) [(.str [99,97,110,110,111,116,32,98,101,32,110,101,103,97,116,105,118,101])]) fun g t11=>False) (fun g=>Gt g M c (xz 8) Q E D H)) /\
 (∀ Q E D H,W M c (xz 8) true Q E D H =
  Lz E 0 fun g t0=>B3 g (Op.lenSl [t0]) fun g t14=>B3 g ((Op.wrap .u64) [t14]) fun g t15=>Ly g E 1 fun g t1=>B3 g ((Op.wrap .u64) [t1]) fun g t17=>C3 M g (.func qce) [t15,t17] H fun g t18 H1=>B3 g ((Op.extract 0) [t18]) fun g t19=>B3 g ((Op.extract 1) [t18]) fun g t20=>W M c (xz 10) g Q ((6,t20)::(5,t19)::E) D H1) /\
 (∀ Q E D H,W M c (xz 10) true Q E D H =
  Lz E 5 fun g t5=>Bn g .gtr t5 (.int .u64 0) fun g t22=>JN (fun (k:Bool->AV->AV->AHeap->Prop)=>B3 g (wantV false (some t22)) fun g w=>IG3 g w (fun g=>Ly g E 6 fun g t6=>Bn g .gtr t6 (.int .u64 9223372036854775807) fun g t25=>k g t25 t6 H) (fun g=>k g uu uu H)) (fun g t25_1 t24_1 H1=>B3 g (Op.pick [t22,(.bool true),t25_1]) fun g t26=>IF3 g t26 (fun g=>B3 g ((Op.mkIface yp) [(.str q2a)]) fun g t27=>False) (fun g=>Gt g M c (xz 16) Q E D H1))) /\
 (∀ Q E D H,W M c (xz 16) true Q E D H =
  Lz E 6 fun g t6=>B3 g ((Op.wrap .i64) [t6]) fun g t29=>B32 g ((Op.mkSlice T_int 8 [(.int .i64 0)]) [t29,t29]) fun g o1 k1=>Ly g E 0 fun g t0=>B32 g ((Op.copy 1) [(k1 H.next),t0] (H.alloc o1)) fun g t33 H2=>W M c (xz 20) g Q ((8,t33)::(7,(k1 H.next))::E) D H2) /\
 (∀ Q E D H,W M c (xz 20) true Q E D H =
  LOOP3 (W M c (xz 23)) (BLK3 0 (SEQ3 (W M c (xz 31)) Q)) E D H) /\
 (∀ Q E D H,W M c (xz 31) true Q E D H =
  Lz E 7 fun g t7=>GO3 g Q .ret ((4,t7)::E) D H) /\
 (∀ Q E D H,W M c (xz 23) true Q E D H =
  Lz E 8 fun g t8=>Ly g E 7 fun g t7=>B3 g (Op.lenSl [t7]) fun g t36=>Cb g .lss t8 t36 (fun g=>Gt g M c (xz 29) Q E D H) (fun g=>GO3 g (SEQ3 (W M c (xz 29)) Q) (.exit 0) E D H)) /\
 (∀ Q E D H,W M c (xz 29) true Q E D H =
  Lz E 8 fun g t8=>Ly g E 7 fun g t7=>B3 g ((Op.sliceSl 1 [(some 0),none,none]) [t7,t8]) fun g t41=>B3 g ((Op.sliceSl 1 [none,(some 0),none]) [t7,t8]) fun g t44=>B32 g ((Op.copy 1) [t41,t44] H) fun g t45 H1=>Bn g .add t8 t45 fun g t46=>GO3 g (BLK3 1 Q) .normal ((8,t46)::E) D H1):=by (repeat' apply And.intro)<;>(intro _ _ _ _;refine W_unf ?_;kernel_rfl)
theorem qnu:(cProg Tryd.prog).func qae=some qfi/\qfi.results=[.tmp 4]:=x6 (by kernel_rfl)
theorem qnv (h:W M ⟨none,qae⟩ (xz 0) true (FIN3 M [.tmp 4] Q) [(0,a0),(1,a1)] [] H):wu M qae [a0,a1] H Q:=callf (by decide) qnu (ks:=qi2) (by kernel_rfl) h
def qi0:AFunc:=funcAt Tryd.prog qce
def ql0:Kp:=⟨[0,1,4,5,6,7,8,9],false,[0,10]⟩
def qeh (k:Nat):Kp × ACode:=(ql0,part qi0.body k)
theorem ql1 (M:Mac) (c:Ctx):(∀ Q E D H,W M c (qeh 0) true Q E D H =
 IF3 true (.bool false) (fun g=>Ly g E 0 fun g t0=>B3 g ((Op.wrap .u32) [t0]) fun g t12=>Ly g E 1 fun g t1=>B3 g ((Op.wrap .u32) [t1]) fun g t14=>C3 M g (.func qpn) [t12,t14] H fun g t15 H1=>B3 g ((Op.extract 0) [t15]) fun g t16=>B3 g ((Op.extract 1) [t15]) fun g t17=>B3 g ((Op.wrap .u64) [t16]) fun g t19=>B3 g ((Op.wrap .u64) [t17]) fun g t21=>GO3 g (SEQ3 (W M c (qeh 10)) Q) .ret ((5,t21)::(4,t19)::(7,t17)::(6,t16)::(5,(.int .u64 0))::(4,(.int .u64 0))::E) D H1) (fun g=>Gt g M c (qeh 10) Q ((5,(.int .u64 0))::(4,(.int .u64 0))::E) D H)) /\
 (∀ Q E D H,W M c (qeh 10) true Q E D H =
  Lz E 0 fun g t0=>Ly g E 1 fun g t1=>C3 M g (.func qca) [t0,t1] H fun g t25 H1=>B3 g ((Op.extract 0) [t25]) fun g t26=>B3 g ((Op.extract 1) [t25]) fun g t27=>GO3 g Q .ret ((5,t27)::(4,t26)::(9,t27)::(8,t26)::E) D H1):=by (repeat' apply And.intro)<;>(intro _ _ _ _;refine W_unf ?_;kernel_rfl)
theorem qsw:(cProg Tryd.prog).func qce=some qi0/\qi0.results=[.tmp 4,.tmp 5]:=x6 (by kernel_rfl)
theorem qsx (h:W M ⟨none,qce⟩ (qeh 0) true (FIN3 M [.tmp 4,.tmp 5] Q) [(0,a0),(1,a1)] [] H):wu M qce [a0,a1] H Q:=callf (by decide) qsw (ks:=ql0) (by kernel_rfl) h
def qfk:AFunc:=funcAt Tryd.prog jy
def qi6:Kp:=⟨[0,1,4],false,[0]⟩
def qi7 (k:Nat):Kp × ACode:=(qi6,part qfk.body k)
theorem qfl (M:Mac) (c:Ctx):(∀ Q E D H,W M c (qi7 0) true Q E D H =
 Lz E 0 fun g t0=>Ly g E 1 fun g t1=>C3 M g (.func ya) [t0,t1] H fun g t7 H1=>GO3 g Q .ret ((4,t7)::(4,(.bool false))::E) D H1):=by intro _ _ _ _;refine W_unf ?_;kernel_rfl
theorem qnz:(cProg Tryd.prog).func jy=some qfk/\qfk.results=[.tmp 4]:=x6 (by kernel_rfl)
theorem qi8 (h:W M ⟨none,jy⟩ (qi7 0) true (FIN3 M [.tmp 4] Q) [(0,a0),(1,a1)] [] H):wu M jy [a0,a1] H Q:=callf (by decide) qnz (ks:=qi6) (by kernel_rfl) h
def qga:AFunc:=funcAt Tryd.prog jc
def qjq:Kp:=⟨[0,1,2,6,7,9,18],false,[0,9,21,25,31,35]⟩
def jm (k:Nat):Kp × ACode:=(qjq,part qga.body k)
theorem yy (M:Mac) (c:Ctx):(∀ Q E D H,W M c (jm 0) true Q E D H =
 Lz E 0 fun g t0=>Nf g 2 t0 H fun g t13=>Ly g E 1 fun g t1=>B3 g ((Op.indexSl 3) [t13,t1]) fun g t15=>B3 g ((Op.loadN 3) [t15] H) fun g t16=>A3 g zj [(.int .i64 0),(.int .u64 0),.nils] H fun g t6 H1=>B32 g ((Op.store 3) [t6,t16] H1) fun g u H2=>Fl g 0 t6 H2 fun g t18=>Cb g .eql t18 (.int .i64 1) (fun g=>Ly g E 0 fun g t0_1=>Fl g 1 t6 H2 fun g t61=>C3 M g (.func qav) [t61,(.int .i64 10)] H2 fun g t62 H3=>C3 M g (.func xc) [t0_1,t62] H3 fun g t63 H4=>GO3 g (BLK3 0 Q) .normal ((18,t18)::(6,t6)::E) D H4) (fun g=>W M c (jm 9) g (BLK3 0 Q) ((18,t18)::(6,t6)::E) D H2)) /\
 (∀ Q E D H,W M c (jm 9) true Q E D H =
  Lz E 18 fun g t18=>Cb g .eql t18 (.int .i64 2) (fun g=>Ly g E 0 fun g t0=>Ly g E 6 fun g t6=>Fl g 1 t6 H fun g t68=>Bn g .add (.int .u64 97) t68 fun g t69=>B3 g ((Op.wrap .i32) [t69]) fun g t70=>B3 g (Op.strOfInt [t70]) fun g t71=>C3 M g (.func xc) [t0,t71] H fun g t72 H1=>GO3 g Q .normal E D H1) (fun g=>Ly g E 18 fun g t18_1=>Cb g .eql t18_1 (.int .i64 3) (fun g=>Ly g E 0 fun g t0=>C3 M g (.func xc) [t0,(.str [108,111,97,100,40])] H fun g t76 H1=>Ly g E 0 fun g t0_1=>Ly g E 6 fun g t6=>Fl g 2 t6 H1 fun g t79=>Xl g t79 (.int .i64 0) H1 fun g t81=>C3 M g (.func jc) [t0_1,t81,(.int .i64 0)] H1 fun g t82 H2=>Ly g E 0 fun g t0_2=>C3 M g (.func xc) [t0_2,(.str [41])] H2 fun g t84 H3=>GO3 g Q .normal E D H3) (fun g=>W M c (jm 21) g Q E D H))) /\
 (∀ Q E D H,W M c (jm 21) true Q E D H =
  Lz E 6 fun g t6=>Fl g 0 t6 H fun g t20=>C3 M g (.func qfp) [t20] H fun g t21 H1=>C3 M g (.func qea) [t21] H1 fun g t24 H2=>B3 g ((Op.extract 0) [t24]) fun g t25=>B3 g ((Op.extract 1) [t24]) fun g t26=>W M c (jm 25) g Q ((9,t26)::(7,t21)::E) D H2) /\
 (∀ Q E D H,W M c (jm 25) true Q E D H =
  Lz E 9 fun g t9=>Ly g E 2 fun g t2=>Cb g .lss t9 t2 (fun g=>Ly g E 0 fun g t0=>C3 M g (.func xc) [t0,(.str [40])] H fun g t31 H1=>Gt g M c (jm 31) Q E D H1) (fun g=>Gt g M c (jm 31) Q E D H)) /\
 (∀ Q E D H,W M c (jm 31) true Q E D H =
  Lz E 0 fun g t0=>Ly g E 6 fun g t6=>Fl g 2 t6 H fun g t34=>Xl g t34 (.int .i64 0) H fun g t36=>Ly g E 9 fun g t9=>C3 M g (.func jc) [t0,t36,t9] H fun g t38 H1=>Ly g E 0 fun g t0_1=>Ly g E 7 fun g t7=>Bn g .add (.str [32]) t7 fun g t41=>Bn g .add t41 (.str [32]) fun g t42=>C3 M g (.func xc) [t0_1,t42] H1 fun g t43 H2=>W M c (jm 35) g Q E D H2) /\
 (∀ Q E D H,W M c (jm 35) true Q E D H =
  Lz E 0 fun g t0=>Ly g E 6 fun g t6=>Fl g 2 t6 H fun g t46=>Xl g t46 (.int .i64 1) H fun g t48=>Ly g E 9 fun g t9=>Bn g .add t9 (.int .i64 1) fun g t50=>C3 M g (.func jc) [t0,t48,t50] H fun g t51 H1=>Ly g E 9 fun g t9_1=>Ly g E 2 fun g t2=>Cb g .lss t9_1 t2 (fun g=>Ly g E 0 fun g t0_1=>C3 M g (.func xc) [t0_1,(.str [41])] H1 fun g t56 H2=>GO3 g Q .normal E D H2) (fun g=>GO3 g Q .normal E D H1)):=by (repeat' apply And.intro)<;>(intro _ _ _ _;refine W_unf ?_;kernel_rfl)
theorem qo0:(cProg Tryd.prog).func jc=some qga/\qga.results=[]:=x6 (by kernel_rfl)
theorem qd6 (h:W M ⟨none,jc⟩ (jm 0) true (FIN3 M [] Q) [(0,a0),(1,a1),(2,a2)] [] H):wu M jc [a0,a1,a2] H Q:=callf (by decide) qo0 (ks:=qjq) (by kernel_rfl) h
def qf9:AFunc:=funcAt Tryd.prog qbn
def qjo:Kp:=⟨[0,1,4],false,[0]⟩
def qjp (k:Nat):Kp × ACode:=(qjo,part qf9.body k)
theorem qd5 (M:Mac) (c:Ctx):(∀ Q E D H,W M c (qjp 0) true Q E D H =
 Lz E 0 fun g t0=>Nf g 2 t0 H fun g t8=>Ly g E 1 fun g t1=>B3 g ((Op.indexSl 3) [t8,t1]) fun g t10=>B3 g ((Op.loadN 3) [t10] H) fun g t11=>A3 g zj [(.int .i64 0),(.int .u64 0),.nils] H fun g t4 H1=>B32 g ((Op.store 3) [t4,t11] H1) fun g u H2=>Ly g E 0 fun g t0_1=>Fl g 2 t4 H2 fun g t14=>Xl g t14 (.int .i64 0) H2 fun g t16=>C3 M g (.func jc) [t0_1,t16,(.int .i64 0)] H2 fun g t17 H3=>Ly g E 0 fun g t0_2=>B32 g ((Op.buildSlice yp 3 [(.str [])] [(0,1),(1,1),(2,1)]) [(.str [32,61,61,32]),(.str [32,33,61,32]),(.str [32,60,32])]) fun g o4 k4=>Fl g 0 t4 (H3.alloc o4) fun g t21=>Bn g .sub t21 (.int .i64 11) fun g t22=>Xl g (k4 H3.next) t22 (H3.alloc o4) fun g t24=>C3 M g (.func xc) [t0_2,t24] (H3.alloc o4) fun g t25 H5=>Ly g E 0 fun g t0_3=>Fl g 2 t4 H5 fun g t28=>Xl g t28 (.int .i64 1) H5 fun g t30=>C3 M g (.func jc) [t0_3,t30,(.int .i64 0)] H5 fun g t31 H6=>GO3 g Q .normal ((4,t4)::E) D H6):=by intro _ _ _ _;refine W_unf ?_;kernel_rfl
theorem qoy:(cProg Tryd.prog).func qbn=some qf9/\qf9.results=[]:=x6 (by kernel_rfl)
theorem qoz (h:W M ⟨none,qbn⟩ (qjp 0) true (FIN3 M [] Q) [(0,a0),(1,a1)] [] H):wu M qbn [a0,a1] H Q:=callf (by decide) qoy (ks:=qjo) (by kernel_rfl) h
def qfg:AFunc:=funcAt Tryd.prog yj
def qix:Kp:=⟨[0,1,2],false,[0]⟩
def qiy (k:Nat):Kp × ACode:=(qix,part qfg.body k)
theorem qch (M:Mac) (c:Ctx):(∀ Q E D H,W M c (qiy 0) true Q E D H =
 Lz E 0 fun g t0=>C3 M g (.func xc) [t0,(.str [123,10])] H fun g t7 H1=>Ly g E 0 fun g t0_1=>Ly g E 1 fun g t1=>Ly g E 2 fun g t2=>Bn g .add t2 (.int .i64 1) fun g t11=>C3 M g (.func qao) [t0_1,t1,t11] H1 fun g t12 H2=>Ly g E 0 fun g t0_2=>Ly g E 2 fun g t2_1=>C3 M g (.func qay) [(.str [32,32]),t2_1] H2 fun g t15 H3=>Bn g .add t15 (.str [125]) fun g t16=>C3 M g (.func xc) [t0_2,t16] H3 fun g t17 H4=>GO3 g Q .normal E D H4):=by intro _ _ _ _;refine W_unf ?_;kernel_rfl
theorem qnk:(cProg Tryd.prog).func yj=some qfg/\qfg.results=[]:=x6 (by kernel_rfl)
theorem qnl (h:W M ⟨none,yj⟩ (qiy 0) true (FIN3 M [] Q) [(0,a0),(1,a1),(2,a2)] [] H):wu M yj [a0,a1,a2] H Q:=callf (by decide) qnk (ks:=qix) (by kernel_rfl) h
def qg0:AFunc:=funcAt Tryd.prog qca
def qkl:Kp:=⟨[0,1,4,5,6,7,8,9,10,11,12,13],false,[0,4,8,12]⟩
def qaj (k:Nat):Kp × ACode:=(qkl,part qg0.body k)
theorem qp0 (M:Mac) (c:Ctx):(∀ Q E D H,W M c (qaj 0) true Q E D H =
 Lz E 0 fun g t0=>Bn g .and t0 (.int .u64 4294967295) fun g t15=>W M c (qaj 4) g Q ((6,t15)::(5,(.int .u64 0))::(4,(.int .u64 0))::E) D H) /\
 (∀ Q E D H,W M c (qaj 4) true Q E D H =
  Lz E 0 fun g t0=>Bn g .shr t0 (.int .u64 32) fun g t17=>Ly g E 1 fun g t1=>Bn g .and t1 (.int .u64 4294967295) fun g t19=>W M c (qaj 8) g Q ((8,t19)::(7,t17)::E) D H) /\
 (∀ Q E D H,W M c (qaj 8) true Q E D H =
  Lz E 1 fun g t1=>Bn g .shr t1 (.int .u64 32) fun g t21=>Ly g E 6 fun g t6=>Ly g E 8 fun g t8=>Bn g .mul t6 t8 fun g t24=>W M c (qaj 12) g Q ((10,t24)::(9,t21)::E) D H) /\
 (∀ Q E D H,W M c (qaj 12) true Q E D H =
  Lz E 7 fun g t7=>Ly g E 8 fun g t8=>Bn g .mul t7 t8 fun g t27=>Ly g E 10 fun g t10=>Bn g .shr t10 (.int .u64 32) fun g t29=>Bn g .add t27 t29 fun g t30=>Bn g .and t30 (.int .u64 4294967295) fun g t32=>Bn g .shr t30 (.int .u64 32) fun g t34=>Ly g E 6 fun g t6=>Ly g E 9 fun g t9=>Bn g .mul t6 t9 fun g t38=>Bn g .add t32 t38 fun g t39=>Ly g E 7 fun g t7_1=>Ly g E 9 fun g t9_1=>Bn g .mul t7_1 t9_1 fun g t42=>Bn g .add t42 t34 fun g t44=>Bn g .shr t39 (.int .u64 32) fun g t46=>Bn g .add t44 t46 fun g t47=>Ly g E 0 fun g t0=>Ly g E 1 fun g t1=>Bn g .mul t0 t1 fun g t50=>GO3 g Q .ret ((5,t50)::(4,t47)::(12,t39)::(13,t34)::(12,t32)::(11,t30)::E) D H):=by (repeat' apply And.intro)<;>(intro _ _ _ _;refine W_unf ?_;kernel_rfl)
theorem qpy:(cProg Tryd.prog).func qca=some qg0/\qg0.results=[.tmp 4,.tmp 5]:=x6 (by kernel_rfl)
theorem qpz (h:W M ⟨none,qca⟩ (qaj 0) true (FIN3 M [.tmp 4,.tmp 5] Q) [(0,a0),(1,a1)] [] H):wu M qca [a0,a1] H Q:=callf (by decide) qpy (ks:=qkl) (by kernel_rfl) h
def qa1:AFunc:=funcAt Tryd.prog ya
def qcw:Kp:=⟨[0,1,4],false,[0]⟩
def qcx (k:Nat):Kp × ACode:=(qcw,part qa1.body k)
theorem qa2 (M:Mac) (c:Ctx):(∀ Q E D H,W M c (qcx 0) true Q E D H =
 Lz E 0 fun g t0=>B3 g (Op.lenStr [t0]) fun g t6=>Ly g E 1 fun g t1=>B3 g (Op.lenStr [t1]) fun g t8=>Bn g .geq t6 t8 fun g t9=>JN (fun (k:Bool->AV->AV->AV->AV->AV->AV->AHeap->Prop)=>B3 g (wantV true (some t9)) fun g w=>IG3 g w (fun g=>B3 g (Op.lenStr [t1]) fun g t13=>B3 g ((Op.sliceStr [none,(some 0)]) [t0,t13]) fun g t14=>Bn g .eql t14 t1 fun g t16=>k g t16 t1 t14 t13 t1 t0 H) (fun g=>k g uu uu uu uu uu uu H)) (fun g t16_1 t15_1 t14_1 t13_1 t12_1 t11_1 H1=>B3 g (Op.pick [t9,t16_1,(.bool false)]) fun g t17=>GO3 g Q .ret ((4,t17)::(4,(.bool false))::E) D H1)):=by intro _ _ _ _;refine W_unf ?_;kernel_rfl
theorem qgm:(cProg Tryd.prog).func ya=some qa1/\qa1.results=[.tmp 4]:=x6 (by kernel_rfl)
theorem qcy (h:W M ⟨none,ya⟩ (qcx 0) true (FIN3 M [.tmp 4] Q) [(0,a0),(1,a1)] [] H):wu M ya [a0,a1] H Q:=callf (by decide) qgm (ks:=qcw) (by kernel_rfl) h
def qlw:AFunc:=funcAt Tryd.prog qfp
def qqn:Kp:=⟨[0,2],false,[0]⟩
def qqo (k:Nat):Kp × ACode:=(qqn,part qlw.body k)
theorem qx1 (M:Mac) (c:Ctx):(∀ Q E D H,W M c (qqo 0) true Q E D H =
 B32 true ((Op.buildSlice yp 7 [(.str [])] [(0,1),(1,1),(2,1),(3,1),(4,1),(5,1),(6,1)]) [(.str [43]),(.str [45]),(.str [42]),(.str [38]),(.str [94]),(.str [60,60]),(.str [62,62])]) fun g o1 k1=>Ly g E 0 fun g t0=>Bn g .sub t0 (.int .i64 4) fun g t5=>Xl g (k1 H.next) t5 (H.alloc o1) fun g t7=>GO3 g Q .ret ((2,t7)::(2,(.str []))::E) D (H.alloc o1)):=by intro _ _ _ _;refine W_unf ?_;kernel_rfl
theorem qxz:(cProg Tryd.prog).func qfp=some qlw/\qlw.results=[.tmp 2]:=x6 (by kernel_rfl)
theorem qx0 (h:W M ⟨none,qfp⟩ (qqo 0) true (FIN3 M [.tmp 2] Q) [(0,a0)] [] H):wu M qfp [a0] H Q:=callf (by decide) qxz (ks:=qqn) (by kernel_rfl) h
def qni:AFunc:=funcAt Tryd.prog qea
def qsj:Kp:=⟨[0,2,3,4],false,[0,2,18,30,42,49]⟩
def qar (k:Nat):Kp × ACode:=(qsj,part qni.body k)
theorem qdg (M:Mac) (c:Ctx):(∀ Q E D H,W M c (qar 0) true Q E D H =
 W M c (qar 2) true Q ((3,(.int .i64 0))::(2,(.int .i64 0))::E) D H) /\
 (∀ Q E D H,W M c (qar 2) true Q E D H =
  Lz E 0 fun g t0=>Cb g .eql t0 (.str [43]) (fun g=>GO3 g (BLK3 0 (SEQ3 (W M c (qar 49)) Q)) .ret ((3,(.int .i64 1))::(2,(.int .i64 4))::(4,t0)::E) D H) (fun g=>Cb g .eql t0 (.str [45]) (fun g=>GO3 g (BLK3 0 (SEQ3 (W M c (qar 49)) Q)) .ret ((3,(.int .i64 1))::(2,(.int .i64 5))::(4,t0)::E) D H) (fun g=>W M c (qar 18) g (BLK3 0 (SEQ3 (W M c (qar 49)) Q)) ((4,t0)::E) D H))) /\
 (∀ Q E D H,W M c (qar 49) true Q E D H =
  GO3 true Q .ret ((3,(.int .i64 0))::(2,(.int .i64 0))::E) D H) /\
 (∀ Q E D H,W M c (qar 18) true Q E D H =
  Lz E 4 fun g t4=>Cb g .eql t4 (.str [94]) (fun g=>GO3 g Q .ret ((3,(.int .i64 1))::(2,(.int .i64 8))::E) D H) (fun g=>Ly g E 4 fun g t4_1=>Cb g .eql t4_1 (.str [42]) (fun g=>GO3 g Q .ret ((3,(.int .i64 2))::(2,(.int .i64 6))::E) D H) (fun g=>W M c (qar 30) g Q E D H))) /\
 (∀ Q E D H,W M c (qar 30) true Q E D H =
  Lz E 4 fun g t4=>Cb g .eql t4 (.str [38]) (fun g=>GO3 g Q .ret ((3,(.int .i64 2))::(2,(.int .i64 7))::E) D H) (fun g=>Ly g E 4 fun g t4_1=>Cb g .eql t4_1 (.str [60,60]) (fun g=>GO3 g Q .ret ((3,(.int .i64 2))::(2,(.int .i64 9))::E) D H) (fun g=>W M c (qar 42) g Q E D H))) /\
 (∀ Q E D H,W M c (qar 42) true Q E D H =
  Lz E 4 fun g t4=>Cb g .eql t4 (.str [62,62]) (fun g=>GO3 g Q .ret ((3,(.int .i64 2))::(2,(.int .i64 10))::E) D H) (fun g=>GO3 g Q .normal E D H)):=by (repeat' apply And.intro)<;>(intro _ _ _ _;refine W_unf ?_;kernel_rfl)
theorem qzr:(cProg Tryd.prog).func qea=some qni/\qni.results=[.tmp 2,.tmp 3]:=x6 (by kernel_rfl)
theorem qsk (h:W M ⟨none,qea⟩ (qar 0) true (FIN3 M [.tmp 2,.tmp 3] Q) [(0,a0)] [] H):wu M qea [a0] H Q:=callf (by decide) qzr (ks:=qsj) (by kernel_rfl) h
end
end Go.Am
namespace Go.Am
abbrev qeb:Nat:=17
noncomputable section
open Go.Proofs Go.Proofs.YtbimikjajohflaaDoor
variable {M:Mac} [MK M] {H:AHeap} {Q:AEnd->AHeap->Prop} {a0 a1 a2:AV}
def ql3:AFunc:=funcAt Tryd.prog qeb
def qqr:Kp:=⟨[0,1,4,5,6],false,[0,2,10,15,21,31,35,41,50,51,52]⟩
def zy (k:Nat):Kp × ACode:=(qqr,part ql3.body k)
theorem qyu (M:Mac) (c:Ctx):(∀ Q E D H,W M c (zy 0) true Q E D H =
 W M c (zy 2) true Q ((4,(.bool false))::E) D H) /\
 (∀ Q E D H,W M c (zy 2) true Q E D H =
  Lz E 0 fun g t0=>B3 g (Op.lenSl [t0]) fun g t8=>Ly g E 1 fun g t1=>B3 g (Op.lenSl [t1]) fun g t10=>Cb g .neq t8 t10 (fun g=>GO3 g (SEQ3 (W M c (zy 10)) Q) .ret ((4,(.bool false))::E) D H) (fun g=>Gt g M c (zy 10) Q E D H)) /\
 (∀ Q E D H,W M c (zy 10) true Q E D H =
  LOOP3 (W M c (zy 15)) (BLK3 0 (SEQ3 (W M c (zy 52)) Q)) ((5,(.int .i64 0))::E) D H) /\
 (∀ Q E D H,W M c (zy 52) true Q E D H =
  GO3 true Q .ret ((4,(.bool true))::E) D H) /\
 (∀ Q E D H,W M c (zy 15) true Q E D H =
  Lz E 5 fun g t5=>Ly g E 0 fun g t0=>B3 g (Op.lenSl [t0]) fun g t14=>Cb g .lss t5 t14 (fun g=>Gt g M c (zy 21) Q E D H) (fun g=>GO3 g (SEQ3 (W M c (zy 21)) Q) (.exit 0) E D H)) /\
 (∀ Q E D H,W M c (zy 21) true Q E D H =
  Lz E 0 fun g t0=>Ly g E 5 fun g t5=>B3 g ((Op.indexSl 3) [t0,t5]) fun g t20=>Fl g 0 t20 H fun g t22=>Ly g E 1 fun g t1=>B3 g ((Op.indexSl 3) [t1,t5]) fun g t25=>Fl g 0 t25 H fun g t27=>Bn g .neq t22 t27 fun g t28=>JN (fun (k:Bool->AV->AV->AV->AV->AV->AV->AV->AV->AV->AV->AV->AHeap->Prop)=>B3 g (wantV false (some t28)) fun g w=>IG3 g w (fun g=>B3 g ((Op.indexSl 3) [t0,t5]) fun g t32=>B3 g ((Op.fieldAddr 1) [t32]) fun g t33=>B3 g (Op.load1 [t33] H) fun g t34=>B3 g ((Op.indexSl 3) [t1,t5]) fun g t37=>B3 g ((Op.fieldAddr 1) [t37]) fun g t38=>B3 g (Op.load1 [t38] H) fun g t39=>Bn g .neq t34 t39 fun g t40=>k g t40 t39 t38 t37 t5 t1 t34 t33 t32 t5 t0 H) (fun g=>k g uu uu uu uu uu uu uu uu uu uu uu H)) (fun g t40_1 t39_1 t38_1 t37_1 t36_1 t35_1 t34_1 t33_1 t32_1 t31_1 t30_1 H1=>B3 g (Op.pick [t28,(.bool true),t40_1]) fun g t41=>JN (fun (k:Bool->AV->AV->AV->AV->AV->AV->AV->AV->AV->AV->AV->AV->AV->AHeap->Prop)=>B3 g (wantV false (some t41)) fun g w=>IG3 g w (fun g=>B3 g ((Op.indexSl 3) [t0,t5]) fun g t45=>B3 g ((Op.fieldAddr 2) [t45]) fun g t46=>B3 g (Op.load1 [t46] H1) fun g t47=>B3 g (Op.lenSl [t47]) fun g t48=>B3 g ((Op.indexSl 3) [t1,t5]) fun g t51=>B3 g ((Op.fieldAddr 2) [t51]) fun g t52=>B3 g (Op.load1 [t52] H1) fun g t53=>B3 g (Op.lenSl [t53]) fun g t54=>Bn g .neq t48 t54 fun g t55=>k g t55 t54 t53 t52 t51 t5 t1 t48 t47 t46 t45 t5 t0 H1) (fun g=>k g uu uu uu uu uu uu uu uu uu uu uu uu uu H1)) (fun g t55_1 t54_1 t53_1 t52_1 t51_1 t50_1 t49_1 t48_1 t47_1 t46_1 t45_1 t44_1 t43_1 H2=>B3 g (Op.pick [t41,(.bool true),t55_1]) fun g t56=>IF3 g t56 (fun g=>GO3 g (SEQ3 (W M c (zy 31)) (BLK3 1 (SEQ3 (W M c (zy 51)) Q))) .ret ((4,(.bool false))::E) D H2) (fun g=>Gt g M c (zy 31) (BLK3 1 (SEQ3 (W M c (zy 51)) Q)) E D H2)))) /\
 (∀ Q E D H,W M c (zy 51) true Q E D H =
  Lz E 5 fun g t5=>Bn g .add t5 (.int .i64 1) fun g t17=>GO3 g Q .normal ((5,t17)::E) D H) /\
 (∀ Q E D H,W M c (zy 31) true Q E D H =
  LOOP3 (W M c (zy 35)) (BLK3 2 Q) ((6,(.int .i64 0))::E) D H) /\
 (∀ Q E D H,W M c (zy 35) true Q E D H =
  Lz E 6 fun g t6=>Ly g E 0 fun g t0=>Ly g E 5 fun g t5=>B3 g ((Op.indexSl 3) [t0,t5]) fun g t60=>Fl g 2 t60 H fun g t62=>B3 g (Op.lenSl [t62]) fun g t63=>Cb g .lss t6 t63 (fun g=>Gt g M c (zy 41) Q E D H) (fun g=>GO3 g (SEQ3 (W M c (zy 41)) Q) (.exit 2) E D H)) /\
 (∀ Q E D H,W M c (zy 41) true Q E D H =
  Lz E 0 fun g t0=>Ly g E 5 fun g t5=>B3 g ((Op.indexSl 3) [t0,t5]) fun g t69=>Fl g 2 t69 H fun g t71=>Ly g E 6 fun g t6=>Xl g t71 t6 H fun g t74=>Ly g E 1 fun g t1=>B3 g ((Op.indexSl 3) [t1,t5]) fun g t77=>Fl g 2 t77 H fun g t79=>Xl g t79 t6 H fun g t82=>Cb g .neq t74 t82 (fun g=>GO3 g (BLK3 3 (SEQ3 (W M c (zy 50)) Q)) .ret ((4,(.bool false))::E) D H) (fun g=>GO3 g (BLK3 3 (SEQ3 (W M c (zy 50)) Q)) .normal E D H)) /\
 (∀ Q E D H,W M c (zy 50) true Q E D H =
  Lz E 6 fun g t6=>Bn g .add t6 (.int .i64 1) fun g t66=>GO3 g Q .normal ((6,t66)::E) D H):=by (repeat' apply And.intro)<;>(intro _ _ _ _;refine W_unf ?_;kernel_rfl)
theorem qys:(cProg Tryd.prog).func qeb=some ql3/\ql3.results=[.tmp 4]:=x6 (by kernel_rfl)
theorem qyt (h:W M ⟨none,qeb⟩ (zy 0) true (FIN3 M [.tmp 4] Q) [(0,a0),(1,a1)] [] H):wu M qeb [a0,a1] H Q:=callf (by decide) qys (ks:=qqr) (by kernel_rfl) h
end
end Go.Am
namespace Go.Am
abbrev z7:Nat:=150
abbrev z5:Nat:=154
abbrev qgs:Nat:=155
abbrev j3:Nat:=160
abbrev qa9:Nat:=143
abbrev qm8:Nat:=158
abbrev qlh:Nat:=159
abbrev qaw:Nat:=157
abbrev qai:Nat:=156
abbrev qcb:Nat:=151
abbrev xl:Nat:=179
abbrev qby:Nat:=181
abbrev qjb:Nat:=188
abbrev we:Nat:=5
abbrev vg:Nat:=4
noncomputable section
open Go.Proofs Go.Proofs.YtbimikjajohflaaDoor
def ifT (P:Program) (u:Nat):Option EqTree:=(P.info? u).bind fun i=>if i.comparable then treeT P 20 u else none
variable {M:Mac} [MK M] {H:AHeap} {Q:AEnd->AHeap->Prop} {a0 a1 a2 a3 a4:AV}
def qfj:AFunc:=funcAt Tryd.prog qa9
def qi3:Kp:=⟨[0,1,2,6,7,8,9],false,[0,4,12]⟩
def qaf (k:Nat):Kp × ACode:=(qi3,part qfj.body k)
theorem qdj (M:Mac) (c:Ctx):(∀ Q E D H,W M c (qaf 0) true Q E D H =
 Lz E 0 fun g t0=>Ly g E 1 fun g t1=>Ly g E 2 fun g t2=>C3 M g (.func z7) [t0,t1,t2] H fun g t14 H1=>B3 g ((Op.extract 0) [t14]) fun g t15=>B3 g ((Op.extract 1) [t14]) fun g t16=>W M c (qaf 4) g Q ((9,t16)::(8,t15)::(7,.nili)::(6,(.int .u64 0))::E) D H1) /\
 (∀ Q E D H,W M c (qaf 4) true Q E D H =
  Lz E 9 fun g t9=>B3 g ((Op.eq .iface true) [t9,.nili] H) fun g t18=>IF3 g t18 (fun g=>Ly g E 8 fun g t8=>Ly g E 0 fun g t0=>Ly g E 1 fun g t1=>Ly g E 2 fun g t2=>Ly g E 9 fun g t9_1=>C3 M g (.func qcb) [(.str [80,97,114,115,101,85,105,110,116]),t0,t1,t2,t9_1] H fun g t24 H1=>GO3 g (SEQ3 (W M c (qaf 12)) Q) .ret ((7,t24)::(6,t8)::E) D H1) (fun g=>Gt g M c (qaf 12) Q E D H)) /\
 (∀ Q E D H,W M c (qaf 12) true Q E D H =
  Lz E 8 fun g t8=>GO3 g Q .ret ((7,.nili)::(6,t8)::E) D H):=by (repeat' apply And.intro)<;>(intro _ _ _ _;refine W_unf ?_;kernel_rfl)
theorem qnx:(cProg Tryd.prog).func qa9=some qfj/\qfj.results=[.tmp 6,.tmp 7]:=x6 (by kernel_rfl)
theorem qny (h:W M ⟨none,qa9⟩ (qaf 0) true (FIN3 M [.tmp 6,.tmp 7] Q) [(0,a0),(1,a1),(2,a2)] [] H):wu M qa9 [a0,a1,a2] H Q:=callf (by decide) qnx (ks:=qi3) (by kernel_rfl) h
def qb2:AFunc:=funcAt Tryd.prog z7
def qdv:Kp:=⟨[0,1,2,6,7,8,9,10,11,12,13,15,16,17,85,99,100,101],false,[0,2,10,14,23,35,54,66,68,81,85,87,92,98,104,116,123,131,139,143,151,152,153,161]⟩
def qd (k:Nat):Kp × ACode:=(qdv,part qb2.body k)
theorem qh3 (M:Mac) (c:Ctx):(∀ Q E D H,W M c (qd 0) true Q E D H =
 W M c (qd 2) true Q ((7,.nili)::(6,(.int .u64 0))::E) D H) /\
 (∀ Q E D H,W M c (qd 2) true Q E D H =
  Lz E 0 fun g t0=>Cb g .eql t0 (.str []) (fun g=>B3 g ((Op.mkIface xl) [(.int .i64 2)]) fun g t20=>GO3 g (SEQ3 (W M c (qd 10)) Q) .ret ((7,t20)::(6,(.int .u64 0))::E) D H) (fun g=>Gt g M c (qd 10) Q E D H)) /\
 (∀ Q E D H,W M c (qd 10) true Q E D H =
  Lz E 1 fun g t1=>Bn g .eql t1 (.int .i64 0) fun g t22=>Ly g E 0 fun g t0=>W M c (qd 14) g Q ((9,t0)::(8,t22)::E) D H) /\
 (∀ Q E D H,W M c (qd 14) true Q E D H =
  Lz E 1 fun g t1=>Bn g .leq (.int .i64 2) t1 fun g t27=>JN (fun (k:Bool->AV->AV->AHeap->Prop)=>B3 g (wantV true (some t27)) fun g w=>IG3 g w (fun g=>Bn g .leq t1 (.int .i64 36) fun g t30=>k g t30 t1 H) (fun g=>k g uu uu H)) (fun g t30_1 t29_1 H1=>B3 g (Op.pick [t27,t30_1,(.bool false)]) fun g t31=>IF3 g t31 (fun g=>GO3 g (BLK3 0 (SEQ3 (W M c (qd 54)) Q)) .normal E D H1) (fun g=>Ly g E 1 fun g t1_1=>Cb g .eql t1_1 (.int .i64 0) (fun g=>W M c (qd 23) g (BLK3 0 (SEQ3 (W M c (qd 54)) Q)) E D H1) (fun g=>B3 g ((Op.mkIface xl) [(.int .i64 3)]) fun g t24=>GO3 g (BLK3 0 (SEQ3 (W M c (qd 54)) Q)) .ret ((7,t24)::(6,(.int .u64 0))::E) D H1)))) /\
 (∀ Q E D H,W M c (qd 54) true Q E D H =
  Lz E 2 fun g t2=>Cb g .eql t2 (.int .i64 0) (fun g=>Gt g M c (qd 66) Q ((2,(.int .i64 64))::E) D H) (fun g=>Ly g E 2 fun g t2_1=>Bn g .lss t2_1 (.int .i64 0) fun g t79=>JN (fun (k:Bool->AV->AV->AHeap->Prop)=>B3 g (wantV false (some t79)) fun g w=>IG3 g w (fun g=>Bn g .gtr t2_1 (.int .i64 64) fun g t82=>k g t82 t2_1 H) (fun g=>k g uu uu H)) (fun g t82_1 t81_1 H1=>B3 g (Op.pick [t79,(.bool true),t82_1]) fun g t83=>IF3 g t83 (fun g=>B3 g ((Op.mkIface xl) [(.int .i64 4)]) fun g t84=>GO3 g (SEQ3 (W M c (qd 66)) Q) .ret ((7,t84)::(6,(.int .u64 0))::E) D H1) (fun g=>Gt g M c (qd 66) Q E D H1)))) /\
 (∀ Q E D H,W M c (qd 23) true Q E D H =
  Lz E 0 fun g t0=>B3 g (Op.indexStr [t0,(.int .i64 0)]) fun g t36=>Cb g .eql t36 (.int .u8 48) (fun g=>Ly g E 0 fun g t0_1=>B3 g (Op.lenStr [t0_1]) fun g t42=>Bn g .geq t42 (.int .i64 3) fun g t43=>JN (fun (k:Bool->AV->AV->AV->AV->AHeap->Prop)=>B3 g (wantV true (some t43)) fun g w=>IG3 g w (fun g=>B3 g (Op.indexStr [t0_1,(.int .i64 1)]) fun g t46=>C3 M g (.func z5) [t46] H fun g t47 H1=>Bn g .eql t47 (.int .u8 98) fun g t48=>k g t48 t47 t46 t0_1 H1) (fun g=>k g uu uu uu uu H)) (fun g t48_1 t47_1 t46_1 t45_1 H2=>B3 g (Op.pick [t43,t48_1,(.bool false)]) fun g t49=>IF3 g t49 (fun g=>Ly g E 0 fun g t0_2=>B3 g ((Op.sliceStr [(some 0),none]) [t0_2,(.int .i64 2)]) fun g t51=>GO3 g (BLK3 1 Q) .normal ((0,t51)::(1,(.int .i64 2))::(1,(.int .i64 10))::E) D H2) (fun g=>W M c (qd 35) g (BLK3 1 Q) ((1,(.int .i64 10))::E) D H2))) (fun g=>GO3 g Q .normal ((1,(.int .i64 10))::E) D H)) /\
 (∀ Q E D H,W M c (qd 66) true Q E D H =
  W M c (qd 68) true Q ((10,(.int .u64 0))::E) D H) /\
 (∀ Q E D H,W M c (qd 35) true Q E D H =
  Lz E 0 fun g t0=>B3 g (Op.lenStr [t0]) fun g t54=>Bn g .geq t54 (.int .i64 3) fun g t55=>JN (fun (k:Bool->AV->AV->AV->AV->AHeap->Prop)=>B3 g (wantV true (some t55)) fun g w=>IG3 g w (fun g=>B3 g (Op.indexStr [t0,(.int .i64 1)]) fun g t58=>C3 M g (.func z5) [t58] H fun g t59 H1=>Bn g .eql t59 (.int .u8 111) fun g t60=>k g t60 t59 t58 t0 H1) (fun g=>k g uu uu uu uu H)) (fun g t60_1 t59_1 t58_1 t57_1 H2=>B3 g (Op.pick [t55,t60_1,(.bool false)]) fun g t61=>IF3 g t61 (fun g=>Ly g E 0 fun g t0_1=>B3 g ((Op.sliceStr [(some 0),none]) [t0_1,(.int .i64 2)]) fun g t63=>GO3 g Q .normal ((0,t63)::(1,(.int .i64 8))::E) D H2) (fun g=>Ly g E 0 fun g t0_1=>B3 g (Op.lenStr [t0_1]) fun g t66=>Bn g .geq t66 (.int .i64 3) fun g t67=>JN (fun (k:Bool->AV->AV->AV->AV->AHeap->Prop)=>B3 g (wantV true (some t67)) fun g w=>IG3 g w (fun g=>B3 g (Op.indexStr [t0_1,(.int .i64 1)]) fun g t70=>C3 M g (.func z5) [t70] H2 fun g t71 H3=>Bn g .eql t71 (.int .u8 120) fun g t72=>k g t72 t71 t70 t0_1 H3) (fun g=>k g uu uu uu uu H2)) (fun g t72_1 t71_1 t70_1 t69_1 H4=>B3 g (Op.pick [t67,t72_1,(.bool false)]) fun g t73=>IF3 g t73 (fun g=>Ly g E 0 fun g t0_2=>B3 g ((Op.sliceStr [(some 0),none]) [t0_2,(.int .i64 2)]) fun g t75=>GO3 g Q .normal ((0,t75)::(1,(.int .i64 16))::E) D H4) (fun g=>Ly g E 0 fun g t0_2=>B3 g ((Op.sliceStr [(some 0),none]) [t0_2,(.int .i64 1)]) fun g t39=>GO3 g Q .normal ((0,t39)::(1,(.int .i64 8))::E) D H4))))) /\
 (∀ Q E D H,W M c (qd 68) true Q E D H =
  Lz E 1 fun g t1=>Cb g .eql t1 (.int .i64 10) (fun g=>GO3 g (BLK3 2 (SEQ3 (W M c (qd 81)) Q)) .normal ((10,(.int .u64 1844674407370955162))::(85,t1)::E) D H) (fun g=>Cb g .eql t1 (.int .i64 16) (fun g=>GO3 g (BLK3 2 (SEQ3 (W M c (qd 81)) Q)) .normal ((10,(.int .u64 1152921504606846976))::(85,t1)::E) D H) (fun g=>Ly g E 1 fun g t1_1=>B3 g ((Op.wrap .u64) [t1_1]) fun g t87=>Bn g .quo (.int .u64 18446744073709551615) t87 fun g t88=>Bn g .add t88 (.int .u64 1) fun g t89=>GO3 g (BLK3 2 (SEQ3 (W M c (qd 81)) Q)) .normal ((10,t89)::(85,t1)::E) D H))) /\
 (∀ Q E D H,W M c (qd 81) true Q E D H =
  Lz E 2 fun g t2=>B3 g ((Op.wrap .u64) [t2]) fun g t95=>Bn g .shl (.int .u64 1) t95 fun g t96=>Bn g .sub t96 (.int .u64 1) fun g t97=>W M c (qd 85) g Q ((12,(.bool false))::(11,t97)::E) D H) /\
 (∀ Q E D H,W M c (qd 85) true Q E D H =
  W M c (qd 87) true Q ((13,(.int .u64 0))::E) D H) /\
 (∀ Q E D H,W M c (qd 87) true Q E D H =
  Lz E 0 fun g t0=>B32 g ((Op.bytesOfStr vj) [t0]) fun g o1 k1=>B3 g (Op.lenSl [(k1 H.next)]) fun g t100=>LOOP3 (W M c (qd 92)) (BLK3 3 (SEQ3 (W M c (qd 153)) Q)) ((101,(.int .i64 0))::(100,t100)::(99,(k1 H.next))::E) D (H.alloc o1)) /\
 (∀ Q E D H,W M c (qd 153) true Q E D H =
  Lz E 12 fun g t12=>JN (fun (k:Bool->AV->AV->AV->AHeap->Prop)=>B3 g (wantV true (some t12)) fun g w=>IG3 g w (fun g=>Ly g E 9 fun g t9=>C3 M g (.func qgs) [t9] H fun g t167 H1=>B3 g ((Op.un .not) [t167]) fun g t168=>k g t168 t167 t9 H1) (fun g=>k g uu uu uu H)) (fun g t168_1 t167_1 t166_1 H2=>B3 g (Op.pick [t12,t168_1,(.bool false)]) fun g t169=>IF3 g t169 (fun g=>B3 g ((Op.mkIface xl) [(.int .i64 2)]) fun g t170=>GO3 g (SEQ3 (W M c (qd 161)) Q) .ret ((7,t170)::(6,(.int .u64 0))::E) D H2) (fun g=>Gt g M c (qd 161) Q E D H2))) /\
 (∀ Q E D H,W M c (qd 92) true Q E D H =
  Lz E 101 fun g t101=>Ly g E 100 fun g t100=>Cb g .lss t101 t100 (fun g=>Gt g M c (qd 98) Q E D H) (fun g=>GO3 g (SEQ3 (W M c (qd 98)) Q) (.exit 3) E D H)) /\
 (∀ Q E D H,W M c (qd 161) true Q E D H =
  Lz E 13 fun g t13=>GO3 g Q .ret ((7,.nili)::(6,t13)::E) D H) /\
 (∀ Q E D H,W M c (qd 98) true Q E D H =
  Lz E 99 fun g t99=>Ly g E 101 fun g t101=>Xl g t99 t101 H fun g t104=>W M c (qd 104) g (BLK3 4 (SEQ3 (W M c (qd 152)) Q)) ((16,(.int .u8 0))::(15,t104)::E) D H) /\
 (∀ Q E D H,W M c (qd 152) true Q E D H =
  Lz E 101 fun g t101=>Bn g .add t101 (.int .i64 1) fun g t163=>GO3 g Q .normal ((101,t163)::E) D H) /\
 (∀ Q E D H,W M c (qd 104) true Q E D H =
  Lz E 15 fun g t15=>Bn g .eql t15 (.int .u8 95) fun g t108=>JN (fun (k:Bool->AV->AHeap->Prop)=>B3 g (wantV true (some t108)) fun g w=>IG3 g w (fun g=>Ly g E 8 fun g t8=>k g t8 H) (fun g=>k g uu H)) (fun g t110_1 H1=>B3 g (Op.pick [t108,t110_1,(.bool false)]) fun g t111=>IF3 g t111 (fun g=>GO3 g (BLK3 5 (SEQ3 (W M c (qd 123)) Q)) (.exit 4) ((12,(.bool true))::E) D H1) (fun g=>Ly g E 15 fun g t15_1=>Bn g .leq (.int .u8 48) t15_1 fun g t114=>JN (fun (k:Bool->AV->AV->AHeap->Prop)=>B3 g (wantV true (some t114)) fun g w=>IG3 g w (fun g=>Bn g .leq t15_1 (.int .u8 57) fun g t117=>k g t117 t15_1 H1) (fun g=>k g uu uu H1)) (fun g t117_1 t116_1 H2=>B3 g (Op.pick [t114,t117_1,(.bool false)]) fun g t118=>IF3 g t118 (fun g=>Ly g E 15 fun g t15_2=>Bn g .sub t15_2 (.int .u8 48) fun g t120=>GO3 g (BLK3 5 (SEQ3 (W M c (qd 123)) Q)) .normal ((16,t120)::E) D H2) (fun g=>W M c (qd 116) g (BLK3 5 (SEQ3 (W M c (qd 123)) Q)) E D H2))))) /\
 (∀ Q E D H,W M c (qd 123) true Q E D H =
  Lz E 16 fun g t16=>Ly g E 1 fun g t1=>B3 g ((Op.wrap .u8) [t1]) fun g t136=>Cb g .geq t16 t136 (fun g=>B3 g ((Op.mkIface xl) [(.int .i64 2)]) fun g t138=>GO3 g (SEQ3 (W M c (qd 131)) Q) .ret ((7,t138)::(6,(.int .u64 0))::E) D H) (fun g=>Gt g M c (qd 131) Q E D H)) /\
 (∀ Q E D H,W M c (qd 116) true Q E D H =
  Lz E 15 fun g t15=>C3 M g (.func z5) [t15] H fun g t123 H1=>Bn g .leq (.int .u8 97) t123 fun g t124=>JN (fun (k:Bool->AV->AV->AV->AHeap->Prop)=>B3 g (wantV true (some t124)) fun g w=>IG3 g w (fun g=>C3 M g (.func z5) [t15] H1 fun g t127 H2=>Bn g .leq t127 (.int .u8 122) fun g t128=>k g t128 t127 t15 H2) (fun g=>k g uu uu uu H1)) (fun g t128_1 t127_1 t126_1 H3=>B3 g (Op.pick [t124,t128_1,(.bool false)]) fun g t129=>IF3 g t129 (fun g=>Ly g E 15 fun g t15_1=>C3 M g (.func z5) [t15_1] H3 fun g t131 H4=>Bn g .sub t131 (.int .u8 97) fun g t132=>Bn g .add t132 (.int .u8 10) fun g t133=>GO3 g Q .normal ((16,t133)::E) D H4) (fun g=>B3 g ((Op.mkIface xl) [(.int .i64 2)]) fun g t105=>GO3 g Q .ret ((7,t105)::(6,(.int .u64 0))::E) D H3))) /\
 (∀ Q E D H,W M c (qd 131) true Q E D H =
  Lz E 13 fun g t13=>Ly g E 10 fun g t10=>Cb g .geq t13 t10 (fun g=>Ly g E 11 fun g t11=>B3 g ((Op.mkIface xl) [(.int .i64 1)]) fun g t143=>GO3 g (SEQ3 (W M c (qd 139)) Q) .ret ((7,t143)::(6,t11)::E) D H) (fun g=>Gt g M c (qd 139) Q E D H)) /\
 (∀ Q E D H,W M c (qd 139) true Q E D H =
  Lz E 13 fun g t13=>Ly g E 1 fun g t1=>B3 g ((Op.wrap .u64) [t1]) fun g t146=>Bn g .mul t13 t146 fun g t147=>Ly g E 16 fun g t16=>B3 g ((Op.wrap .u64) [t16]) fun g t150=>Bn g .add t147 t150 fun g t151=>W M c (qd 143) g Q ((17,t151)::(13,t147)::E) D H) /\
 (∀ Q E D H,W M c (qd 143) true Q E D H =
  Lz E 17 fun g t17=>Ly g E 13 fun g t13=>Bn g .lss t17 t13 fun g t154=>JN (fun (k:Bool->AV->AV->AV->AHeap->Prop)=>B3 g (wantV false (some t154)) fun g w=>IG3 g w (fun g=>Ly g E 11 fun g t11=>Bn g .gtr t17 t11 fun g t158=>k g t158 t11 t17 H) (fun g=>k g uu uu uu H)) (fun g t158_1 t157_1 t156_1 H1=>B3 g (Op.pick [t154,(.bool true),t158_1]) fun g t159=>IF3 g t159 (fun g=>Ly g E 11 fun g t11_1=>B3 g ((Op.mkIface xl) [(.int .i64 1)]) fun g t161=>GO3 g (SEQ3 (W M c (qd 151)) Q) .ret ((7,t161)::(6,t11_1)::E) D H1) (fun g=>Gt g M c (qd 151) Q E D H1))) /\
 (∀ Q E D H,W M c (qd 151) true Q E D H =
  Lz E 17 fun g t17=>GO3 g Q .normal ((13,t17)::E) D H):=by (repeat' apply And.intro)<;>(intro _ _ _ _;refine W_unf ?_;kernel_rfl)
theorem qh1:(cProg Tryd.prog).func z7=some qb2/\qb2.results=[.tmp 6,.tmp 7]:=x6 (by kernel_rfl)
theorem qh2 (h:W M ⟨none,z7⟩ (qd 0) true (FIN3 M [.tmp 6,.tmp 7] Q) [(0,a0),(1,a1),(2,a2)] [] H):wu M z7 [a0,a1,a2] H Q:=callf (by decide) qh1 (ks:=qdv) (by kernel_rfl) h
def qg1:AFunc:=funcAt Tryd.prog qcb
def qkn:Kp:=⟨[0,1,2,3,4,10,11],false,[0,2,18,31]⟩
def yr (k:Nat):Kp × ACode:=(qkn,part qg1.body k)
theorem qko (M:Mac) (c:Ctx):(∀ Q E D H,W M c (yr 0) true Q E D H =
 W M c (yr 2) true Q ((10,.nili)::E) D H) /\
 (∀ Q E D H,W M c (yr 2) true Q E D H =
  Lz E 4 fun g t4=>B3 g ((Op.mkIface xl) [(.int .i64 2)]) fun g t13=>B3 g ((Op.eq (.ifaces (ifT Tryd.prog)) false) [t4,t13] H) fun g t14=>IF3 g t14 (fun g=>Ly g E 0 fun g t0=>Ly g E 1 fun g t1=>C3 M g (.func qai) [t0,t1] H fun g t17 H1=>B3 g ((Op.mkIface qby) [t17]) fun g t18=>GO3 g (BLK3 0 (SEQ3 (W M c (yr 31)) Q)) .ret ((10,t18)::(11,t4)::E) D H1) (fun g=>B3 g ((Op.mkIface xl) [(.int .i64 1)]) fun g t20=>B3 g ((Op.eq (.ifaces (ifT Tryd.prog)) false) [t4,t20] H) fun g t21=>IF3 g t21 (fun g=>Ly g E 0 fun g t0=>Ly g E 1 fun g t1=>C3 M g (.func qaw) [t0,t1] H fun g t24 H1=>B3 g ((Op.mkIface qby) [t24]) fun g t25=>GO3 g (BLK3 0 (SEQ3 (W M c (yr 31)) Q)) .ret ((10,t25)::(11,t4)::E) D H1) (fun g=>W M c (yr 18) g (BLK3 0 (SEQ3 (W M c (yr 31)) Q)) ((11,t4)::E) D H))) /\
 (∀ Q E D H,W M c (yr 31) true Q E D H =
  Lz E 4 fun g t4=>GO3 g Q .ret ((10,t4)::E) D H) /\
 (∀ Q E D H,W M c (yr 18) true Q E D H =
  B3 true ((Op.mkIface xl) [(.int .i64 3)]) fun g t27=>Ly g E 11 fun g t11=>B3 g ((Op.eq (.ifaces (ifT Tryd.prog)) false) [t11,t27] H) fun g t28=>IF3 g t28 (fun g=>Ly g E 0 fun g t0=>Ly g E 1 fun g t1=>Ly g E 2 fun g t2=>C3 M g (.func qm8) [t0,t1,t2] H fun g t32 H1=>B3 g ((Op.mkIface qby) [t32]) fun g t33=>GO3 g Q .ret ((10,t33)::E) D H1) (fun g=>B3 g ((Op.mkIface xl) [(.int .i64 4)]) fun g t35=>Ly g E 11 fun g t11_1=>B3 g ((Op.eq (.ifaces (ifT Tryd.prog)) false) [t11_1,t35] H) fun g t36=>IF3 g t36 (fun g=>Ly g E 0 fun g t0=>Ly g E 1 fun g t1=>Ly g E 3 fun g t3=>C3 M g (.func qlh) [t0,t1,t3] H fun g t40 H1=>B3 g ((Op.mkIface qby) [t40]) fun g t41=>GO3 g Q .ret ((10,t41)::E) D H1) (fun g=>GO3 g Q .normal E D H))):=by (repeat' apply And.intro)<;>(intro _ _ _ _;refine W_unf ?_;kernel_rfl)
theorem qp9:(cProg Tryd.prog).func qcb=some qg1/\qg1.results=[.tmp 10]:=x6 (by kernel_rfl)
theorem qqa (h:W M ⟨none,qcb⟩ (yr 0) true (FIN3 M [.tmp 10] Q) [(0,a0),(1,a1),(2,a2),(3,a3),(4,a4)] [] H):wu M qcb [a0,a1,a2,a3,a4] H Q:=callf (by decide) qp9 (ks:=qkn) (by kernel_rfl) h
def qc5:AFunc:=funcAt Tryd.prog z5
def qfr:Kp:=⟨[0,2],false,[0]⟩
def qfs (k:Nat):Kp × ACode:=(qfr,part qc5.body k)
theorem qka (M:Mac) (c:Ctx):(∀ Q E D H,W M c (qfs 0) true Q E D H =
 Lz E 0 fun g t0=>Bn g .or t0 (.int .u8 32) fun g t4=>GO3 g Q .ret ((2,t4)::(2,(.int .u8 0))::E) D H):=by intro _ _ _ _;refine W_unf ?_;kernel_rfl
theorem qj8:(cProg Tryd.prog).func z5=some qc5/\qc5.results=[.tmp 2]:=x6 (by kernel_rfl)
theorem qj9 (h:W M ⟨none,z5⟩ (qfs 0) true (FIN3 M [.tmp 2] Q) [(0,a0)] [] H):wu M z5 [a0] H Q:=callf (by decide) qj8 (ks:=qfr) (by kernel_rfl) h
def qej:AFunc:=funcAt Tryd.prog qai
def qhb:Kp:=⟨[0,1,4],false,[0]⟩
def qhc (k:Nat):Kp × ACode:=(qhb,part qej.body k)
theorem qhd (M:Mac) (c:Ctx):(∀ Q E D H,W M c (qhc 0) true Q E D H =
 Lz E 0 fun g t0=>Ly g E 1 fun g t1=>B3 g (Op.load1 [(.ptr vg 0)] H) fun g t8=>C3 M g (.func j3) [t1] H fun g t7 H1=>CK3 g (Op.load1 [(.ptr vg 0)] H1) (some t8) fun g=>B3 g ((Op.build [(.str []),(.str []),.nili] [(0,1),(1,1),(2,1)]) [t0,t7,t8]) fun g t9=>A3 g qjb (AV.cells t9) H1 fun g t10 H2=>GO3 g Q .ret ((4,t10)::(4,.nilp)::E) D H2):=by intro _ _ _ _;refine W_unf ?_;kernel_rfl
theorem ql5:(cProg Tryd.prog).func qai=some qej/\qej.results=[.tmp 4]:=x6 (by kernel_rfl)
theorem ql6 (h:W M ⟨none,qai⟩ (qhc 0) true (FIN3 M [.tmp 4] Q) [(0,a0),(1,a1)] [] H):wu M qai [a0,a1] H Q:=callf (by decide) ql5 (ks:=qhb) (by kernel_rfl) h
def qe4:AFunc:=funcAt Tryd.prog qaw
def qhu:Kp:=⟨[0,1,4],false,[0]⟩
def qhv (k:Nat):Kp × ACode:=(qhu,part qe4.body k)
theorem qhw (M:Mac) (c:Ctx):(∀ Q E D H,W M c (qhv 0) true Q E D H =
 Lz E 0 fun g t0=>Ly g E 1 fun g t1=>B3 g (Op.load1 [(.ptr we 0)] H) fun g t8=>C3 M g (.func j3) [t1] H fun g t7 H1=>CK3 g (Op.load1 [(.ptr we 0)] H1) (some t8) fun g=>B3 g ((Op.build [(.str []),(.str []),.nili] [(0,1),(1,1),(2,1)]) [t0,t7,t8]) fun g t9=>A3 g qjb (AV.cells t9) H1 fun g t10 H2=>GO3 g Q .ret ((4,t10)::(4,.nilp)::E) D H2):=by intro _ _ _ _;refine W_unf ?_;kernel_rfl
theorem qmx:(cProg Tryd.prog).func qaw=some qe4/\qe4.results=[.tmp 4]:=x6 (by kernel_rfl)
theorem qmy (h:W M ⟨none,qaw⟩ (qhv 0) true (FIN3 M [.tmp 4] Q) [(0,a0),(1,a1)] [] H):wu M qaw [a0,a1] H Q:=callf (by decide) qmx (ks:=qhu) (by kernel_rfl) h
def qb6:AFunc:=funcAt Tryd.prog j3
def qd1:Kp:=⟨[0,2,3],false,[0,2,10]⟩
def j5 (k:Nat):Kp × ACode:=(qd1,part qb6.body k)
theorem qd2 (M:Mac) (c:Ctx):(∀ Q E D H,W M c (j5 0) true Q E D H =
 W M c (j5 2) true Q ((2,(.str []))::E) D H) /\
 (∀ Q E D H,W M c (j5 2) true Q E D H =
  Lz E 0 fun g t0=>B3 g (Op.lenStr [t0]) fun g t5=>Cb g .eql t5 (.int .i64 0) (fun g=>GO3 g (SEQ3 (W M c (j5 10)) Q) .ret ((2,(.str []))::E) D H) (fun g=>Gt g M c (j5 10) Q E D H)) /\
 (∀ Q E D H,W M c (j5 10) true Q E D H =
  Lz E 0 fun g t0=>B3 g (Op.lenStr [t0]) fun g t8=>B32 g ((Op.mkSlice vj 1 [(.int .u8 0)]) [t8,t8]) fun g o1 k1=>Ly g E 0 fun g t0_1=>B32 g ((Op.copy 1) [(k1 H.next),t0_1] (H.alloc o1)) fun g t12 H2=>B3 g ((Op.indexSl 1) [(k1 H.next),(.int .i64 0)]) fun g t14=>B3 g (Op.lenSl [(k1 H.next)]) fun g t16=>B32 g ((Op.strOfPtr vj) [t14,t16] H2) fun g t17 H3=>GO3 g Q .ret ((2,t17)::(3,(k1 H.next))::E) D H3):=by (repeat' apply And.intro)<;>(intro _ _ _ _;refine W_unf ?_;kernel_rfl)
theorem qic:(cProg Tryd.prog).func j3=some qb6/\qb6.results=[.tmp 2]:=x6 (by kernel_rfl)
theorem qid (h:W M ⟨none,j3⟩ (j5 0) true (FIN3 M [.tmp 2] Q) [(0,a0)] [] H):wu M j3 [a0] H Q:=callf (by decide) qic (ks:=qd1) (by kernel_rfl) h
end
end Go.Am
