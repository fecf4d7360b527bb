/- A LOGIC OVER THE MACHINE: what code comes to, by what is asked of its end. -/
import Derived.Test.YtkfheegmlgfdoaaTAmRun
namespace Go.Am
set_option linter.unusedVariables false
set_option linter.unusedSimpArgs false

/-! ### small words -/
/-- a mark: what bears it has not been looked at -/
def dirty : Bool := true
theorem dirty_eq : dirty = true := rfl
def BIND {α : Type} (m : Bool) (o : Option α) (K : α → Prop) : Prop := match o with
  | some a => K a
  | none => False
def BIND2 {α β : Type} (m : Bool) (o : Option (α × β)) (K : α → β → Prop) : Prop := match o with
  | some a => K a.1 a.2
  | none => False
def IFB (m : Bool) (q : Bool) (A B : Prop) : Prop := match q with
  | true => A
  | false => B
theorem BIND_some {α : Type} (m : Bool) (a : α) (K : α → Prop) : BIND m (some a) K = K a := propext Iff.rfl
theorem BIND2_some {α β : Type} (m : Bool) (a : α) (b : β) (K : α → β → Prop) : BIND2 m (some (a, b)) K = K a b := propext Iff.rfl
theorem IFB_true (m : Bool) (A B : Prop) : IFB m true A B = A := propext Iff.rfl
theorem IFB_false (m : Bool) (A B : Prop) : IFB m false A B = B := propext Iff.rfl
@[congr] theorem BIND_congr {α : Type} {m m' : Bool} {o o' : Option α} {K : α → Prop} (hm : m = m') (h : o = o') : BIND m o K = BIND m' o' K := by rw [h, hm]
@[congr] theorem BIND2_congr {α β : Type} {m m' : Bool} {o o' : Option (α × β)} {K : α → β → Prop} (hm : m = m') (h : o = o') : BIND2 m o K = BIND2 m' o' K := by rw [h, hm]
@[congr] theorem IFB_congr {m m' q q' : Bool} {A B : Prop} (hm : m = m') (h : q = q') : IFB m q A B = IFB m' q' A B := by rw [h, hm]
theorem BIND.elim {α : Type} {m : Bool} {o : Option α} {K : α → Prop} (h : BIND m o K) : ∃ a, o = some a ∧ K a := by
  cases o with
  | none => exact False.elim h
  | some a => exact ⟨a, rfl, h⟩
theorem BIND2.elim {α β : Type} {m : Bool} {o : Option (α × β)} {K : α → β → Prop} (h : BIND2 m o K) : ∃ a b, o = some (a, b) ∧ K a b := by
  cases o with
  | none => exact False.elim h
  | some a => exact ⟨a.1, a.2, rfl, h⟩
theorem BIND.intro {α : Type} {m : Bool} {o : Option α} {K : α → Prop} {a : α} (h : o = some a) (hk : K a) : BIND m o K := by subst h; exact hk
theorem BIND2.intro {α β : Type} {m : Bool} {o : Option (α × β)} {K : α → β → Prop} {a : α} {b : β} (h : o = some (a, b)) (hk : K a b) : BIND2 m o K := by subst h; exact hk
theorem IFB.dec {m : Bool} {p : Prop} [Decidable p] {A B : Prop} (h1 : p → A) (h2 : ¬ p → B) : IFB m (decide p) A B := by
  by_cases h : p
  · rw [decide_eq_true h]; exact h1 h
  · rw [decide_eq_false h]; exact h2 h
theorem IFB.cases {m : Bool} {q : Bool} {A B : Prop} (h1 : q = true → A) (h2 : q = false → B) : IFB m q A B := by
  cases q with
  | true => exact h1 rfl
  | false => exact h2 rfl

def asBool : AV → Option Bool
  | .bool q => some q
  | _ => none
theorem asBool_bool (q : Bool) : asBool (.bool q) = some q := rfl

noncomputable section
variable (AP : AProg)

def RTn (n k : Nat) (ctx : Ctx) : RT := ⟨AP, acall AP n, rounds AP (acall AP n) n k, n, ctx⟩

/-! ### calls and rounds, with all the fuel that they want -/
def CALLU (f : Nat) (vs : List AV) (up : Option Chain) (H : AHeap) (e : AEnd) (up' : Option Chain) (H' : AHeap) : Prop := ∃ n0, ∀ n, n0 ≤ n → acall AP n f vs up H = some (e, up', H')
def CALL (f : Nat) (vs : List AV) (H : AHeap) (e : AEnd) (H' : AHeap) : Prop := CALLU AP f vs none H e none H'
def ROUND (l : Nat) (vs : List AV) (H : AHeap) (e : AEnd) (H' : AHeap) : Prop := ∃ n0, ∀ n k, n0 ≤ n → n0 ≤ k → rounds AP (acall AP n) n k vs l H = some (e, H')
def ENTER : AFn → List AV → AHeap → AEnd → AHeap → Prop
  | .func g => CALL AP g
  | .yield l => ROUND AP l

/-- a call, and what goes on behind it -/
def CALLK (m : Bool) (f : AFn) (vs : List AV) (H : AHeap) (K : AV → AHeap → Prop) (E : Chain → AHeap → Prop) : Prop :=
  ∃ e H', ENTER AP f vs H e H' ∧ match e with
    | .ret v => K v H'
    | .panic c => E c H'
@[congr] theorem CALLK_congr {AP : AProg} {m m' : Bool} {f : AFn} {vs vs' : List AV} {H : AHeap} {K : AV → AHeap → Prop} {E : Chain → AHeap → Prop} (hm : m = m') (h : vs = vs') : CALLK AP m f vs H K E = CALLK AP m' f vs' H K E := by rw [h, hm]

def asFn (K : AFn → List AV → List AV → List AV → Prop) : List AV → Prop
  | .fn (.func g) first cap :: args => K (.func g) first args cap
  | .fn (.yield l) first [] :: args => K (.yield l) first args []
  | _ => False
def VIA (m : Bool) (vs : List AV) (K : AFn → List AV → Prop) : Prop := match vs with
  | .fn (.func g) first cap :: args => K (.func g) (first ++ (args ++ cap))
  | .fn (.yield l) first [] :: args => K (.yield l) (first ++ args)
  | _ => False
@[congr] theorem VIA_congr {m m' : Bool} {vs vs' : List AV} {K : AFn → List AV → Prop} (hm : m = m') (h : vs = vs') : VIA m vs K = VIA m' vs' K := by rw [h, hm]
theorem VIA_func (m : Bool) (g : Nat) (first cap args : List AV) (K : AFn → List AV → Prop) : VIA m (.fn (.func g) first cap :: args) K = K (.func g) (first ++ (args ++ cap)) := propext Iff.rfl
theorem VIA_yield (m : Bool) (l : Nat) (first args : List AV) (K : AFn → List AV → Prop) : VIA m (.fn (.yield l) first [] :: args) K = K (.yield l) (first ++ args) := propext Iff.rfl
def INV (m : Bool) (name : String) (vs : List AV) (K : AFn → List AV → Prop) : Prop := match vs with
  | .iface t v :: args => BIND dirty (AP.meth t name) fun g => K (.func g) (v :: args)
  | _ => False
@[congr] theorem INV_congr {AP : AProg} {m m' : Bool} {name : String} {vs vs' : List AV} {K : AFn → List AV → Prop} (hm : m = m') (h : vs = vs') : INV AP m name vs K = INV AP m' name vs' K := by rw [h, hm]

/-! ### operands -/
def EVL (tm : T AV) : List AOpd → (List AV → Prop) → Prop
  | [], K => K []
  | .tmp t :: xs, K => BIND dirty (tm.get t) fun v => EVL tm xs fun vs => K (v :: vs)
  | .const v :: xs, K => EVL tm xs fun vs => K (v :: vs)
  | .glob g :: xs, K => EVL tm xs fun vs => K (.ptr g 0 :: vs)
  | .func f :: xs, K => EVL tm xs fun vs => K (.fn (.func f) [] [] :: vs)
theorem EVL.elim {tm : T AV} : ∀ {l : List AOpd} {K : List AV → Prop}, EVL tm l K → ∃ vs, evL tm l = some vs ∧ K vs
  | [], K, h => ⟨[], rfl, h⟩
  | .tmp t :: xs, K, h => by
    obtain ⟨v, hv, h⟩ := BIND.elim (m := dirty) h
    obtain ⟨vs, h1, h2⟩ := EVL.elim h
    exact ⟨v :: vs, by simp [evL, evO, hv, h1], h2⟩
  | .const v :: xs, K, h => by
    obtain ⟨vs, h1, h2⟩ := EVL.elim (l := xs) h
    exact ⟨v :: vs, by simp [evL, evO, h1], h2⟩
  | .glob v :: xs, K, h => by
    obtain ⟨vs, h1, h2⟩ := EVL.elim (l := xs) h
    exact ⟨_, by simp [evL, evO, h1], h2⟩
  | .func v :: xs, K, h => by
    obtain ⟨vs, h1, h2⟩ := EVL.elim (l := xs) h
    exact ⟨_, by simp [evL, evO, h1], h2⟩
def EVO (tm : T AV) (x : AOpd) (K : AV → Prop) : Prop := match x with
  | .tmp t => BIND dirty (tm.get t) K
  | .const v => K v
  | .glob g => K (.ptr g 0)
  | .func f => K (.fn (.func f) [] [])
theorem EVO.elim {tm : T AV} {x : AOpd} {K : AV → Prop} (h : EVO tm x K) : ∃ v, evO tm x = some v ∧ K v := by
  cases x with
  | tmp t => exact BIND.elim (m := dirty) h
  | const v => exact ⟨v, rfl, h⟩
  | glob v => exact ⟨_, rfl, h⟩
  | func v => exact ⟨_, rfl, h⟩

abbrev Post := AExit → St → Prop

/-- what goes on behind a panic of a step -/
def PAN (ps : Option (List Nat)) (tm : T AV) (dfs : List ADef) (up : Option Chain) (Q : Post) (c : Chain) (H : AHeap) : Prop := match ps with
  | some ds => Q (.panic c) ⟨forget ds tm, dfs, up, H⟩
  | none => False

/-! ### steps -/
def RECOV (m : Bool) (ctx : Ctx) (up : Option Chain) (K : AV → Option Chain → Prop) : Prop := ctx.round = none ∧ match up with
  | some ((v, false) :: older) => K v (some ((v, true) :: older))
  | _ => K .nili up
@[congr] theorem RECOV_congr {m m' : Bool} {ctx : Ctx} {up up' : Option Chain} {K : AV → Option Chain → Prop} (hm : m = m') (h : up = up') : RECOV m ctx up K = RECOV m' ctx up' K := by rw [h, hm]
theorem RECOV_none (m : Bool) (f : Nat) (K : AV → Option Chain → Prop) : RECOV m ⟨none, f⟩ none K = K .nili none := by simp [RECOV]
theorem RECOV_nil (m : Bool) (f : Nat) (K : AV → Option Chain → Prop) : RECOV m ⟨none, f⟩ (some []) K = K .nili (some []) := by simp [RECOV]
theorem RECOV_cons (m : Bool) (f : Nat) (v : AV) (older : Chain) (K : AV → Option Chain → Prop) : RECOV m ⟨none, f⟩ (some ((v, false) :: older)) K = K v (some ((v, true) :: older)) := by simp [RECOV]
def DEFR (m : Bool) (ctx : Ctx) (vs : List AV) (dfs : List ADef) (K : List ADef → Prop) : Prop := ctx.round = none ∧ match vs with
  | .fn (.func f) first cap :: args => K (.fn (.func f) (first ++ (args ++ cap)) :: dfs)
  | _ => False
@[congr] theorem DEFR_congr {m m' : Bool} {ctx : Ctx} {vs vs' : List AV} {dfs : List ADef} {K : List ADef → Prop} (hm : m = m') (h : vs = vs') : DEFR m ctx vs dfs K = DEFR m' ctx vs' dfs K := by rw [h, hm]
theorem DEFR_fn (m : Bool) (g f : Nat) (first cap args : List AV) (dfs : List ADef) (K : List ADef → Prop) : DEFR m ⟨none, g⟩ (.fn (.func f) first cap :: args) dfs K = K (.fn (.func f) (first ++ (args ++ cap)) :: dfs) := by simp [DEFR]
def PANICK (vs : List AV) (H : AHeap) (E : Chain → AHeap → Prop) : Prop := match vs with
  | [.iface t v] => E [(.iface t v, false)] H
  | _ => False
@[congr] theorem PANICK_congr {vs vs' : List AV} {H : AHeap} {E : Chain → AHeap → Prop} (h : vs = vs') : PANICK vs H E = PANICK vs' H E := by rw [h]
theorem PANICK_iface (t : Nat) (v : AV) (H : AHeap) (E : Chain → AHeap → Prop) : PANICK [.iface t v] H E = E [(.iface t v, false)] H := propext Iff.rfl
def OPK (ctx : Ctx) (dst : Option Nat) (ps : Option (List Nat)) (st : St) (Q : Post) (K : St → Prop) (vs : List AV) : AOp → Prop
  | .pure f => BIND dirty (f vs) fun v => K ⟨putD dst v st.tm, st.dfs, st.up, st.H⟩
  | .read f => BIND dirty (f vs st.H) fun v => K ⟨putD dst v st.tm, st.dfs, st.up, st.H⟩
  | .alloc f => BIND2 dirty (f vs) fun o mk => K ⟨putD dst (mk st.H.next) st.tm, st.dfs, st.up, st.H.alloc o⟩
  | .eff f => BIND2 dirty (f vs st.H) fun v H => K ⟨putD dst v st.tm, st.dfs, st.up, H⟩
  | .callF g => CALLK AP dirty (.func g) vs st.H (fun v H => K ⟨putD dst v st.tm, st.dfs, st.up, H⟩) (PAN ps st.tm st.dfs st.up Q)
  | .callV => VIA dirty vs fun f vs => CALLK AP dirty f vs st.H (fun v H => K ⟨putD dst v st.tm, st.dfs, st.up, H⟩) (PAN ps st.tm st.dfs st.up Q)
  | .invoke name => INV AP dirty name vs fun f vs => CALLK AP dirty f vs st.H (fun v H => K ⟨putD dst v st.tm, st.dfs, st.up, H⟩) (PAN ps st.tm st.dfs st.up Q)
  | .recover => match vs with
      | [] => RECOV dirty ctx st.up fun v up => K ⟨putD dst v st.tm, st.dfs, up, st.H⟩
      | _ => False
  | .defer => DEFR dirty ctx vs st.dfs fun dfs => K ⟨putD dst .undef st.tm, dfs, st.up, st.H⟩
  | .panic => PANICK vs st.H (PAN ps st.tm st.dfs st.up Q)

def CHK (dst : Option Nat) (st : St) (vs : List AV) : AOp → Prop
  | .read f => match dst with
    | some d => BIND dirty (f vs st.H) fun v => BIND dirty (st.tm.get d) fun v' => v = v'
    | none => False
  | _ => False

def STEP (ctx : Ctx) (s : AStep) (st : St) (Q : Post) (K : St → Prop) : Prop :=
  match s.chk with
  | false => match s.guard with
    | none => EVL st.tm s.args fun vs => OPK AP ctx s.dst s.psafe st Q K vs s.op
    | some g => BIND dirty (wantV g.2 (st.tm.get g.1)) fun w => IFB dirty w (EVL st.tm s.args fun vs => OPK AP ctx s.dst s.psafe st Q K vs s.op) (K ⟨putD s.dst .undef st.tm, st.dfs, st.up, st.H⟩)
  | true => match s.guard with
    | none => EVL st.tm s.args fun vs => CHK s.dst st vs s.op ∧ K st
    | some g => BIND dirty (wantV g.2 (st.tm.get g.1)) fun w => IFB dirty w (EVL st.tm s.args fun vs => CHK s.dst st vs s.op ∧ K st) (s.dst.isSome = true ∧ K st)

def WPS (ctx : Ctx) : List AStep → St → Post → Prop
  | [], st, Q => Q .normal st
  | s :: rest, st, Q => STEP AP ctx s st Q fun st' => WPS ctx rest st' Q

/-! ### code -/
def SEQ (W : St → Post → Prop) (Q : Post) : Post := fun e st => match e with
  | .normal => W st Q
  | e => Q e st
def BLK (id : Nat) (Q : Post) : Post := fun e st => match e with
  | .exit id' => Q (cond (Nat.beq id id') .normal (.exit id')) st
  | e => Q e st
def SCP (b : ACode) (Q : Post) : Post := fun e st => match e with
  | .goto l => hasLabel b l = false ∧ Q (.goto l) st
  | e => Q e st
def keepT (keep : Option (List Nat)) (st : St) : St := match keep with
  | none => st
  | some ks => { st with tm := restrict st.tm ks .nil }
/-- a loop: what holds at its head, and a number that falls -/
def LOOP (W : St → Post → Prop) (keep : Option (List Nat)) (st : St) (Q : Post) : Prop :=
  ∃ I : Nat → St → Prop, (∃ n, I n st) ∧ ∀ n st, I n st → W (keepT keep st) fun e st' => match e with
    | .normal => ∃ m, m < n ∧ I m st'
    | e => Q e st'
def ENDL (st : St) (dfs : List ADef) (l : Nat) (Q : Post) (e : AEnd) (H : AHeap) : Prop := match e with
  | .panic c => Q (.panic c) { st with dfs := dfs, H := H }
  | .ret _ => ∃ s p f k tm d, H.get l = some (.loop s p f k tm d) ∧ s ≠ .busy ∧ Q (exitOf p) { st with dfs := dfs, H := H.set l (.loop .exhausted p f k tm d) }
def RANGE (ctx : Ctx) (st : St) (k : Nat) (H0 : AHeap) (dfs : List ADef) (d : Nat) (Q : Post) : AV → Prop
  | .fn (.func g) first cap => ∃ e H', CALL AP g (first ++ (.fn (.yield H0.next) [] [] :: cap)) (H0.alloc (.loop .ready none ctx.fn k st.tm d)) e H' ∧ ENDL st dfs H0.next Q e H'
  | _ => False
def RNG (ctx : Ctx) (k : Nat) (st : St) (Q : Post) (v : AV) : Prop := match ctx.round with
  | none => RANGE AP ctx st k (st.H.alloc (.deferred (some []))) (.coll st.H.next :: st.dfs) st.H.next Q v
  | some l => BIND dirty (loopD st.H l) fun d => RANGE AP ctx st k st.H st.dfs d Q v

def WP (ctx : Ctx) : ACode → St → Post → Prop
  | .skip, st, Q => Q .normal st
  | .label _, st, Q => Q .normal st
  | .region steps, st, Q => WPS AP ctx steps st Q
  | .seq a b, st, Q => WP ctx a st (SEQ (WP ctx b) Q)
  | .cond c a b, st, Q => EVO st.tm c fun v => BIND dirty (asBool v) fun q => IFB dirty q (WP ctx a st Q) (WP ctx b st Q)
  | .block id b, st, Q => WP ctx b st (BLK id Q)
  | .loop keep b, st, Q => LOOP (WP ctx b) keep st Q
  | .exit id, st, Q => Q (.exit id) st
  | .goto l, st, Q => Q (.goto l) st
  | .ret, st, Q => Q .ret st
  | .stuck, _, _ => False
  | .scope b, st, Q => WP ctx b st (SCP b Q)
  | .rangeFunc f k, st, Q => EVO st.tm f fun v => RNG AP ctx k st Q v

section
variable (ctx : Ctx) (st : St) (Q : Post)
theorem WP_skip : WP AP ctx .skip st Q = Q .normal st := propext Iff.rfl
theorem WP_label (l : Nat) : WP AP ctx (.label l) st Q = Q .normal st := propext Iff.rfl
theorem WP_exit (l : Nat) : WP AP ctx (.exit l) st Q = Q (.exit l) st := propext Iff.rfl
theorem WP_goto (l : Nat) : WP AP ctx (.goto l) st Q = Q (.goto l) st := propext Iff.rfl
theorem WP_ret : WP AP ctx .ret st Q = Q .ret st := propext Iff.rfl
theorem WP_region (l : List AStep) : WP AP ctx (.region l) st Q = WPS AP ctx l st Q := propext Iff.rfl
theorem WP_rseq (l : List AStep) (b : ACode) : WP AP ctx (.seq (.region l) b) st Q = WPS AP ctx l st (SEQ (WP AP ctx b) Q) := propext Iff.rfl
theorem WP_seq (a b : ACode) : WP AP ctx (.seq a b) st Q = WP AP ctx a st (SEQ (WP AP ctx b) Q) := propext Iff.rfl
theorem WP_cond (c : AOpd) (a b : ACode) : WP AP ctx (.cond c a b) st Q = EVO st.tm c fun v => BIND dirty (asBool v) fun q => IFB dirty q (WP AP ctx a st Q) (WP AP ctx b st Q) := propext Iff.rfl
theorem WP_block (id : Nat) (b : ACode) : WP AP ctx (.block id b) st Q = WP AP ctx b st (BLK id Q) := propext Iff.rfl
theorem WP_scope (b : ACode) : WP AP ctx (.scope b) st Q = WP AP ctx b st (SCP b Q) := propext Iff.rfl
theorem WP_loop (keep : Option (List Nat)) (b : ACode) : WP AP ctx (.loop keep b) st Q = LOOP (WP AP ctx b) keep st Q := propext Iff.rfl
theorem WP_range (f : AOpd) (k : Nat) : WP AP ctx (.rangeFunc f k) st Q = EVO st.tm f fun v => RNG AP ctx k st Q v := propext Iff.rfl
theorem WPS_nil : WPS AP ctx [] st Q = Q .normal st := propext Iff.rfl
theorem WPS_cons (s : AStep) (l : List AStep) : WPS AP ctx (s :: l) st Q = STEP AP ctx s st Q fun st' => WPS AP ctx l st' Q := propext Iff.rfl
theorem SEQ_normal (W : St → Post → Prop) : SEQ W Q .normal st = W st Q := propext Iff.rfl
theorem SEQ_ret (W : St → Post → Prop) : SEQ W Q .ret st = Q .ret st := propext Iff.rfl
theorem SEQ_exit (W : St → Post → Prop) (l : Nat) : SEQ W Q (.exit l) st = Q (.exit l) st := propext Iff.rfl
theorem SEQ_goto (W : St → Post → Prop) (l : Nat) : SEQ W Q (.goto l) st = Q (.goto l) st := propext Iff.rfl
theorem SEQ_panic (W : St → Post → Prop) (c : Chain) : SEQ W Q (.panic c) st = Q (.panic c) st := propext Iff.rfl
theorem BLK_normal (id : Nat) : BLK id Q .normal st = Q .normal st := propext Iff.rfl
theorem BLK_ret (id : Nat) : BLK id Q .ret st = Q .ret st := propext Iff.rfl
theorem BLK_exit (id l : Nat) : BLK id Q (.exit l) st = Q (cond (Nat.beq id l) .normal (.exit l)) st := propext Iff.rfl
theorem BLK_goto (id l : Nat) : BLK id Q (.goto l) st = Q (.goto l) st := propext Iff.rfl
theorem BLK_panic (id : Nat) (c : Chain) : BLK id Q (.panic c) st = Q (.panic c) st := propext Iff.rfl
end

/-! ### it is so -/
def EX (ctx : Ctx) (c : ACode) (st : St) (r : AExit × St) : Prop := ∃ n0, ∀ n k, n0 ≤ n → n0 ≤ k → (codeC c).run (RTn AP n k ctx) st = some r
def EXS (ctx : Ctx) (l : List AStep) (st : St) (r : AExit × St) : Prop := ∃ n0, ∀ n k, n0 ≤ n → n0 ≤ k → (stepsC l).run (RTn AP n k ctx) st = some r

theorem ENTER.run {AP : AProg} {f : AFn} {vs : List AV} {H : AHeap} {e : AEnd} {H' : AHeap} (h : ENTER AP f vs H e H') :
    ∃ n0, ∀ n k, n0 ≤ n → n0 ≤ k → enterA (acall AP n) (rounds AP (acall AP n) n k) f vs H = some (e, H') := by
  cases f with
  | func g => obtain ⟨n0, h⟩ := h; exact ⟨n0, fun n k hn _ => by simp [enterA, h n hn]⟩
  | yield l => obtain ⟨n0, h⟩ := h; exact ⟨n0, fun n k hn hk => by simp [enterA, h n k hn hk]⟩

theorem sameV_refl_aux : (∀ v, sameV v v = true) ∧ (∀ l, sameL l l = true) := by
  have e1 : ∀ n, Nat.beq n n = true := fun n => by simp
  have e2 : ∀ k, eqK k k = true := fun k => by cases k <;> rfl
  have e3 : ∀ i, eqI i i = true := fun i => by rw [eqI_eq]; simp
  have e4 : ∀ s, eqS s s = true := fun s => by rw [eqS_eq]; simp
  refine ⟨fun v => ?_, fun l => ?_⟩
  · refine AV.rec (motive_1 := fun v => sameV v v = true) (motive_2 := fun l => sameL l l = true) ?_ ?_ ?_ ?_ ?_ ?_ ?_ ?_ ?_ ?_ ?_ ?_ ?_ ?_ ?_ ?_ ?_ ?_ ?_ v
    all_goals (intros; first | rfl | (simp only [sameV, sameL, e1, e2, e3, e4, Bool.and_self, beq_self_eq_true, *]; done) | (rename_i f _ _ _ _; cases f <;> simp only [sameV, sameL, e1, Bool.and_self, *]))
  · refine AV.rec_1 (motive_1 := fun v => sameV v v = true) (motive_2 := fun l => sameL l l = true) ?_ ?_ ?_ ?_ ?_ ?_ ?_ ?_ ?_ ?_ ?_ ?_ ?_ ?_ ?_ ?_ ?_ ?_ ?_ l
    all_goals (intros; first | rfl | (simp only [sameV, sameL, e1, e2, e3, e4, Bool.and_self, beq_self_eq_true, *]; done) | (rename_i f _ _ _ _; cases f <;> simp only [sameV, sameL, e1, Bool.and_self, *]))
theorem sameV_refl (v : AV) : sameV v v = true := sameV_refl_aux.1 v

theorem CHK.run {d : Option Nat} {st : St} {vs : List AV} {op : AOp} (h : CHK d st vs op) : ∃ t, d = some t ∧ chkOp (T.getC (T.path t)).run st vs op = true := by
  cases op with
  | read f =>
    cases d with
    | none => exact False.elim h
    | some t =>
      refine ⟨t, rfl, ?_⟩
      obtain ⟨v, h1, h⟩ := BIND.elim (m := dirty) h
      obtain ⟨v', h2, h⟩ := BIND.elim (m := dirty) h
      subst h
      have h2' : (T.getC (T.path t)).run st.tm = some v := by rw [T.getC_run]; exact h2
      simp [chkOp, h1, h2', sameV_refl]
  | _ => exact False.elim h

/-- one operation -/
theorem OPK.run {AP : AProg} {ctx : Ctx} {dst : Option Nat} {ps : Option (List Nat)} {st : St} {Q : Post} {K : St → Prop} {vs : List AV} {op : AOp} (h : OPK AP ctx dst ps st Q K vs op)
    {kk : Nat → Nat → St → Res} (hK : ∀ st, K st → ∃ e st', Q e st' ∧ ∃ n0, ∀ n k, n0 ≤ n → n0 ≤ k → kk n k st = some (e, st')) :
    ∃ e st', Q e st' ∧ ∃ n0, ∀ n k, n0 ≤ n → n0 ≤ k → (opC (putDC dst).run ps op).run (RTn AP n k ctx) st (kk n k) vs = some (e, st') := by
  have hp : ∀ v tm, (putDC dst).run v tm = putD dst v tm := putDC_run dst
  have call : ∀ {f vs}, CALLK AP dirty f vs st.H (fun v H => K ⟨putD dst v st.tm, st.dfs, st.up, H⟩) (PAN ps st.tm st.dfs st.up Q) →
      ∃ e st', Q e st' ∧ ∃ n0, ∀ n k, n0 ≤ n → n0 ≤ k → ((enterA (acall AP n) (rounds AP (acall AP n) n k) f vs st.H).bind fun r => stepEnd (putDC dst).run ps st (kk n k) r) = some (e, st') := by
    rintro f vs ⟨e, H', h1, h⟩
    obtain ⟨n0, h1⟩ := h1.run
    cases e with
    | ret v =>
      obtain ⟨e, st', hq, n1, h2⟩ := hK _ h
      refine ⟨e, st', hq, max n0 n1, fun n k hn hk => ?_⟩
      rw [h1 n k (by omega) (by omega)]
      simpa [stepEnd, hp] using h2 n k (by omega) (by omega)
    | panic c =>
      cases ps with
      | none => exact False.elim h
      | some ds =>
        refine ⟨_, _, h, n0, fun n k hn hk => ?_⟩
        rw [h1 n k (by omega) (by omega)]
        simp [stepEnd]
  cases op with
  | pure f =>
    obtain ⟨v, h1, h⟩ := BIND.elim (m := dirty) h
    obtain ⟨e, st', hq, n1, h2⟩ := hK _ h
    exact ⟨e, st', hq, n1, fun n k hn hk => by simp [opC, kPure, h1, hp, h2 n k hn hk]⟩
  | read f =>
    obtain ⟨v, h1, h⟩ := BIND.elim (m := dirty) h
    obtain ⟨e, st', hq, n1, h2⟩ := hK _ h
    exact ⟨e, st', hq, n1, fun n k hn hk => by simp [opC, kRead, h1, hp, h2 n k hn hk]⟩
  | alloc f =>
    simp only [OPK] at h
    obtain ⟨o, mk, h1, h⟩ := BIND2.elim (m := dirty) h
    obtain ⟨e, st', hq, n1, h2⟩ := hK _ h
    exact ⟨e, st', hq, n1, fun n k hn hk => by simp [opC, kAlloc, h1, hp, h2 n k hn hk]⟩
  | eff f =>
    simp only [OPK] at h
    obtain ⟨o, mk, h1, h⟩ := BIND2.elim (m := dirty) h
    obtain ⟨e, st', hq, n1, h2⟩ := hK _ h
    exact ⟨e, st', hq, n1, fun n k hn hk => by simp [opC, kEff, h1, hp, h2 n k hn hk]⟩
  | callF f => exact call h
  | callV =>
    simp only [OPK, VIA] at h
    split at h
    · exact call h
    · exact call h
    · exact False.elim h
  | invoke name =>
    simp only [OPK, INV] at h
    split at h
    · obtain ⟨g, hg, h⟩ := BIND.elim (m := dirty) h
      obtain ⟨e, st', hq, n1, h2⟩ := call h
      exact ⟨e, st', hq, n1, fun n k hn hk => by simpa [opC, kInvoke, RTn, hg] using h2 n k hn hk⟩
    · exact False.elim h
  | recover =>
    simp only [OPK] at h
    split at h
    · obtain ⟨hr, h⟩ := h
      split at h
      · rename_i v older hup
        obtain ⟨e, st', hq, n1, h2⟩ := hK _ h
        exact ⟨e, st', hq, n1, fun n k hn hk => by simpa [opC, kRecover, RTn, hr, recoverA, hup, hp] using h2 n k hn hk⟩
      · rename_i hup
        obtain ⟨e, st', hq, n1, h2⟩ := hK _ h
        refine ⟨e, st', hq, n1, fun n k hn hk => ?_⟩
        have : recoverA (putDC dst).run st = ⟨putD dst .nili st.tm, st.dfs, st.up, st.H⟩ := by
          unfold recoverA
          split
          · rename_i v older hu; exact (hup _ _ hu).elim
          · rw [hp]
        simpa [opC, kRecover, RTn, hr, this] using h2 n k hn hk
    · exact False.elim h
  | defer =>
    obtain ⟨hr, h⟩ := h
    split at h
    · obtain ⟨e, st', hq, n1, h2⟩ := hK _ h
      exact ⟨e, st', hq, n1, fun n k hn hk => by simpa [opC, kDefer, RTn, hr, hp] using h2 n k hn hk⟩
    · exact False.elim h
  | panic =>
    simp only [OPK, PANICK] at h
    split at h
    · cases ps with
      | none => exact False.elim h
      | some ds => exact ⟨_, _, h, 0, fun n k hn hk => by simp [opC, kPanic, stepEnd]⟩
    · exact False.elim h

theorem STEP.run {AP : AProg} {ctx : Ctx} {s : AStep} {st : St} {Q : Post} {K : St → Prop} (h : STEP AP ctx s st Q K)
    {kk : Nat → Nat → St → Res} (hK : ∀ st, K st → ∃ e st', Q e st' ∧ ∃ n0, ∀ n k, n0 ≤ n → n0 ≤ k → kk n k st = some (e, st')) :
    ∃ e st', Q e st' ∧ ∃ n0, ∀ n k, n0 ≤ n → n0 ≤ k → (stepC s).run (RTn AP n k ctx) (kk n k) st = some (e, st') := by
  obtain ⟨chk, dst, guard, args, op, ps⟩ := s
  have hp : ∀ v tm, (putDC dst).run v tm = putD dst v tm := putDC_run dst
  have hc : ∀ g, (T.getC (T.path g)).run st.tm = st.tm.get g := fun g => by rw [T.getC_run]; rfl
  cases chk with
  | false =>
    cases guard with
    | none =>
      obtain ⟨vs, h1, h⟩ := EVL.elim h
      obtain ⟨e, st', hq, n0, h2⟩ := h.run hK
      exact ⟨e, st', hq, n0, fun n k hn hk => by simpa [stepC, evLC_run, h1] using h2 n k hn hk⟩
    | some g =>
      obtain ⟨w, hw, h⟩ := BIND.elim (m := dirty) h
      cases w with
      | true =>
        obtain ⟨vs, h1, h⟩ := EVL.elim h
        obtain ⟨e, st', hq, n0, h2⟩ := h.run hK
        exact ⟨e, st', hq, n0, fun n k hn hk => by simpa [stepC, hc, hw, evLC_run, h1] using h2 n k hn hk⟩
      | false =>
        obtain ⟨e, st', hq, n0, h2⟩ := hK _ h
        exact ⟨e, st', hq, n0, fun n k hn hk => by simpa [stepC, hc, hw, hp] using h2 n k hn hk⟩
  | true =>
    cases guard with
    | none =>
      obtain ⟨vs, h1, hk, h'⟩ := EVL.elim h
      obtain ⟨t, rfl, hk⟩ := hk.run
      obtain ⟨e, st', hq, n0, h2⟩ := hK _ h'
      exact ⟨e, st', hq, n0, fun n k hn hkk => by simpa [stepC, evLC_run, h1, hk] using h2 n k hn hkk⟩
    | some g =>
      obtain ⟨w, hw, h⟩ := BIND.elim (m := dirty) h
      cases w with
      | true =>
        obtain ⟨vs, h1, hk, h'⟩ := EVL.elim h
        obtain ⟨t, rfl, hk⟩ := hk.run
        obtain ⟨e, st', hq, n0, h2⟩ := hK _ h'
        exact ⟨e, st', hq, n0, fun n k hn hkk => by simpa [stepC, hc, hw, evLC_run, h1, hk] using h2 n k hn hkk⟩
      | false =>
        obtain ⟨hd, h⟩ := h
        obtain ⟨e, st', hq, n0, h2⟩ := hK _ h
        cases dst with
        | none => cases hd
        | some d => exact ⟨e, st', hq, n0, fun n k hn hkk => by simpa [stepC, hc, hw] using h2 n k hn hkk⟩

theorem WPS.run {AP : AProg} {ctx : Ctx} : ∀ {l : List AStep} {st : St} {Q : Post}, WPS AP ctx l st Q → ∃ e st', Q e st' ∧ EXS AP ctx l st (e, st')
  | [], st, Q, h => ⟨_, _, h, 0, fun _ _ _ _ => rfl⟩
  | s :: rest, st, Q, h => by
    obtain ⟨e, st', hq, n0, h⟩ := STEP.run (kk := fun n k => (stepsC rest).run (RTn AP n k ctx)) h fun st' hs => WPS.run hs
    exact ⟨e, st', hq, n0, h⟩

/-! ### loops -/
theorem loop_run {AP : AProg} {ctx : Ctx} {keep : Option (List Nat)} {b : ACode} {Q : Post} {I : Nat → St → Prop}
    (hb : ∀ n st, I n st → ∃ e st', (match e with | .normal => ∃ m, m < n ∧ I m st' | e => Q e st') ∧ EX AP ctx b (keepT keep st) (e, st')) :
    ∀ m n, n ≤ m → ∀ st, I n st → ∃ e st', Q e st' ∧ ∃ n0 c, ∀ n k, n0 ≤ n → n0 ≤ k → ∀ c', c ≤ c' → loopN keep ((codeC b).run (RTn AP n k ctx)) c' st = some (e, st') := by
  intro m
  induction m with
  | zero =>
    intro n hn st hi
    obtain ⟨e, st', h, n0, hx⟩ := hb n st hi
    cases e with
    | normal => obtain ⟨j, hj, _⟩ := h; omega
    | exit id => exact ⟨_, _, h, n0, 1, fun n k hn hk c' hc => by obtain ⟨c, rfl⟩ : ∃ c, c' = c + 1 := ⟨c' - 1, by omega⟩; have := hx n k hn hk; cases keep <;> simp [loopN, keepT] at this ⊢ <;> simp [this]⟩
    | goto l => exact ⟨_, _, h, n0, 1, fun n k hn hk c' hc => by obtain ⟨c, rfl⟩ : ∃ c, c' = c + 1 := ⟨c' - 1, by omega⟩; have := hx n k hn hk; cases keep <;> simp [loopN, keepT] at this ⊢ <;> simp [this]⟩
    | ret => exact ⟨_, _, h, n0, 1, fun n k hn hk c' hc => by obtain ⟨c, rfl⟩ : ∃ c, c' = c + 1 := ⟨c' - 1, by omega⟩; have := hx n k hn hk; cases keep <;> simp [loopN, keepT] at this ⊢ <;> simp [this]⟩
    | panic p => exact ⟨_, _, h, n0, 1, fun n k hn hk c' hc => by obtain ⟨c, rfl⟩ : ∃ c, c' = c + 1 := ⟨c' - 1, by omega⟩; have := hx n k hn hk; cases keep <;> simp [loopN, keepT] at this ⊢ <;> simp [this]⟩
  | succ m ih =>
    intro n hn st hi
    obtain ⟨e, st', h, n0, hx⟩ := hb n st hi
    cases e with
    | normal =>
      obtain ⟨j, hj, hi'⟩ := h
      obtain ⟨e, st2, hq, n1, c, h2⟩ := ih j (by omega) st' hi'
      refine ⟨e, st2, hq, max n0 n1, c + 1, fun n k hn hk c' hc => ?_⟩
      obtain ⟨c'', rfl⟩ : ∃ c, c' = c + 1 := ⟨c' - 1, by omega⟩
      have := hx n k (by omega) (by omega)
      have h3 := h2 n k (by omega) (by omega) c'' (by omega)
      cases keep <;> simp [loopN, keepT] at this ⊢ <;> simp [this, h3]
    | exit id => exact ⟨_, _, h, n0, 1, fun n k hn hk c' hc => by obtain ⟨c, rfl⟩ : ∃ c, c' = c + 1 := ⟨c' - 1, by omega⟩; have := hx n k hn hk; cases keep <;> simp [loopN, keepT] at this ⊢ <;> simp [this]⟩
    | goto l => exact ⟨_, _, h, n0, 1, fun n k hn hk c' hc => by obtain ⟨c, rfl⟩ : ∃ c, c' = c + 1 := ⟨c' - 1, by omega⟩; have := hx n k hn hk; cases keep <;> simp [loopN, keepT] at this ⊢ <;> simp [this]⟩
    | ret => exact ⟨_, _, h, n0, 1, fun n k hn hk c' hc => by obtain ⟨c, rfl⟩ : ∃ c, c' = c + 1 := ⟨c' - 1, by omega⟩; have := hx n k hn hk; cases keep <;> simp [loopN, keepT] at this ⊢ <;> simp [this]⟩
    | panic p => exact ⟨_, _, h, n0, 1, fun n k hn hk c' hc => by obtain ⟨c, rfl⟩ : ∃ c, c' = c + 1 := ⟨c' - 1, by omega⟩; have := hx n k hn hk; cases keep <;> simp [loopN, keepT] at this ⊢ <;> simp [this]⟩

theorem RANGE.run {AP : AProg} {ctx : Ctx} {st : St} {k0 : Nat} {H0 : AHeap} {dfs : List ADef} {d : Nat} {Q : Post} {v : AV} (h : RANGE AP ctx st k0 H0 dfs d Q v) :
    ∃ e st', Q e st' ∧ ∃ n0, ∀ n k, n0 ≤ n → n0 ≤ k → rangeA (acall AP n) (rounds AP (acall AP n) n k) ctx st k0 H0 dfs d v = some (e, st') := by
  unfold RANGE at h
  split at h
  · obtain ⟨e, H', ⟨n0, hc⟩, h⟩ := h
    cases e with
    | panic c => exact ⟨_, _, h, n0, fun n k hn hk => by simp [rangeA, enterA, hc n hn, endLoopA]⟩
    | ret v =>
      obtain ⟨s, p, f, k, tm, d, hg, hs, h⟩ := h
      refine ⟨_, _, h, n0, fun n k hn hk => ?_⟩
      simp only [rangeA, enterA, hc n hn, endLoopA, Option.bind_some, hg]
  · exact False.elim h

theorem WP.run {AP : AProg} {ctx : Ctx} : ∀ {c : ACode} {st : St} {Q : Post}, WP AP ctx c st Q → ∃ e st', Q e st' ∧ EX AP ctx c st (e, st')
  | .skip, st, Q, h => ⟨_, _, h, 0, fun _ _ _ _ => rfl⟩
  | .label _, st, Q, h => ⟨_, _, h, 0, fun _ _ _ _ => rfl⟩
  | .exit _, st, Q, h => ⟨_, _, h, 0, fun _ _ _ _ => rfl⟩
  | .goto _, st, Q, h => ⟨_, _, h, 0, fun _ _ _ _ => rfl⟩
  | .ret, st, Q, h => ⟨_, _, h, 0, fun _ _ _ _ => rfl⟩
  | .stuck, st, Q, h => False.elim h
  | .region steps, st, Q, h => WPS.run h
  | .seq a b, st, Q, h => by
    obtain ⟨e, st1, h1, n0, hx⟩ := WP.run (c := a) h
    cases e with
    | normal =>
      obtain ⟨e, st2, hq, n1, hy⟩ := WP.run (c := b) h1
      exact ⟨e, st2, hq, max n0 n1, fun n k hn hk => by simp [codeC, hx n k (by omega) (by omega), seqK, hy n k (by omega) (by omega)]⟩
    | exit id => exact ⟨_, _, h1, n0, fun n k hn hk => by simp [codeC, hx n k hn hk, seqK]⟩
    | goto id => exact ⟨_, _, h1, n0, fun n k hn hk => by simp [codeC, hx n k hn hk, seqK]⟩
    | ret => exact ⟨_, _, h1, n0, fun n k hn hk => by simp [codeC, hx n k hn hk, seqK]⟩
    | panic p => exact ⟨_, _, h1, n0, fun n k hn hk => by simp [codeC, hx n k hn hk, seqK]⟩
  | .cond c a b, st, Q, h => by
    obtain ⟨v, hv, h⟩ := EVO.elim h
    obtain ⟨q, hq, h⟩ := BIND.elim (m := dirty) h
    have hv' : v = .bool q := by
      unfold asBool at hq
      split at hq
      · injection hq with hq; rw [hq]
      · cases hq
    subst hv'
    cases q with
    | true =>
      obtain ⟨e, st1, h1, n0, hx⟩ := WP.run (c := a) h
      exact ⟨e, st1, h1, n0, fun n k hn hk => by simp [codeC, evC_run, hv, condK, hx n k hn hk]⟩
    | false =>
      obtain ⟨e, st1, h1, n0, hx⟩ := WP.run (c := b) h
      exact ⟨e, st1, h1, n0, fun n k hn hk => by simp [codeC, evC_run, hv, condK, hx n k hn hk]⟩
  | .block id b, st, Q, h => by
    obtain ⟨e, st1, h1, n0, hx⟩ := WP.run (c := b) h
    cases e with
    | exit id' => exact ⟨_, _, h1, n0, fun n k hn hk => by simp [codeC, hx n k hn hk, blockK]⟩
    | normal => exact ⟨_, _, h1, n0, fun n k hn hk => by simp [codeC, hx n k hn hk, blockK]⟩
    | goto id => exact ⟨_, _, h1, n0, fun n k hn hk => by simp [codeC, hx n k hn hk, blockK]⟩
    | ret => exact ⟨_, _, h1, n0, fun n k hn hk => by simp [codeC, hx n k hn hk, blockK]⟩
    | panic p => exact ⟨_, _, h1, n0, fun n k hn hk => by simp [codeC, hx n k hn hk, blockK]⟩
  | .scope b, st, Q, h => by
    obtain ⟨e, st1, h1, n0, hx⟩ := WP.run (c := b) h
    cases e with
    | exit id' => exact ⟨_, _, h1, n0, fun n k hn hk => by simp [codeC, hx n k hn hk, scopeK]⟩
    | normal => exact ⟨_, _, h1, n0, fun n k hn hk => by simp [codeC, hx n k hn hk, scopeK]⟩
    | goto id => exact ⟨_, _, h1.2, n0, fun n k hn hk => by simp [codeC, hx n k hn hk, scopeK, h1.1]⟩
    | ret => exact ⟨_, _, h1, n0, fun n k hn hk => by simp [codeC, hx n k hn hk, scopeK]⟩
    | panic p => exact ⟨_, _, h1, n0, fun n k hn hk => by simp [codeC, hx n k hn hk, scopeK]⟩
  | .loop keep b, st, Q, ⟨I, ⟨n, hi⟩, h⟩ => by
    obtain ⟨e, st', hq, n0, c, hx⟩ := loop_run (AP := AP) (ctx := ctx) (keep := keep) (b := b) (Q := Q) (I := I) (fun n st hi => by
      obtain ⟨e, st', h1, h2⟩ := WP.run (c := b) (h n st hi)
      exact ⟨e, st', h1, h2⟩) n n (Nat.le_refl n) st hi
    exact ⟨e, st', hq, max n0 c, fun n k hn hk => hx n k (by omega) (by omega) n (by omega)⟩
  | .rangeFunc f k0, st, Q, h => by
    obtain ⟨v, hv, h⟩ := EVO.elim h
    unfold RNG at h
    cases hr : ctx.round with
    | none =>
      rw [hr] at h
      obtain ⟨e, st', hq, n0, hx⟩ := RANGE.run h
      exact ⟨e, st', hq, n0, fun n k hn hk => by simpa [codeC, evC_run, hv, rangeK, RTn, hr] using hx n k hn hk⟩
    | some l =>
      rw [hr] at h
      obtain ⟨d, hd, h⟩ := BIND.elim (m := dirty) h
      obtain ⟨e, st', hq, n0, hx⟩ := RANGE.run h
      exact ⟨e, st', hq, n0, fun n k hn hk => by simpa [codeC, evC_run, hv, rangeK, RTn, hr, hd] using hx n k hn hk⟩

/-! ### a call -/
def UNW (AP : AProg) (rs : List ARes) (tm : T AV) (Q : AEnd → AHeap → Prop) : List ADef → Option Chain → AHeap → Prop
  | [], none, H => BIND dirty (readRes H tm rs) fun l => Q (.ret (tupled l)) H
  | [], some c, H => Q (.panic c) H
  | .coll b :: ds, m, H => H.get b = some (.deferred (some [])) ∧ UNW AP rs tm Q ds m (H.set b (.deferred none))
  | .fn (.func f) args :: ds, m, H => ∃ v up' H', CALLU AP f args (some (m.getD [])) H (.ret v) (some up') H' ∧ BIND dirty (settleA m up') fun m' => UNW AP rs tm Q ds m' H'
  | .fn (.yield _) _ :: _, _, _ => False
theorem UNW.run {AP : AProg} {rs : List ARes} {tm : T AV} {Q : AEnd → AHeap → Prop} : ∀ {ds : List ADef} {m : Option Chain} {H : AHeap}, UNW AP rs tm Q ds m H →
    ∃ e H', Q e H' ∧ ∃ n0, ∀ n, n0 ≤ n → unwindA (acall AP n) rs tm ds m H = some (e, H')
  | [], none, H, h => by
    obtain ⟨l, hl, h⟩ := BIND.elim (m := dirty) h
    exact ⟨_, _, h, 0, fun n _ => by simp [unwindA, hl]⟩
  | [], some c, H, h => ⟨_, _, h, 0, fun n _ => by simp [unwindA]⟩
  | .coll b :: ds, m, H, ⟨hb, h⟩ => by
    obtain ⟨e, H', hq, n0, hx⟩ := UNW.run h
    exact ⟨e, H', hq, n0, fun n hn => by simp [unwindA, hb, hx n hn]⟩
  | .fn (.func f) args :: ds, m, H, ⟨v, up', H', ⟨n0, hc⟩, h⟩ => by
    obtain ⟨m', hm, h⟩ := BIND.elim (m := dirty) h
    obtain ⟨e, H2, hq, n1, hx⟩ := UNW.run h
    exact ⟨e, H2, hq, max n0 n1, fun n hn => by simp [unwindA, hc n (by omega), hm, hx n (by omega)]⟩
  | .fn (.yield _) _ :: _, _, _, h => False.elim h

def FIN (AP : AProg) (rs : List ARes) (Q : AEnd → Option Chain → AHeap → Prop) : Post := fun e st => match e with
  | .normal => UNW AP rs st.tm (fun e H => Q e st.up H) st.dfs none st.H
  | .ret => UNW AP rs st.tm (fun e H => Q e st.up H) st.dfs none st.H
  | .panic c => UNW AP rs st.tm (fun e H => Q e st.up H) st.dfs (some c) st.H
  | _ => False

/-- A CALL, BY ITS BODY -/
theorem callu_of_wp {AP : AProg} {f : Nat} {fn : AFunc} (hf : AP.func f = some fn) {vs : List AV} {up : Option Chain} {H : AHeap} {Q : AEnd → Option Chain → AHeap → Prop}
    (h : WP AP ⟨none, f⟩ fn.body ⟨argsT 0 vs .nil, [], up, H⟩ (FIN AP fn.results Q)) : ∃ e up' H', CALLU AP f vs up H e up' H' ∧ Q e up' H' := by
  obtain ⟨e, st, h1, n0, hx⟩ := h.run
  have key : ∀ m, UNW AP fn.results st.tm (fun e H => Q e st.up H) st.dfs m st.H → (∀ call, endCall call fn (e, st) = (unwindA call fn.results st.tm st.dfs m st.H).bind fun q => some (q.1, st.up, q.2)) →
      ∃ e up' H', CALLU AP f vs up H e up' H' ∧ Q e up' H' := by
    intro m h1 he
    obtain ⟨e', H', hq, n1, hy⟩ := h1.run
    refine ⟨e', st.up, H', ⟨max n0 n1 + 1, fun n hn => ?_⟩, hq⟩
    obtain ⟨n, rfl⟩ : ∃ j, n = j + 1 := ⟨n - 1, by omega⟩
    have := hx n n (by omega) (by omega)
    simp only [RTn] at this
    simp only [acall, stepCall, hf, Option.bind_some, exec, this, he, hy n (by omega)]
  cases e with
  | normal => exact key none h1 fun _ => rfl
  | ret => exact key none h1 fun _ => rfl
  | panic c => exact key (some c) h1 fun _ => rfl
  | exit _ => exact False.elim h1
  | goto _ => exact False.elim h1

theorem call_of_wp {AP : AProg} {f : Nat} {fn : AFunc} (hf : AP.func f = some fn) {vs : List AV} {H : AHeap} {Q : AEnd → AHeap → Prop}
    (h : WP AP ⟨none, f⟩ fn.body ⟨argsT 0 vs .nil, [], none, H⟩ (FIN AP fn.results fun e up H => up = none ∧ Q e H)) : ∃ e H', CALL AP f vs H e H' ∧ Q e H' := by
  obtain ⟨e, up', H', h1, rfl, h2⟩ := callu_of_wp hf h
  exact ⟨e, H', h1, h2⟩

/-! ### a round -/
def RE (l : Nat) (Q : AEnd → AHeap → Prop) : Post := fun e st => st.dfs = [] ∧ match e with
  | .panic c => Q (.panic c) st.H
  | e => BIND dirty (setLoop st.H l (cond (isNormal e) .ready .done) (endOf e)) fun H => Q (.ret (.bool (isNormal e))) H
def RB (W : St → Post → Prop) (l : Nat) (Q : AEnd → AHeap → Prop) : Post := fun e st => match e with
  | .normal => BIND dirty (beginRound st.H l) fun H => W { st with H := H } (RE l Q)
  | _ => False
theorem round_of_wp {AP : AProg} {l : Nat} {H : AHeap} {s : LState} {p : Option AJump} {f k : Nat} {tm : T AV} {d : Nat} {fn : AFunc} {lp : ALoop} {vs : List AV} {tm1 : T AV} {Q : AEnd → AHeap → Prop}
    (hl : H.get l = some (.loop s p f k tm d)) (hf : AP.func f = some fn) (hk : nth fn.loops k = some lp) (hb : bindParams tm lp.params vs = some tm1)
    (h : WP AP ⟨some l, f⟩ lp.assign ⟨tm1, [], none, H⟩ (RB (WP AP ⟨some l, f⟩ lp.body) l Q)) : ∃ e H', ROUND AP l vs H e H' ∧ Q e H' := by
  obtain ⟨e, st, h1, n0, hx⟩ := h.run
  cases e with
  | normal =>
    obtain ⟨H2, hbr, h1⟩ := BIND.elim (m := dirty) h1
    obtain ⟨e, st2, ⟨hd, h2⟩, n1, hy⟩ := WP.run h1
    have key : ∀ e' H', Q e' H' → roundEnd l (e, st2) = some (e', H') → ∃ e H', ROUND AP l vs H e H' ∧ Q e H' := by
      intro e' H' hq he
      refine ⟨e', H', ⟨max n0 n1 + 1, fun n j hn hj => ?_⟩, hq⟩
      obtain ⟨j, rfl⟩ : ∃ i, j = i + 1 := ⟨j - 1, by omega⟩
      have hx' := hx n j (by omega) (by omega)
      have hy' := hy n j (by omega) (by omega)
      simp only [RTn] at hx' hy'
      simp only [rounds, roundOf, hl, hf, Option.bind_some, hk, hb, exec, hx', hbr, hy', hd, roundOf.noDefs, cond_true, he]
    cases e with
    | panic c => exact key _ _ h2 rfl
    | normal => obtain ⟨H3, h3, h2⟩ := BIND.elim (m := dirty) h2; exact key _ _ h2 (by simp [roundEnd, h3])
    | exit id => obtain ⟨H3, h3, h2⟩ := BIND.elim (m := dirty) h2; exact key _ _ h2 (by simp [roundEnd, h3])
    | goto id => obtain ⟨H3, h3, h2⟩ := BIND.elim (m := dirty) h2; exact key _ _ h2 (by simp [roundEnd, h3])
    | ret => obtain ⟨H3, h3, h2⟩ := BIND.elim (m := dirty) h2; exact key _ _ h2 (by simp [roundEnd, h3])
  | exit _ => exact False.elim h1
  | goto _ => exact False.elim h1
  | ret => exact False.elim h1
  | panic _ => exact False.elim h1

/-! ### what the machine answers -/
theorem CALL.acall {AP : AProg} {f : Nat} {vs : List AV} {H : AHeap} {e : AEnd} {H' : AHeap} (h : CALL AP f vs H e H') : ∃ n, acall AP n f vs none H = some (e, none, H') := by
  obtain ⟨n, h⟩ := h
  exact ⟨n, h n (Nat.le_refl n)⟩
end
end Go.Am
