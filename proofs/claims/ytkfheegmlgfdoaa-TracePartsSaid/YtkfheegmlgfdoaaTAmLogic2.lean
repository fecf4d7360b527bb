/- REGIONS, WITH WHAT THEY SET AS A LIST; in a form that is gone through step by step (a mark says where one stands: what stands behind a step has none, and is left alone). -/
import Derived.Test.YtkfheegmlgfdoaaTAmLogic
namespace Go.Am
set_option linter.unusedVariables false
set_option linter.unusedSimpArgs false

abbrev Env := List (Nat × AV)
noncomputable def setsE (E : Env) (tm : T AV) : T AV := List.rec (motive := fun _ => T AV) tm (fun p _ ih => ih.set p.1 p.2) E
noncomputable def lookE (E : Env) (t : Nat) (tm : T AV) : Option AV := List.rec (motive := fun _ => Option AV) (tm.get t) (fun p _ ih => cond (Nat.beq p.1 t) (some p.2) ih) E
theorem setsE_cons (p : Nat × AV) (E : Env) (tm : T AV) : setsE (p :: E) tm = (setsE E tm).set p.1 p.2 := rfl
theorem setsE_nil (tm : T AV) : setsE [] tm = tm := rfl
theorem get_setsE : ∀ (E : Env) (t : Nat) (tm : T AV), (setsE E tm).get t = lookE E t tm
  | [], t, tm => rfl
  | (k, v) :: E, t, tm => by
    rw [setsE_cons, T.get_set]
    show _ = cond (Nat.beq k t) (some v) (lookE E t tm)
    rw [get_setsE E]
    cases hb : Nat.beq k t with
    | true => rw [if_pos (Nat.eq_of_beq_eq_true hb)]; rfl
    | false => rw [if_neg (Nat.ne_of_beq_eq_false hb)]; rfl
theorem lookE_nil (t : Nat) (tm : T AV) : lookE [] t tm = tm.get t := rfl
def putE (dst : Option Nat) (v : AV) (E : Env) : Env := match dst with
  | some d => (d, v) :: E
  | none => E
theorem setsE_putE (dst : Option Nat) (v : AV) (E : Env) (tm : T AV) : setsE (putE dst v E) tm = putD dst v (setsE E tm) := by cases dst <;> rfl

/-! ### marked words -/
def BI {α : Type} (m : Bool) (o : Option α) (K : Bool → α → Prop) : Prop := match o with
  | some a => K dirty a
  | none => False
def BI2 {α β : Type} (m : Bool) (o : Option (α × β)) (K : Bool → α → β → Prop) : Prop := match o with
  | some a => K dirty a.1 a.2
  | none => False
def IG (m : Bool) (q : Bool) (A B : Bool → Prop) : Prop := match q with
  | true => A dirty
  | false => B dirty
def LK {α : Type} (m : Bool) (o : Option α) (K : Bool → α → Prop) : Prop := match o with
  | some a => K m a
  | none => False
theorem LK_some {α : Type} (a : α) (K : Bool → α → Prop) : LK true (some a) K = K true a := propext Iff.rfl
@[congr] theorem LK_congr {α : Type} {m m' : Bool} {o o' : Option α} {K : Bool → α → Prop} (hm : m = m') (h : o = o') : LK m o K = LK m' o' K := by subst hm; subst h; rfl
theorem BI_some {α : Type} (a : α) (K : Bool → α → Prop) : BI true (some a) K = K dirty a := propext Iff.rfl
theorem BI2_some {α β : Type} (a : α) (b : β) (K : Bool → α → β → Prop) : BI2 true (some (a, b)) K = K dirty a b := propext Iff.rfl
theorem IG_true (A B : Bool → Prop) : IG true true A B = A dirty := propext Iff.rfl
theorem IG_false (A B : Bool → Prop) : IG true false A B = B dirty := propext Iff.rfl
@[congr] theorem BI_congr {α : Type} {m m' : Bool} {o o' : Option α} {K : Bool → α → Prop} (hm : m = m') (h : o = o') : BI m o K = BI m' o' K := by subst hm; subst h; rfl
@[congr] theorem BI2_congr {α β : Type} {m m' : Bool} {o o' : Option (α × β)} {K : Bool → α → β → Prop} (hm : m = m') (h : o = o') : BI2 m o K = BI2 m' o' K := by subst hm; subst h; rfl
@[congr] theorem IG_congr {m m' q q' : Bool} {A B : Bool → Prop} (hm : m = m') (h : q = q') : IG m q A B = IG m' q' A B := by subst hm; subst h; rfl
theorem BI.intro {α : Type} {m : Bool} {o : Option α} {K : Bool → α → Prop} {a : α} (h : o = some a) (hk : K dirty a) : BI m o K := by subst h; exact hk
theorem BI2.intro {α β : Type} {m : Bool} {o : Option (α × β)} {K : Bool → α → β → Prop} {a : α} {b : β} (h : o = some (a, b)) (hk : K dirty a b) : BI2 m o K := by subst h; exact hk
theorem IG.dec {m : Bool} {p : Prop} [Decidable p] {A B : Bool → Prop} (h1 : p → A dirty) (h2 : ¬ p → B dirty) : IG m (decide p) A B := by
  by_cases h : p
  · rw [decide_eq_true h]; exact h1 h
  · rw [decide_eq_false h]; exact h2 h
theorem IG.cases {m : Bool} {q : Bool} {A B : Bool → Prop} (h1 : q = true → A dirty) (h2 : q = false → B dirty) : IG m q A B := by
  cases q with
  | true => exact h1 rfl
  | false => exact h2 rfl
def GO (m : Bool) (Q : Post) (e : AExit) (st : St) : Prop := Q e st
theorem GO_true (Q : Post) (e : AExit) (st : St) : GO true Q e st = Q e st := propext Iff.rfl

noncomputable section
variable (AP : AProg)
def CA (m : Bool) (f : AFn) (vs : List AV) (H : AHeap) (K : Bool → AV → AHeap → Prop) (E : Chain → AHeap → Prop) : Prop := CALLK AP m f vs H (K dirty) E
@[congr] theorem CA_congr {AP : AProg} {m m' : Bool} {f f' : AFn} {vs vs' : List AV} {H : AHeap} {K : Bool → AV → AHeap → Prop} {E : Chain → AHeap → Prop} (hm : m = m') (hf : f = f') (h : vs = vs') : CA AP m f vs H K E = CA AP m' f' vs' H K E := by subst hm; subst h; subst hf; rfl
theorem CA.ret {AP : AProg} {m : Bool} {f : Nat} {vs : List AV} {H : AHeap} {K : Bool → AV → AHeap → Prop} {E : Chain → AHeap → Prop} {v : AV} {H' : AHeap} (h : CALL AP f vs H (.ret v) H') (hk : K dirty v H') : CA AP m (.func f) vs H K E :=
  ⟨_, _, h, hk⟩
theorem CA.yret {AP : AProg} {m : Bool} {l : Nat} {vs : List AV} {H : AHeap} {K : Bool → AV → AHeap → Prop} {E : Chain → AHeap → Prop} {v : AV} {H' : AHeap} (h : ROUND AP l vs H (.ret v) H') (hk : K dirty v H') : CA AP m (.yield l) vs H K E :=
  ⟨_, _, h, hk⟩
theorem CA.panic {AP : AProg} {m : Bool} {f : Nat} {vs : List AV} {H : AHeap} {K : Bool → AV → AHeap → Prop} {E : Chain → AHeap → Prop} {c : Chain} {H' : AHeap} (h : CALL AP f vs H (.panic c) H') (hk : E c H') : CA AP m (.func f) vs H K E :=
  ⟨_, _, h, hk⟩
def VI (m : Bool) (vs : List AV) (K : Bool → AFn → List AV → Prop) : Prop := VIA m vs (K dirty)
@[congr] theorem VI_congr {m m' : Bool} {vs vs' : List AV} {K : Bool → AFn → List AV → Prop} (hm : m = m') (h : vs = vs') : VI m vs K = VI m' vs' K := by subst hm; subst h; rfl
theorem VI_func (g : Nat) (first cap args : List AV) (K : Bool → AFn → List AV → Prop) : VI true (.fn (.func g) first cap :: args) K = K dirty (.func g) (first ++ (args ++ cap)) := propext Iff.rfl
theorem VI_yield (l : Nat) (first args : List AV) (K : Bool → AFn → List AV → Prop) : VI true (.fn (.yield l) first [] :: args) K = K dirty (.yield l) (first ++ args) := propext Iff.rfl
def IV (m : Bool) (name : String) (vs : List AV) (K : Bool → AFn → List AV → Prop) : Prop := INV AP m name vs (K dirty)
@[congr] theorem IV_congr {AP : AProg} {m m' : Bool} {name : String} {vs vs' : List AV} {K : Bool → AFn → List AV → Prop} (hm : m = m') (h : vs = vs') : IV AP m name vs K = IV AP m' name vs' K := by subst hm; subst h; rfl
def RC (m : Bool) (ctx : Ctx) (up : Option Chain) (K : Bool → AV → Option Chain → Prop) : Prop := RECOV m ctx up (K dirty)
@[congr] theorem RC_congr {m m' : Bool} {ctx : Ctx} {up up' : Option Chain} {K : Bool → AV → Option Chain → Prop} (hm : m = m') (h : up = up') : RC m ctx up K = RC m' ctx up' K := by subst hm; subst h; rfl
theorem RC_none (f : Nat) (K : Bool → AV → Option Chain → Prop) : RC true ⟨none, f⟩ none K = K dirty .nili none := RECOV_none true f _
theorem RC_nil (f : Nat) (K : Bool → AV → Option Chain → Prop) : RC true ⟨none, f⟩ (some []) K = K dirty .nili (some []) := RECOV_nil true f _
theorem RC_cons (f : Nat) (v : AV) (older : Chain) (K : Bool → AV → Option Chain → Prop) : RC true ⟨none, f⟩ (some ((v, false) :: older)) K = K dirty v (some ((v, true) :: older)) := RECOV_cons true f v older _
def DF (m : Bool) (ctx : Ctx) (vs : List AV) (dfs : List ADef) (K : Bool → List ADef → Prop) : Prop := DEFR m ctx vs dfs (K dirty)
@[congr] theorem DF_congr {m m' : Bool} {ctx : Ctx} {vs vs' : List AV} {dfs : List ADef} {K : Bool → List ADef → Prop} (hm : m = m') (h : vs = vs') : DF m ctx vs dfs K = DF m' ctx vs' dfs K := by subst hm; subst h; rfl
theorem DF_fn (g f : Nat) (first cap args : List AV) (dfs : List ADef) (K : Bool → List ADef → Prop) : DF true ⟨none, g⟩ (.fn (.func f) first cap :: args) dfs K = K dirty (.fn (.func f) (first ++ (args ++ cap)) :: dfs) := DEFR_fn true g f first cap args dfs _
def GW (m : Bool) (ctx : Ctx) (c : ACode) (st : St) (Q : Post) : Prop := WP AP ctx c st Q
theorem GW_true (AP : AProg) (ctx : Ctx) (c : ACode) (st : St) (Q : Post) : GW AP true ctx c st Q = WP AP ctx c st Q := propext Iff.rfl
def GS (m : Bool) (ctx : Ctx) (l : List AStep) (st : St) (Q : Post) : Prop := WPS AP ctx l st Q

def EVLE (E : Env) (tm : T AV) (l : List AOpd) : Bool → (Bool → List AV → Prop) → Prop := List.rec (motive := fun _ => Bool → (Bool → List AV → Prop) → Prop) (fun g K => K g [])
  (fun x _ ih g K => AOpd.casesOn x (fun t => LK g (lookE E t tm) fun g v => ih g fun g vs => K g (v :: vs)) (fun v => ih g fun g vs => K g (v :: vs)) (fun b => ih g fun g vs => K g (.ptr b 0 :: vs)) (fun f => ih g fun g vs => K g (.fn (.func f) [] [] :: vs))) l
theorem BI_eq {α : Type} {m m' : Bool} {o : Option α} {K : Bool → α → Prop} {K' : α → Prop} (h : ∀ g a, K g a = K' a) : BI m o K = BIND m' o K' := by
  cases o with
  | none => rfl
  | some a => exact h _ a
theorem LK_eq {α : Type} {m m' : Bool} {o : Option α} {K : Bool → α → Prop} {K' : α → Prop} (h : ∀ g a, K g a = K' a) : LK m o K = BIND m' o K' := by
  cases o with
  | none => rfl
  | some a => exact h _ a
theorem BI2_eq {α β : Type} {m m' : Bool} {o : Option (α × β)} {K : Bool → α → β → Prop} {K' : α → β → Prop} (h : ∀ g a b, K g a b = K' a b) : BI2 m o K = BIND2 m' o K' := by
  cases o with
  | none => rfl
  | some a => exact h _ a.1 a.2
theorem EVLE_eq (E : Env) (tm : T AV) : ∀ (xs : List AOpd) (g : Bool) (K : Bool → List AV → Prop) (K' : List AV → Prop), (∀ g vs, K g vs = K' vs) → EVLE E tm xs g K = EVL (setsE E tm) xs K'
  | [], g, K, K', h => h g []
  | .tmp t :: xs, g, K, K', h => by
    show (LK g (lookE E t tm) fun g v => EVLE E tm xs g fun g vs => K g (v :: vs)) = _
    rw [EVL, get_setsE]
    exact LK_eq fun g v => EVLE_eq E tm xs g _ _ fun g vs => h g _
  | .const v :: xs, g, K, K', h => EVLE_eq E tm xs g _ _ fun g vs => h g _
  | .glob v :: xs, g, K, K', h => EVLE_eq E tm xs g _ _ fun g vs => h g _
  | .func v :: xs, g, K, K', h => EVLE_eq E tm xs g _ _ fun g vs => h g _

abbrev KE := Bool → Env → List ADef → Option Chain → AHeap → Prop
def OPE (ctx : Ctx) (dst : Option Nat) (ps : Option (List Nat)) (E : Env) (tm : T AV) (dfs : List ADef) (up : Option Chain) (H : AHeap) (Q : Post) (K : KE) (g : Bool) (vs : List AV) : AOp → Prop
  | .pure f => BI g (f vs) fun g v => K g (putE dst v E) dfs up H
  | .read f => BI g (f vs H) fun g v => K g (putE dst v E) dfs up H
  | .alloc f => BI2 g (f vs) fun g o mk => K g (putE dst (mk H.next) E) dfs up (H.alloc o)
  | .eff f => BI2 g (f vs H) fun g v H => K g (putE dst v E) dfs up H
  | .callF f => CA AP g (.func f) vs H (fun g v H => K g (putE dst v E) dfs up H) (PAN ps (setsE E tm) dfs up Q)
  | .callV => VI g vs fun g f vs => CA AP g f vs H (fun g v H => K g (putE dst v E) dfs up H) (PAN ps (setsE E tm) dfs up Q)
  | .invoke name => IV AP g name vs fun g f vs => CA AP g f vs H (fun g v H => K g (putE dst v E) dfs up H) (PAN ps (setsE E tm) dfs up Q)
  | .recover => match vs with
      | [] => RC g ctx up fun g v up => K g (putE dst v E) dfs up H
      | _ => False
  | .defer => DF g ctx vs dfs fun g dfs => K g (putE dst .undef E) dfs up H
  | .panic => PANICK vs H (PAN ps (setsE E tm) dfs up Q)
theorem OPE_eq {AP : AProg} {ctx : Ctx} {dst : Option Nat} {ps : Option (List Nat)} {E : Env} {tm : T AV} {dfs : List ADef} {up : Option Chain} {H : AHeap} {Q : Post} {K : KE} {K' : St → Prop}
    (hK : ∀ g E dfs up H, K g E dfs up H = K' ⟨setsE E tm, dfs, up, H⟩) (g : Bool) (vs : List AV) (op : AOp) : OPE AP ctx dst ps E tm dfs up H Q K g vs op = OPK AP ctx dst ps ⟨setsE E tm, dfs, up, H⟩ Q K' vs op := by
  cases op with
  | pure f => simp only [OPE, OPK, hK, setsE_putE]; exact BI_eq fun _ _ => rfl
  | read f => simp only [OPE, OPK, hK, setsE_putE]; exact BI_eq fun _ _ => rfl
  | alloc f => simp only [OPE, OPK, hK, setsE_putE]; exact BI2_eq fun _ _ _ => rfl
  | eff f => simp only [OPE, OPK, hK, setsE_putE]; exact BI2_eq fun _ _ _ => rfl
  | callF f => simp only [OPE, OPK, CA, hK, setsE_putE]; rfl
  | callV => simp only [OPE, OPK, VI, CA, hK, setsE_putE]; rfl
  | invoke n => simp only [OPE, OPK, IV, CA, hK, setsE_putE]; rfl
  | recover => cases vs <;> simp only [OPE, OPK, RC, hK, setsE_putE] <;> rfl
  | defer => simp only [OPE, OPK, DF, hK, setsE_putE]; rfl
  | panic => rfl
def CHKE (dst : Option Nat) (E : Env) (tm : T AV) (H : AHeap) (g : Bool) (vs : List AV) : AOp → Prop
  | .read f => match dst with
    | some d => BI g (f vs H) fun g v => BI g (lookE E d tm) fun g v' => v = v'
    | none => False
  | _ => False
theorem CHKE_eq (dst : Option Nat) (E : Env) (tm : T AV) (dfs : List ADef) (up : Option Chain) (H : AHeap) (g : Bool) (vs : List AV) (op : AOp) : CHKE dst E tm H g vs op = CHK dst ⟨setsE E tm, dfs, up, H⟩ vs op := by
  cases op with
  | read f =>
    cases dst with
    | none => rfl
    | some d =>
      simp only [CHKE, CHK, get_setsE]
      exact BI_eq fun g a => BI_eq fun g b => rfl
  | _ => rfl
def STEPE (ctx : Ctx) (s : AStep) (E : Env) (tm : T AV) (dfs : List ADef) (up : Option Chain) (H : AHeap) (Q : Post) (K : KE) (g : Bool) : Prop :=
  match s.chk with
  | false => match s.guard with
    | none => EVLE E tm s.args g fun g vs => OPE AP ctx s.dst s.psafe E tm dfs up H Q K g vs s.op
    | some q => BI g (wantV q.2 (lookE E q.1 tm)) fun g w => IG g w (fun g => EVLE E tm s.args g fun g vs => OPE AP ctx s.dst s.psafe E tm dfs up H Q K g vs s.op) (fun g => K g (putE s.dst .undef E) dfs up H)
  | true => match s.guard with
    | none => EVLE E tm s.args g fun g vs => CHKE s.dst E tm H g vs s.op ∧ K g E dfs up H
    | some q => BI g (wantV q.2 (lookE E q.1 tm)) fun g w => IG g w (fun g => EVLE E tm s.args g fun g vs => CHKE s.dst E tm H g vs s.op ∧ K g E dfs up H) (fun g => s.dst.isSome = true ∧ K g E dfs up H)
theorem IG_eq {m m' q : Bool} {A B : Bool → Prop} {A' B' : Prop} (h1 : ∀ g, A g = A') (h2 : ∀ g, B g = B') : IG m q A B = IFB m' q A' B' := by
  cases q with
  | true => exact h1 _
  | false => exact h2 _
theorem STEPE_eq {AP : AProg} {ctx : Ctx} {s : AStep} {E : Env} {tm : T AV} {dfs : List ADef} {up : Option Chain} {H : AHeap} {Q : Post} {K : KE} {K' : St → Prop}
    (hK : ∀ g E dfs up H, K g E dfs up H = K' ⟨setsE E tm, dfs, up, H⟩) (g : Bool) : STEPE AP ctx s E tm dfs up H Q K g = STEP AP ctx s ⟨setsE E tm, dfs, up, H⟩ Q K' := by
  obtain ⟨chk, dst, guard, args, op, ps⟩ := s
  cases chk with
  | false =>
    cases guard with
    | none => exact EVLE_eq E tm args g _ _ fun g vs => OPE_eq hK g vs op
    | some q =>
      simp only [STEPE, STEP, get_setsE]
      exact BI_eq fun g w => IG_eq (fun g => EVLE_eq E tm args g _ _ fun g vs => OPE_eq hK g vs op) (fun g => by rw [hK, setsE_putE])
  | true =>
    cases guard with
    | none => exact EVLE_eq E tm args g _ _ fun g vs => by rw [CHKE_eq _ _ _ dfs up, hK]
    | some q =>
      simp only [STEPE, STEP, get_setsE]
      exact BI_eq fun g w => IG_eq (fun g => EVLE_eq E tm args g _ _ fun g vs => by rw [CHKE_eq _ _ _ dfs up, hK]) (fun g => by rw [hK])
def WPSE (ctx : Ctx) (tm : T AV) (Q : Post) (l : List AStep) : KE := List.rec (motive := fun _ => KE) (fun g E dfs up H => GO g Q .normal ⟨setsE E tm, dfs, up, H⟩) (fun s _ ih g E dfs up H => STEPE AP ctx s E tm dfs up H Q ih g) l
theorem WPSE_eq (ctx : Ctx) (tm : T AV) (Q : Post) : ∀ (l : List AStep) (g : Bool) (E : Env) (dfs : List ADef) (up : Option Chain) (H : AHeap), WPSE AP ctx tm Q l g E dfs up H = WPS AP ctx l ⟨setsE E tm, dfs, up, H⟩ Q
  | [], g, E, dfs, up, H => rfl
  | s :: rest, g, E, dfs, up, H => by rw [WPS_cons]; exact STEPE_eq (fun g E dfs up H => WPSE_eq ctx tm Q rest g E dfs up H) g
theorem WPS_shallow {AP : AProg} {ctx : Ctx} {tm : T AV} {dfs : List ADef} {up : Option Chain} {H : AHeap} {Q : Post} {l : List AStep} {R : Prop} (h : WPSE AP ctx tm Q l dirty [] dfs up H = R) : GS AP true ctx l ⟨tm, dfs, up, H⟩ Q = R :=
  (WPSE_eq AP ctx tm Q l dirty [] dfs up H).symm.trans h
/-- the first part of a region -/
def WPSP (ctx : Ctx) (tm : T AV) (Q : Post) (tail : List AStep) (l : List AStep) : KE := List.rec (motive := fun _ => KE) (fun g E dfs up H => GS AP g ctx tail ⟨setsE E tm, dfs, up, H⟩ Q) (fun s _ ih g E dfs up H => STEPE AP ctx s E tm dfs up H Q ih g) l
theorem WPSP_eq (ctx : Ctx) (tm : T AV) (Q : Post) (tail : List AStep) : ∀ (l : List AStep) (g : Bool) (E : Env) (dfs : List ADef) (up : Option Chain) (H : AHeap), WPSP AP ctx tm Q tail l g E dfs up H = WPS AP ctx (l ++ tail) ⟨setsE E tm, dfs, up, H⟩ Q
  | [], g, E, dfs, up, H => rfl
  | s :: rest, g, E, dfs, up, H => by rw [List.cons_append, WPS_cons]; exact STEPE_eq (fun g E dfs up H => WPSP_eq ctx tm Q tail rest g E dfs up H) g
theorem WPS_part {AP : AProg} {ctx : Ctx} {tm : T AV} {dfs : List ADef} {up : Option Chain} {H : AHeap} {Q : Post} {l tail : List AStep} {R : Prop} (h : WPSP AP ctx tm Q tail l dirty [] dfs up H = R) : GS AP true ctx (l ++ tail) ⟨tm, dfs, up, H⟩ Q = R :=
  (WPSP_eq AP ctx tm Q tail l dirty [] dfs up H).symm.trans h
/-! ### code -/
theorem Gxregion (ctx : Ctx) (st : St) (Q : Post) (l : List AStep) : WP AP ctx (.region l) st Q = GS AP dirty ctx l st Q := propext Iff.rfl
theorem Gxrseq (ctx : Ctx) (st : St) (Q : Post) (l : List AStep) (b : ACode) : WP AP ctx (.seq (.region l) b) st Q = GS AP dirty ctx l st (SEQ (WP AP ctx b) Q) := propext Iff.rfl
theorem Gxcond (ctx : Ctx) (st : St) (Q : Post) (t : Nat) (a b : ACode) : WP AP ctx (.cond (.tmp t) a b) st Q = BI dirty (st.tm.get t) fun g v => BI g (asBool v) fun g q => IG g q (fun g => GW AP g ctx a st Q) (fun g => GW AP g ctx b st Q) := by
  rw [WP_cond]; simp only [EVO]
  refine Eq.symm ?_
  refine BI_eq fun g v => ?_
  refine BI_eq fun g q => ?_
  exact IG_eq (fun _ => rfl) fun _ => rfl
theorem Gxcondc (ctx : Ctx) (st : St) (Q : Post) (v : AV) (a b : ACode) : WP AP ctx (.cond (.const v) a b) st Q = BI dirty (asBool v) fun g q => IG g q (fun g => GW AP g ctx a st Q) (fun g => GW AP g ctx b st Q) := by
  rw [WP_cond]; simp only [EVO]
  refine Eq.symm ?_
  refine BI_eq fun g q => ?_
  exact IG_eq (fun _ => rfl) fun _ => rfl
theorem Gxrange (ctx : Ctx) (st : St) (Q : Post) (t : Nat) (k : Nat) : WP AP ctx (.rangeFunc (.tmp t) k) st Q = BI dirty (st.tm.get t) fun g v => RNG AP ctx k st Q v := by
  rw [WP_range]; simp only [EVO]
  refine Eq.symm ?_
  exact BI_eq fun g v => rfl
theorem Gxrangec (ctx : Ctx) (st : St) (Q : Post) (v : AV) (k : Nat) : WP AP ctx (.rangeFunc (.const v) k) st Q = RNG AP ctx k st Q v := propext Iff.rfl
end
end Go.Am
