/- LOOPS OVER FUNCTIONS. -/
import Derived.Test.YtkfheegmlgfdoaaAmVal3
namespace Go.Am
set_option linter.unusedVariables false
set_option linter.unusedSimpArgs false

/-! ### what follows -/
theorem EVO_mono {tm : T AV} {x : AOpd} {K K' : AV → Prop} (h : EVO tm x K) (hk : ∀ v, K v → K' v) : EVO tm x K' := by
  obtain ⟨v, h1, h2⟩ := h.elim
  cases x with
  | tmp t => simp only [evO] at h1; simp only [EVO, BIND, h1]; exact hk v h2
  | const c => injection h1 with h1; subst h1; exact hk _ h2
  | glob c => injection h1 with h1; subst h1; exact hk _ h2
  | func c => injection h1 with h1; subst h1; exact hk _ h2
theorem EVL_mono {tm : T AV} : ∀ {l : List AOpd} {K K' : List AV → Prop}, EVL tm l K → (∀ v, K v → K' v) → EVL tm l K'
  | [], K, K', h, hk => hk _ h
  | .tmp t :: xs, K, K', h, hk => by
    simp only [EVL] at h ⊢
    unfold BIND at h ⊢
    split at h
    · exact EVL_mono h fun vs => hk _
    · exact h.elim
  | .const v :: xs, K, K', h, hk => EVL_mono (l := xs) h fun vs => hk _
  | .glob v :: xs, K, K', h, hk => EVL_mono (l := xs) h fun vs => hk _
  | .func v :: xs, K, K', h, hk => EVL_mono (l := xs) h fun vs => hk _
theorem BIND_mono {α : Type} {m : Bool} {o : Option α} {K K' : α → Prop} (h : BIND m o K) (hk : ∀ a, K a → K' a) : BIND m o K' := by
  cases o with
  | none => exact h
  | some a => exact hk a h
theorem BIND2_mono {α β : Type} {m : Bool} {o : Option (α × β)} {K K' : α → β → Prop} (h : BIND2 m o K) (hk : ∀ a b, K a b → K' a b) : BIND2 m o K' := by
  cases o with
  | none => exact h
  | some a => exact hk a.1 a.2 h
section
variable {AP : AProg}
theorem CALLK_mono {m : Bool} {f : AFn} {vs : List AV} {H : AHeap} {K K' : AV → AHeap → Prop} {E E' : Chain → AHeap → Prop} (h : CALLK AP m f vs H K E) (hk : ∀ v H, K v H → K' v H) (he : ∀ c H, E c H → E' c H) : CALLK AP m f vs H K' E' := by
  obtain ⟨e, H', h1, h2⟩ := h
  refine ⟨e, H', h1, ?_⟩
  cases e with
  | ret v => exact hk _ _ h2
  | panic c => exact he _ _ h2
theorem PAN_mono {ps : Option (List Nat)} {tm : T AV} {dfs : List ADef} {up : Option Chain} {Q Q' : Post} (hq : ∀ e st, Q e st → Q' e st) (c : Chain) (H : AHeap) (h : PAN ps tm dfs up Q c H) : PAN ps tm dfs up Q' c H := by
  cases ps with
  | none => exact h
  | some ds => exact hq _ _ h
theorem OPK_mono {ctx : Ctx} {dst : Option Nat} {ps : Option (List Nat)} {st : St} {Q Q' : Post} {K K' : St → Prop} {vs : List AV} {op : AOp} (h : OPK AP ctx dst ps st Q K vs op) (hq : ∀ e st, Q e st → Q' e st) (hk : ∀ st, K st → K' st) : OPK AP ctx dst ps st Q' K' vs op := by
  cases op with
  | pure f => exact BIND_mono (m := dirty) h fun _ => hk _
  | read f => exact BIND_mono (m := dirty) h fun _ => hk _
  | alloc f => simp only [OPK] at h ⊢; exact BIND2_mono h fun _ _ => hk _
  | eff f => simp only [OPK] at h ⊢; exact BIND2_mono h fun _ _ => hk _
  | callF f => exact CALLK_mono (m := dirty) h (fun _ _ => hk _) (PAN_mono hq)
  | callV =>
    simp only [OPK, VIA] at h ⊢
    split at h
    · exact CALLK_mono h (fun _ _ => hk _) (PAN_mono hq)
    · exact CALLK_mono h (fun _ _ => hk _) (PAN_mono hq)
    · exact h.elim
  | invoke n =>
    simp only [OPK, INV] at h ⊢
    split at h
    · exact BIND_mono h fun _ q => CALLK_mono q (fun _ _ => hk _) (PAN_mono hq)
    · exact h.elim
  | recover =>
    simp only [OPK, RECOV] at h ⊢
    split at h
    · refine ⟨h.1, ?_⟩
      have h2 := h.2
      split at h2 <;> exact hk _ h2
    · exact h.elim
  | defer =>
    simp only [OPK, DEFR] at h ⊢
    refine ⟨h.1, ?_⟩
    have h2 := h.2
    split at h2
    · exact hk _ h2
    · exact h2.elim
  | panic =>
    simp only [OPK, PANICK] at h ⊢
    split at h
    · exact PAN_mono hq _ _ h
    · exact h.elim
theorem STEP_mono {ctx : Ctx} {s : AStep} {st : St} {Q Q' : Post} {K K' : St → Prop} (h : STEP AP ctx s st Q K) (hq : ∀ e st, Q e st → Q' e st) (hk : ∀ st, K st → K' st) : STEP AP ctx s st Q' K' := by
  obtain ⟨chk, dst, guard, args, op, ps⟩ := s
  cases chk with
  | false =>
    cases guard with
    | none => exact EVL_mono h fun _ q => OPK_mono q hq hk
    | some g =>
      refine BIND_mono (m := dirty) h fun w q => ?_
      cases w with
      | true => exact EVL_mono (K := _) q fun _ q => OPK_mono q hq hk
      | false => exact hk _ q
  | true =>
    cases guard with
    | none => exact EVL_mono h fun _ q => ⟨q.1, hk _ q.2⟩
    | some g =>
      refine BIND_mono (m := dirty) h fun w q => ?_
      cases w with
      | true => exact EVL_mono (K := _) q fun _ q => ⟨q.1, hk _ q.2⟩
      | false => exact ⟨q.1, hk _ q.2⟩
theorem WPS_mono {ctx : Ctx} : ∀ {l : List AStep} {st : St} {Q Q' : Post}, WPS AP ctx l st Q → (∀ e st, Q e st → Q' e st) → WPS AP ctx l st Q'
  | [], st, Q, Q', h, hq => hq _ _ h
  | s :: rest, st, Q, Q', h, hq => STEP_mono h hq fun st' h' => WPS_mono h' hq
theorem RANGE_mono {ctx : Ctx} {st : St} {k : Nat} {H0 : AHeap} {dfs : List ADef} {d : Nat} {Q Q' : Post} {v : AV} (h : RANGE AP ctx st k H0 dfs d Q v) (hq : ∀ e st, Q e st → Q' e st) : RANGE AP ctx st k H0 dfs d Q' v := by
  unfold RANGE at h ⊢
  split at h
  · obtain ⟨e, H', h1, h2⟩ := h
    refine ⟨e, H', h1, ?_⟩
    cases e with
    | panic c => exact hq _ _ h2
    | ret v => obtain ⟨s, p, f, k, tm, d, q1, q2, q3⟩ := h2; exact ⟨s, p, f, k, tm, d, q1, q2, hq _ _ q3⟩
  · exact h.elim
/-- what follows from what is asked -/
theorem WP_mono {ctx : Ctx} : ∀ {c : ACode} {st : St} {Q Q' : Post}, WP AP ctx c st Q → (∀ e st, Q e st → Q' e st) → WP AP ctx c st Q'
  | .skip, st, Q, Q', h, hq => hq _ _ h
  | .label _, st, Q, Q', h, hq => hq _ _ h
  | .exit _, st, Q, Q', h, hq => hq _ _ h
  | .goto _, st, Q, Q', h, hq => hq _ _ h
  | .ret, st, Q, Q', h, hq => hq _ _ h
  | .stuck, st, Q, Q', h, hq => h.elim
  | .region l, st, Q, Q', h, hq => WPS_mono h hq
  | .seq a b, st, Q, Q', h, hq => WP_mono (c := a) h fun e st' h' => by
    cases e with
    | normal => exact WP_mono (c := b) h' hq
    | exit _ => exact hq _ _ h'
    | goto _ => exact hq _ _ h'
    | ret => exact hq _ _ h'
    | panic _ => exact hq _ _ h'
  | .cond c a b, st, Q, Q', h, hq => EVO_mono h fun v q => BIND_mono (m := dirty) q fun w q => by
    cases w with
    | true => exact WP_mono (c := a) q hq
    | false => exact WP_mono (c := b) q hq
  | .block id b, st, Q, Q', h, hq => WP_mono (c := b) h fun e st' h' => by cases e <;> exact hq _ _ h'
  | .scope b, st, Q, Q', h, hq => WP_mono (c := b) h fun e st' h' => by
    cases e with
    | goto l => exact ⟨h'.1, hq _ _ h'.2⟩
    | normal => exact hq _ _ h'
    | exit _ => exact hq _ _ h'
    | ret => exact hq _ _ h'
    | panic _ => exact hq _ _ h'
  | .loop keep b, st, Q, Q', ⟨I, h0, h⟩, hq => ⟨I, h0, fun n st hi => WP_mono (c := b) (h n st hi) fun e st' h' => by cases e <;> first | exact h' | exact hq _ _ h'⟩
  | .rangeFunc f k, st, Q, Q', h, hq => EVO_mono h fun v q => by
    unfold RNG at q ⊢
    split at q
    · exact RANGE_mono q hq
    · exact BIND_mono (m := dirty) q fun d q => RANGE_mono q hq

/-! ### what a function that is ranged over does -/
/-- it tells `xs`, one after the other, as long as it is told to go on; it leans on what lies at `N` as in `H0` -/
def ITER (AP : AProg) (g : Nat) (pre cap : List AV) (N : Nat → Prop) (H0 : AHeap) (xs : List (List AV)) : Prop :=
  ∀ (L : Nat) (R : Nat → (Nat → Prop) → AHeap → Prop) (S : (Nat → Prop) → AHeap → Prop) (W0 : Nat → Prop) (H : AHeap),
    H0.next ≤ H.next → (∀ b, N b → b < H0.next ∧ H.get b = H0.get b ∧ ¬ W0 b) → R 0 W0 H → (∀ b, W0 b → b < H.next) →
    (∀ i W H H', R i W H → (∀ b, W b → H'.get b = H.get b) → H.next ≤ H'.next → R i W H') → (∀ W H H', S W H → (∀ b, W b → H'.get b = H.get b) → H.next ≤ H'.next → S W H') →
    (∀ (i : Nat) x, xs[i]? = some x → ∀ W H', R i W H' → (∀ b, W b → b < H'.next ∧ (W0 b ∨ H.next ≤ b)) → Fr W0 H H' →
      ∃ bb H'' W', ROUND AP L x H' (.ret (.bool bb)) H'' ∧ Fr W H' H'' ∧ (∀ b, W' b → b < H''.next ∧ (W b ∨ H'.next ≤ b)) ∧ (bb = true → R (i + 1) W' H'') ∧ (bb = false → S W' H'')) →
    ∃ v H' W', CALL AP g (pre ++ (.fn (.yield L) [] [] :: cap)) H (.ret v) H' ∧ Fr W0 H H' ∧ (∀ b, W' b → b < H'.next ∧ (W0 b ∨ H.next ≤ b)) ∧ (R xs.length W' H' ∨ S W' H')

def isJump : AExit → Prop
  | .exit _ => True
  | .goto _ => True
  | .ret => True
  | _ => False

/-- A LOOP OVER A FUNCTION, in a function's own frame -/
theorem rng_rule {f : Nat} {fn : AFunc} {k : Nat} {lp : ALoop} (hf : AP.func f = some fn) (hk : nth fn.loops k = some lp) {tm : T AV} {dfs : List ADef} {up : Option Chain} {H : AHeap} {Q : Post}
    {g : Nat} {pre cap : List AV} {N : Nat → Prop} {H0 : AHeap} {xs : List (List AV)} (hit : ITER AP g pre cap N H0 xs)
    (P : Nat → (Nat → Prop) → AHeap → Prop) (PS : AExit → (Nat → Prop) → AHeap → Prop) (W0 : Nat → Prop)
    (hn : H0.next ≤ H.next) (hN : ∀ b, N b → b < H0.next ∧ H.get b = H0.get b ∧ ¬ W0 b) (hW0 : ∀ b, W0 b → b < H.next) (h0 : P 0 W0 H)
    (loc : ∀ i W H H', P i W H → (∀ b, W b → H'.get b = H.get b) → H.next ≤ H'.next → P i W H') (locS : ∀ e W H H', PS e W H → (∀ b, W b → H'.get b = H.get b) → H.next ≤ H'.next → PS e W H')
    (hbody : ∀ (L d i : Nat) x, xs[i]? = some x → H.next ≤ L → ∀ W H1, P i W H1 → (∀ b, W b → b < H1.next ∧ (W0 b ∨ H.next ≤ b)) → Fr W0 H H1 → ¬ W L → L < H1.next → H1.get L = some (.loop .ready none f k tm d) →
      ∃ tm1, bindParams tm lp.params x = some tm1 ∧ WP AP ⟨some L, f⟩ lp.assign ⟨tm1, [], none, H1⟩ fun e st1 => e = .normal ∧ st1.H.get L = some (.loop .ready none f k tm d) ∧
        WP AP ⟨some L, f⟩ lp.body ⟨st1.tm, st1.dfs, st1.up, st1.H.set L (.loop .busy none f k tm d)⟩ fun e2 st2 => st2.dfs = [] ∧ st2.H.get L = some (.loop .busy none f k tm d) ∧
          ∃ W' : Nat → Prop, (∀ b, W' b → b < st2.H.next ∧ (W b ∨ H1.next ≤ b)) ∧ Fr (fun b => W b ∨ b = L) H1 st2.H ∧ (e2 = .normal ∧ P (i + 1) W' st2.H ∨ isJump e2 ∧ PS e2 W' st2.H))
    (hend : ∀ d W' H', H.next ≤ d → d < H'.next → H'.get d = some (.deferred (some [])) → Fr W0 H H' → (∀ b, W' b → b < H'.next ∧ (W0 b ∨ H.next ≤ b) ∧ b ≠ d) → P xs.length W' H' → Q .normal ⟨tm, .coll d :: dfs, up, H'⟩)
    (hstop : ∀ e d W' H', isJump e → H.next ≤ d → d < H'.next → H'.get d = some (.deferred (some [])) → Fr W0 H H' → (∀ b, W' b → b < H'.next ∧ (W0 b ∨ H.next ≤ b) ∧ b ≠ d) → PS e W' H' → Q e ⟨tm, .coll d :: dfs, up, H'⟩) :
    RNG AP ⟨none, f⟩ k ⟨tm, dfs, up, H⟩ Q (.fn (.func g) pre cap) := by
  let d := H.next
  let L := H.next + 1
  let Hd := H.alloc (.deferred (some []))
  let HL := Hd.alloc (.loop .ready none f k tm d)
  have hHL : HL.next = H.next + 2 := rfl
  have hgL : HL.get L = some (.loop .ready none f k tm d) := get_alloc_new Hd _
  have hgd : HL.get d = some (.deferred (some [])) := by rw [show HL.get d = Hd.get d from get_alloc_lt (by show H.next < H.next + 1; omega) _]; exact get_alloc_new H _
  have hfr0 : Fr Em H HL := ((Fr.refl H).alloc _).alloc _
  have hold : ∀ b, b < H.next → HL.get b = H.get b := fun b hb => hfr0.keep b hb (fun q => q)
  obtain ⟨v, H', W', hc, hfr, hW', hres⟩ := hit L
    (fun i W H' => ∃ V : Nat → Prop, (∀ b, V b → W b) ∧ W L ∧ ¬ V L ∧ ¬ W d ∧ (∀ b, W b → V b ∨ b = L) ∧ P i V H' ∧ H'.get L = some (.loop .ready none f k tm d) ∧ L < H'.next)
    (fun W H' => ∃ (V : Nat → Prop) (e : AExit) (j : AJump), (∀ b, V b → W b) ∧ W L ∧ ¬ V L ∧ ¬ W d ∧ (∀ b, W b → V b ∨ b = L) ∧ isJump e ∧ endOf e = some j ∧ PS e V H' ∧ H'.get L = some (.loop .done (some j) f k tm d) ∧ L < H'.next)
    (fun b => W0 b ∨ b = L) HL (by rw [hHL]; omega)
    (fun b hb => by
      obtain ⟨h1, h2, h3⟩ := hN b hb
      exact ⟨h1, by rw [hold b (by omega)]; exact h2, fun q => q.elim h3 fun q => by have : L = H.next + 1 := rfl; omega⟩)
    ⟨W0, fun b hb => .inl hb, .inr rfl, fun q => by have := hW0 _ q; have : L = H.next + 1 := rfl; omega, fun q => q.elim (fun q => by have := hW0 _ q; have : d = H.next := rfl; omega) fun q => by have : d = H.next := rfl; have : L = H.next + 1 := rfl; omega,
      fun b hb => hb, loc 0 W0 H HL h0 (fun b hb => hold b (hW0 b hb)) (by rw [hHL]; omega), hgL, by rw [hHL]; show H.next + 1 < H.next + 2; omega⟩
    (fun b hb => hb.elim (fun q => by have := hW0 b q; rw [hHL]; omega) fun q => by rw [hHL, q]; show H.next + 1 < H.next + 2; omega)
    (fun i W H1 H2 ⟨V, v1, v2, v3, v4, v5, v6, v7, v8⟩ hs hle => ⟨V, v1, v2, v3, v4, v5, loc i V H1 H2 v6 (fun b hb => hs b (v1 b hb)) hle, by rw [hs L v2]; exact v7, Nat.lt_of_lt_of_le v8 hle⟩)
    (fun W H1 H2 ⟨V, e, j, v1, v2, v3, v4, v5, v6, v7, v8, v9, v10⟩ hs hle => ⟨V, e, j, v1, v2, v3, v4, v5, v6, v7, locS e V H1 H2 v8 (fun b hb => hs b (v1 b hb)) hle, by rw [hs L v2]; exact v9, Nat.lt_of_lt_of_le v10 hle⟩)
    (fun i x hx W H1 ⟨V, v1, v2, v3, v4, v5, v6, v7, v8⟩ hb hfrS => by
      have hLn0 : L = H.next + 1 := rfl
      have hfr1 : Fr W0 H H1 := ⟨Nat.le_trans (by rw [hHL]; omega) hfrS.next, fun b hb hw => by rw [hfrS.keep b (by rw [hHL]; omega) (fun q => q.elim hw fun q => by omega), hold b hb]⟩
      have hbV : ∀ b, V b → b < H1.next ∧ (W0 b ∨ H.next ≤ b) := fun b q => ⟨(hb b (v1 b q)).1, (hb b (v1 b q)).2.elim (fun r => r.elim .inl fun r => by subst r; exact (v3 q).elim) fun r => .inr (by rw [hHL] at r; omega)⟩
      obtain ⟨tm1, hbp, hw⟩ := hbody L d i x hx (by show H.next ≤ H.next + 1; omega) V H1 v6 hbV hfr1 v3 v8 v7
      obtain ⟨e, H2, hr, bb, rfl, W2, k1, k2, k3, k4⟩ := round_of_wp (Q := fun e H2 => ∃ bb, e = .ret (.bool bb) ∧ ∃ W2 : Nat → Prop, Fr W H1 H2 ∧ (∀ b, W2 b → b < H2.next ∧ (W b ∨ H1.next ≤ b)) ∧
          (bb = true → ∃ V : Nat → Prop, (∀ b, V b → W2 b) ∧ W2 L ∧ ¬ V L ∧ ¬ W2 d ∧ (∀ b, W2 b → V b ∨ b = L) ∧ P (i + 1) V H2 ∧ H2.get L = some (.loop .ready none f k tm d) ∧ L < H2.next) ∧
          (bb = false → ∃ (V : Nat → Prop) (e : AExit) (j : AJump), (∀ b, V b → W2 b) ∧ W2 L ∧ ¬ V L ∧ ¬ W2 d ∧ (∀ b, W2 b → V b ∨ b = L) ∧ isJump e ∧ endOf e = some j ∧ PS e V H2 ∧ H2.get L = some (.loop .done (some j) f k tm d) ∧ L < H2.next)) v7 hf hk hbp
        (WP_mono hw fun e st1 ⟨he, hgl, hw2⟩ => by
          subst he
          show BIND dirty (beginRound st1.H L) _
          have : beginRound st1.H L = some (st1.H.set L (.loop .busy none f k tm d)) := by unfold beginRound; rw [hgl]
          rw [this]
          refine WP_mono hw2 fun e2 st2 ⟨hd2, hg2, W', w1, w2, w3⟩ => ⟨hd2, ?_⟩
          have hLn : L < st2.H.next := Nat.lt_of_lt_of_le v8 w2.next
          have hd1 : d < H1.next := by have : d = H.next := rfl; have : L = H.next + 1 := rfl; omega
          have fin : ∀ s p, Fr W H1 (st2.H.set L (.loop s p f k tm d)) := fun s p => ⟨w2.next, fun b hb hw => by
            rw [AHeap.get_set, if_neg (by rintro rfl; exact hw v2)]
            exact w2.keep b hb fun q => q.elim (fun q => hw (v1 b q)) fun q => hw (by rw [q]; exact v2)⟩
          have hW'L : ∀ b, (W' b ∧ b ≠ L) → (st2.H.set L (.loop .ready none f k tm d)).get b = st2.H.get b := fun b hb => by rw [AHeap.get_set, if_neg (fun q => hb.2 q.symm)]
          have hnV : ¬ W' L := fun q => by
            rcases (w1 L q).2 with q | q
            · exact v3 q
            · omega
          have hnd : ¬ W' d := fun q => by
            rcases (w1 d q).2 with q | q
            · exact v4 (v1 d q)
            · omega
          have hdL : d ≠ L := by show H.next ≠ H.next + 1; omega
          have bounds : ∀ b, (W' b ∨ b = L) → b < st2.H.next ∧ (W b ∨ H1.next ≤ b) := fun b hb => hb.elim (fun q => ⟨(w1 b q).1, (w1 b q).2.imp (v1 b) id⟩) fun q => by subst q; exact ⟨hLn, .inl v2⟩
          rcases w3 with ⟨rfl, w3⟩ | ⟨hj, w3⟩
          · show BIND dirty (setLoop st2.H L (cond true .ready .done) none) _
            have : setLoop st2.H L .ready none = some (st2.H.set L (.loop .ready none f k tm d)) := by unfold setLoop; rw [hg2]
            rw [cond_true, this]
            refine ⟨true, rfl, fun b => W' b ∨ b = L, fin _ _, bounds, fun _ => ⟨W', fun b hb => .inl hb, .inr rfl, hnV, fun q => q.elim hnd hdL, fun b hb => hb, loc _ _ _ _ w3 (fun b hb => by rw [AHeap.get_set, if_neg (by rintro rfl; exact hnV hb)]) (Nat.le_refl _), get_set_same _ _ _, hLn⟩, fun h => by cases h⟩
          · obtain ⟨j, hj2⟩ : ∃ j, endOf e2 = some j := by cases e2 <;> first | exact hj.elim | exact ⟨_, rfl⟩
            have hnn : isNormal e2 = false := by cases e2 <;> first | exact hj.elim | rfl
            have hmatch : ∀ (A : Prop), (BIND dirty (setLoop st2.H L (cond (isNormal e2) .ready .done) (endOf e2)) fun H => ∃ bb, (AEnd.ret (.bool (isNormal e2)) = .ret (.bool bb)) ∧ ∃ W2 : Nat → Prop, Fr W H1 H ∧ (∀ b, W2 b → b < H.next ∧ (W b ∨ H1.next ≤ b)) ∧
                (bb = true → ∃ V : Nat → Prop, (∀ b, V b → W2 b) ∧ W2 L ∧ ¬ V L ∧ ¬ W2 d ∧ (∀ b, W2 b → V b ∨ b = L) ∧ P (i + 1) V H ∧ H.get L = some (.loop .ready none f k tm d) ∧ L < H.next) ∧
                (bb = false → ∃ (V : Nat → Prop) (e : AExit) (j : AJump), (∀ b, V b → W2 b) ∧ W2 L ∧ ¬ V L ∧ ¬ W2 d ∧ (∀ b, W2 b → V b ∨ b = L) ∧ isJump e ∧ endOf e = some j ∧ PS e V H ∧ H.get L = some (.loop .done (some j) f k tm d) ∧ L < H.next)) := fun _ => by
              have : setLoop st2.H L .done (some j) = some (st2.H.set L (.loop .done (some j) f k tm d)) := by unfold setLoop; rw [hg2]
              rw [hnn, hj2, cond_false, this]
              refine ⟨false, rfl, fun b => W' b ∨ b = L, fin _ _, bounds, fun h => (by cases h), fun _ => ⟨W', e2, j, fun b hb => .inl hb, .inr rfl, hnV, fun q => q.elim hnd hdL, fun b hb => hb, hj, hj2, locS _ _ _ _ w3 (fun b hb => by rw [AHeap.get_set, if_neg (by rintro rfl; exact hnV hb)]) (Nat.le_refl _), get_set_same _ _ _, hLn⟩⟩
            cases e2 with
            | normal => exact hj.elim
            | panic _ => exact hj.elim
            | exit _ => exact hmatch True
            | goto _ => exact hmatch True
            | ret => exact hmatch True)
      exact ⟨bb, H2, W2, hr, k1, k2, k3, k4⟩)
  have hdL : d ≠ L := by show H.next ≠ H.next + 1; omega
  have hdW : ¬ (W0 d ∨ d = L) := fun q => q.elim (fun q => by have := hW0 _ q; have : d = H.next := rfl; omega) hdL
  have hgd' : H'.get d = some (.deferred (some [])) := by rw [hfr.keep d (by rw [hHL]; show H.next < H.next + 2; omega) hdW]; exact hgd
  have hd' : d < H'.next := Nat.lt_of_lt_of_le (by rw [hHL]; show H.next < H.next + 2; omega) hfr.next
  have hout : ∀ (o : AObj), Fr W0 H (H'.set L o) := fun o => ⟨Nat.le_trans (by rw [hHL]; omega) hfr.next, fun b hb hw => by
    have : L = H.next + 1 := rfl
    rw [AHeap.get_set, if_neg (by omega), hfr.keep b (by rw [hHL]; omega) (fun q => q.elim hw fun q => by omega), hold b hb]⟩
  refine ⟨.ret v, H', hc, ?_⟩
  rcases hres with ⟨V, v1, v2, v3, v4, v5, v6, v7, v8⟩ | ⟨V, e, j, v1, v2, v3, v4, v5, v6, v7, v8, v9, v10⟩
  · refine ⟨.ready, none, f, k, tm, d, v7, by simp, ?_⟩
    refine hend d V _ (Nat.le_refl _) hd' (by rw [AHeap.get_set, if_neg (fun q => hdL q.symm)]; exact hgd') (hout _) (fun b hb => ⟨(hW' b (v1 b hb)).1, ?_, fun q => v4 (by rw [← q]; exact v1 b hb)⟩) (loc _ _ _ _ v6 (fun b hb => by rw [AHeap.get_set, if_neg (by rintro rfl; exact v3 hb)]) (Nat.le_refl _))
    rcases (hW' b (v1 b hb)).2 with q | q
    · exact q.imp id fun q => by subst q; exact (v3 hb).elim
    · rw [hHL] at q; exact .inr (by omega)
  · refine ⟨.done, some j, f, k, tm, d, v9, by simp, ?_⟩
    have he : exitOf (some j) = e := by cases e <;> first | exact v6.elim | (injection v7 with v7; subst v7; rfl)
    rw [he]
    refine hstop e d V _ v6 (Nat.le_refl _) hd' (by rw [AHeap.get_set, if_neg (fun q => hdL q.symm)]; exact hgd') (hout _) (fun b hb => ⟨(hW' b (v1 b hb)).1, ?_, fun q => v4 (by rw [← q]; exact v1 b hb)⟩) (locS _ _ _ _ v8 (fun b hb => by rw [AHeap.get_set, if_neg (by rintro rfl; exact v3 hb)]) (Nat.le_refl _))
    rcases (hW' b (v1 b hb)).2 with q | q
    · exact q.imp id fun q => by subst q; exact (v3 hb).elim
    · rw [hHL] at q; exact .inr (by omega)
end
end Go.Am
