/- CALLS AND ROUNDS. -/
import Derived.Test.YtjhjdlebhljcaaaGreatDoorAmCode
namespace Go.Am
set_option linter.unusedVariables false
set_option linter.unusedSimpArgs false

section
variable {P : Program} {base : Nat}

/-! ### what a frame begins with -/
theorem argsT_get : ∀ (vs : List AV) (i : Nat) (t : T AV) (j : Nat), (argsT i vs t).get j = if i ≤ j ∧ j < i + vs.length then vs[j - i]? else t.get j
  | [], i, t, j => by simp [argsT]; omega
  | v :: vs, i, t, j => by
    rw [argsT, argsT_get vs (i + 1), T.get_set]
    by_cases h1 : i = j
    · subst h1; rw [if_neg (by omega), if_pos rfl, if_pos (by simp)]; simp
    · simp only [h1, if_false, List.length_cons]
      by_cases h2 : i + 1 ≤ j ∧ j < i + 1 + vs.length
      · rw [if_pos h2, if_pos (by omega)]
        obtain ⟨k, rfl⟩ : ∃ k, j = i + 1 + k := ⟨j - (i + 1), by omega⟩
        rw [show i + 1 + k - (i + 1) = k from by omega, show i + 1 + k - i = k + 1 from by omega]
        simp
      · rw [if_neg h2, if_neg (by omega)]

theorem args_R {D : Nat → Prop} {θ : Th} {vs : List AV} {args : Array Value} (h : VRL D θ vs args.toList) (n : Nat) : tmR D θ (argsT 0 vs .nil) (args ++ Array.replicate n undef) := by
  intro t v hv
  rw [argsT_get, T.get_nil] at hv
  split at hv
  · rename_i ht
    rw [Nat.sub_zero] at hv
    obtain ⟨c, h1, h2⟩ := h.of_get hv
    refine ⟨c, ?_, h2⟩
    rw [Array.getElem?_toList] at h1
    rw [Array.getElem?_append_left]
    · exact h1
    · exact (Array.getElem?_eq_some_iff.1 h1).1
  · cases hv

theorem bind_R {D : Nat → Prop} {θ : Th} : ∀ {ps : List Nat} {vs : List AV} {cs : List Value} {tm tm1 : T AV} {a : Array Value}, bindParams tm ps vs = some tm1 → VRL D θ vs cs → (∀ p ∈ ps, p < a.size) → tmR D θ tm a →
    cs.length = ps.length ∧ tmR D θ tm1 ((ps.zip cs).foldl (fun tmps (t, x) => tmps.setIfInBounds t x) a) ∧ ((ps.zip cs).foldl (fun tmps (t, x) => tmps.setIfInBounds t x) a).size = a.size
  | [], [], cs, tm, tm1, a, h, hv, hp, ht => by
    injection h with h; subst h
    rw [hv.nil_inv]; exact ⟨rfl, ht, rfl⟩
  | p :: ps, v :: vs, cs, tm, tm1, a, h, hv, hp, ht => by
    obtain ⟨c, cs', rfl, h1, h2⟩ := hv.uncons
    obtain ⟨k1, k2, k3⟩ := bind_R (tm := tm.set p v) (a := a.setIfInBounds p c) h h2 (fun q hq => by simpa using hp q (by simp [hq])) (ht.put (hp p (by simp)) h1)
    refine ⟨by simp [k1], by simpa using k2, ?_⟩
    simp only [List.zip_cons_cons, List.foldl_cons]
    rw [k3]; simp
  | [], _ :: _, _, _, _, _, h, _, _, _ => by cases h
  | _ :: _, [], _, _, _, _, h, _, _, _ => by cases h

/-! ### results -/
def resF (a : Array Value) : ResultVar → Sem Value
  | .tmp t => pure (a.getD t undef)
  | .cell x t => do loadVar t (← asAddr (a.getD x undef))
theorem results_eq (fn : Func) (a : Array Value) : results fn a = (do let vs ← fn.results.mapM (resF a); pure (if h : vs.size = 1 then vs[0] else .tuple vs)) := rfl

theorem readRes1_run {D : Nat → Prop} {θ : Th} {H : AHeap} {w : World} (hh : HR P base D θ H w) {tm : T AV} {a : Array Value} (ht : tmR D θ tm a) {r : ResultVar} {rs : List ResultVar} {ar : ARes} {ars : List ARes}
    (hc : cRes P (r :: rs) = some (ar :: ars)) {v : AV} (hv : readRes1 H tm ar = some v) : cRes P rs = some ars ∧ ∃ c, (resF a r).run P w = .ok c w ∧ VR D θ v c := by
  cases r with
  | tmp t =>
    simp only [cRes, Option.bind_eq_some_iff, Option.some.injEq, List.cons.injEq] at hc
    obtain ⟨l, hl, rfl, rfl⟩ := hc
    obtain ⟨c, h1, h2⟩ := ht t v hv
    exact ⟨hl, c, by simp [resF, h1], h2⟩
  | cell x t =>
    simp only [cRes, Option.bind_eq_some_iff, Option.some.injEq, List.cons.injEq] at hc
    obtain ⟨n, hn, l, hl, rfl, rfl⟩ := hc
    refine ⟨hl, ?_⟩
    obtain ⟨g1, g2⟩ := isAgg_of (w := w) hn
    cases n with
    | none =>
      simp only [readRes1, Option.bind_eq_some_iff] at hv
      obtain ⟨u, hu, hv⟩ := hv
      split at hv
      · rename_i b o
        obtain ⟨c, h1, h2⟩ := ht x _ hu
        obtain ⟨c', k1, k2⟩ := hh.load1 hv
        have hc1 : a.getD x undef = .pointer (some ⟨θ.blk b, θ.off b + o, none⟩) := by
          have := h2.now; simp only [conc] at this
          simp [Array.getD_eq_getD_getElem?, h1, ← this]
        exact ⟨c', by simp only [resF, hc1, asAddr, Sem.run_bind, Sem.run_pure, Result.andThen_ok, loadVar, g1, Option.isSome_none, Bool.false_eq_true, if_false, k1], k2⟩
      · cases hv
    | some n =>
      simp only [readRes1, Option.bind_eq_some_iff] at hv
      obtain ⟨u, hu, hv⟩ := hv
      split at hv
      · rename_i b o
        obtain ⟨c, h1, h2⟩ := ht x _ hu
        simp only [Option.bind_eq_some_iff, Option.some.injEq] at hv
        obtain ⟨l', hl', rfl⟩ := hv
        obtain ⟨c', k1, k2, _⟩ := hh.loadN hl'
        have hc1 : a.getD x undef = .pointer (some ⟨θ.blk b, θ.off b + o, none⟩) := by
          have := h2.now; simp only [conc] at this
          simp [Array.getD_eq_getD_getElem?, h1, ← this]
        exact ⟨.agg c'.toArray, by simp only [resF, hc1, asAddr, Sem.run_bind, Sem.run_pure, Result.andThen_ok, loadVar, g1, Option.isSome_some, if_true, g2 n rfl, k1], .agg k2⟩
      · cases hv

theorem readRes_run {D : Nat → Prop} {θ : Th} {H : AHeap} {w : World} (hh : HR P base D θ H w) {tm : T AV} {a : Array Value} (ht : tmR D θ tm a) : ∀ {rs : List ResultVar} {ars : List ARes}, cRes P rs = some ars → ∀ {vs : List AV}, readRes H tm ars = some vs →
    ∃ cs : List Value, (rs.mapM (resF a)).run P w = .ok cs w ∧ VRL D θ vs cs
  | [], ars, hc, vs, hv => by
    injection hc with hc; subst hc
    injection hv with hv; subst hv
    exact ⟨[], by simp, .nil⟩
  | r :: rs, ars, hc, vs, hv => by
    obtain ⟨ar, ars', rfl⟩ : ∃ x l, ars = x :: l := by
      cases r <;> (simp only [cRes, Option.bind_eq_some_iff, Option.some.injEq] at hc) <;> grind
    simp only [readRes, Option.bind_eq_some_iff, Option.some.injEq] at hv
    obtain ⟨v, h1, vs', h2, rfl⟩ := hv
    obtain ⟨hl, c, k1, k2⟩ := readRes1_run hh ht hc h1
    obtain ⟨cs, k3, k4⟩ := readRes_run hh ht hl h2
    refine ⟨c :: cs, ?_, .cons k2 k4⟩
    rw [List.mapM_cons]
    simp only [Sem.run_bind, k1, Result.andThen_ok, k3, Sem.run_pure]

theorem results_run {D : Nat → Prop} {θ : Th} {H : AHeap} {w : World} (hh : HR P base D θ H w) {tm : T AV} {a : Array Value} (ht : tmR D θ tm a) {fn : Func} {ars : List ARes} (hc : cRes P fn.results.toList = some ars) {vs : List AV} (hv : readRes H tm ars = some vs) :
    ∃ c, (results fn a).run P w = .ok c w ∧ VR D θ (tupled vs) c := by
  obtain ⟨cs, h1, h2⟩ := readRes_run hh ht hc hv
  have hl := h2.length
  rw [results_eq, Array.mapM_eq_mapM_toList]
  simp only [map_eq_pure_bind, bind_assoc, Sem.run_bind]
  refine ⟨if h : cs.toArray.size = 1 then cs.toArray[0] else .tuple cs.toArray, ?_, ?_⟩
  · rw [h1]
    simp
  · cases vs with
    | nil => rw [h2.nil_inv]; exact .tuple .nil
    | cons v vs =>
      cases vs with
      | nil =>
        obtain ⟨c, cs', rfl, k1, k2⟩ := h2.uncons
        rw [k2.nil_inv]
        exact k1
      | cons v' vs =>
        have : ¬ cs.toArray.size = 1 := by simp at hl ⊢; omega
        rw [dif_neg this]
        exact .tuple h2

/-! ### behind a body -/
def mR (D : Nat → Prop) (θ : Th) : Option Chain → FrameMode → Prop
  | none, .returning => True
  | some c, .panicking ps => c ≠ [] ∧ chainR D θ c ps
  | _, _ => False

theorem step_collected {fr : Frame} {cs : List Frame} {w : World} {r : Nat} {ds : List Deferred} (hm : fr.mode ≠ .run) (hd : fr.defers = { target := .collected r, args := #[] } :: ds) (h : w.heap[r]? = some (.deferred (some []))) :
    step P (lone fr cs w) = .next (lone { fr with defers := ds } cs (wset w r (.deferred none))) := by
  refine step_lone_go ?_
  have ht := run_takeDeferred (P := P) h
  cases hmode : fr.mode with
  | run => exact absurd hmode hm
  | returning => simp [stepG, unwind, hmode, hd, Sem.runT_eq, ht]; rfl
  | panicking ch => simp [stepG, unwind, hmode, hd, Sem.runT_eq, ht]; rfl

theorem settle_R {D : Nat → Prop} {θ : Th} {m : Option Chain} {up : Chain} {m' : Option Chain} (h : settleA m up = some m') {u : FrameMode} (hu : modeR D θ up u) : mR D θ m' (settle u) := by
  have hdrop : ∀ {c : Chain} {ps : List PanicEntry}, chainR D θ c ps → ps.dropWhile (!·.goexit) = [] := by
    intro c
    induction c with
    | nil => intro ps h; cases ps with
      | nil => rfl
      | cons _ _ => exact h.elim
    | cons e es ih =>
      intro ps h
      cases ps with
      | nil => rfl
      | cons p ps =>
        obtain ⟨⟨_, _, h3⟩, h4⟩ := h
        simp [List.dropWhile_cons, h3, ih h4]
  unfold settleA at h
  split at h
  · injection h with h; subst h
    cases u with
    | run => exact hu.elim
    | returning => trivial
    | panicking ps => exact absurd rfl hu.1
  · injection h with h; subst h
    cases u with
    | run => exact hu.elim
    | returning => cases hu
    | panicking ps =>
      obtain ⟨_, hu⟩ := hu
      cases ps with
      | nil => exact hu.elim
      | cons p ps =>
        obtain ⟨⟨h1, h2, h3⟩, h4⟩ := hu
        obtain ⟨pv, pr, pg⟩ := p
        simp only at h2 h3
        subst h2; subst h3
        simp only [settle, hdrop h4, mR]
  · injection h with h; subst h
    cases u with
    | run => exact hu.elim
    | returning => cases hu
    | panicking ps =>
      obtain ⟨hne, hu⟩ := hu
      cases ps with
      | nil => exact hu.elim
      | cons p ps =>
        have hu' := hu
        obtain ⟨⟨h1, h2, h3⟩, h4⟩ := hu
        obtain ⟨pv, pr, pg⟩ := p
        simp only at h2 h3
        subst h2; subst h3
        simp only [settle, mR]
        exact ⟨hne, hu'⟩
  · cases h

theorem unwind_sound (hP : PGood P) {call : CallFn} (hcall : CallSound P base call) (hcm : CallMono call) {fn : Func} {rs : List ARes} (hrs : cRes P fn.results.toList = some rs) {tm : T AV} :
    ∀ (ds : List ADef) {m : Option Chain} {D : Nat → Prop} {θ : Th} {H : AHeap} {w : World} {r : AEnd × AHeap} {fr : Frame} {cs : List Frame}, unwindA call rs tm ds m H = some r → HR P base D θ H w → dfsR D θ ds fr.defers → mR D θ m fr.mode → tmR D θ tm fr.tmps →
      P.funcs[fr.fn]? = some fn → Fresh D H.next r.2.next →
      ∃ θ' w' fr' e', Steps P (lone fr cs w) (lone fr' cs w') ∧ fr'.fn = fr.fn ∧ fr'.kind = fr.kind ∧ fr'.going P w' e' ∧ endR (Up D H.next r.2.next) θ' r.1 e' ∧ HR P base (Up D H.next r.2.next) θ' r.2 w' ∧ Grow D H θ w r.2 θ' w'
  | [], m, D, θ, H, w, r, fr, cs, h, hh, hd, hm, ht, hf, hfr => by
    have hds : fr.defers = [] := by
      cases hq : fr.defers with
      | nil => rfl
      | cons _ _ => rw [hq] at hd; exact hd.elim
    cases m with
    | none =>
      simp only [unwindA, Option.bind_eq_some_iff, Option.some.injEq] at h
      obtain ⟨l, hl, rfl⟩ := h
      obtain ⟨c, h1, h2⟩ := results_run hh ht hrs hl
      have hmode : fr.mode = .returning := by
        cases hq : fr.mode <;> rw [hq] at hm <;> first | rfl | exact hm.elim
      exact ⟨θ, w, fr, .returned c, .refl _ _, rfl, rfl, ⟨hmode, hds, fn, hf, h1⟩, by rw [Up.none]; exact h2, by rw [Up.none]; exact hh, .refl _ _ _ _⟩
    | some c =>
      injection h with h; subst h
      cases hq : fr.mode with
      | run => rw [hq] at hm; exact hm.elim
      | returning => rw [hq] at hm; exact hm.elim
      | panicking ps =>
        rw [hq] at hm
        exact ⟨θ, w, fr, .panicked ps, .refl _ _, rfl, rfl, ⟨hq, hds, fn, hf⟩, by rw [Up.none]; exact hm, by rw [Up.none]; exact hh, .refl _ _ _ _⟩
  | .coll b :: ds, m, D, θ, H, w, r, fr, cs, h, hh, hd, hm, ht, hf, hfr => by
    simp only [unwindA] at h
    split at h
    · rename_i hget
      obtain ⟨hDb, co, hco, ds0, rfl, hds0⟩ := hh.obj _ _ hget
      cases ds0 with
      | none => exact hds0.elim
      | some l' =>
        obtain ⟨_, hl'⟩ := hds0
        have hl' : l' = [] := hl'
        subst hl'
        cases hq : fr.defers with
        | nil => rw [hq] at hd; exact hd.elim
        | cons e es =>
          rw [hq] at hd
          obtain ⟨⟨_, he⟩, hd⟩ := hd
          subst he
          have hrun : fr.mode ≠ .run := by intro q; rw [q] at hm; cases m <;> exact hm.elim
          have hst := step_collected (P := P) (cs := cs) hrun hq hco
          have hset := hh.set (o' := .deferred none) (co' := .deferred none) hget rfl rfl ⟨none, rfl, trivial⟩
          have gset : Grow D H θ w (H.set b (.deferred none)) θ (wset w (θ.blk b) (.deferred none)) := Grow.set hget rfl (hh.lt hget)
          obtain ⟨θ', w', fr', e', k1, k2, k3, k4, k5, k6, k7⟩ := unwind_sound hP hcall hcm hrs ds (fr := { fr with defers := es }) (cs := cs) h hset hd hm ht hf hfr
          exact ⟨θ', w', fr', e', .head hst k1, k2, k3, k4, k5, k6, gset.trans k7 (fun _ h => h)⟩
    · cases h
  | .fn (.func f) args :: ds, m, D, θ, H, w, r, fr, cs, h, hh, hd, hm, ht, hf, hfr => by
    simp only [unwindA, Option.bind_eq_some_iff] at h
    obtain ⟨⟨e, u, H1⟩, hc, h⟩ := h
    simp only at h
    cases e with
    | panic _ => cases h
    | ret v =>
      cases u with
      | none => cases h
      | some up' =>
        simp only [Option.bind_eq_some_iff] at h
        obtain ⟨m', hm', h⟩ := h
        have hmono := unwindA_mono hcm h
        have hmono1 := (hcm _ _ _ _ _ _ _ hc).1
        cases hq : fr.defers with
        | nil => rw [hq] at hd; exact hd.elim
        | cons dd es =>
          rw [hq] at hd
          obtain ⟨⟨c, cap, he, h4, h5⟩, hd⟩ := hd
          subst he
          have hrun : fr.mode ≠ .run := by intro q; rw [q] at hm; cases m <;> exact hm.elim
          have hmode : modeR D θ (m.getD []) fr.mode := by
            cases m with
            | none =>
              cases hq2 : fr.mode with
              | run => exact absurd hq2 hrun
              | returning => rfl
              | panicking ps => rw [hq2] at hm; exact hm.elim
            | some ch =>
              cases hq2 : fr.mode with
              | run => exact absurd hq2 hrun
              | returning => rw [hq2] at hm; exact hm.elim
              | panicking ps => rw [hq2] at hm; exact hm
          obtain ⟨⟨fn2, c2, k1, k2⟩, θ', w', cs', fr2, e', s1, s2, s3, s4, s5, s6, s7, s8, s9, s10⟩ := hcall D θ H w f args (c ++ cap) (some (m.getD [])) H1 (.ret v) (some up') .deferred ({ fr with defers := es } :: cs) hh h5 ⟨rfl, hmode⟩ hc (hfr.left hmono)
          obtain ⟨um, rfl⟩ := s9
          have hst := step_defer (P := P) (cs := cs) hrun hq (f := f) (args := c ++ cap) rfl (by
            show (callFunc f (c ++ cap)).run P w = _
            exact run_callFunc hP k1 k2)
          cases e' with
          | panicked _ => exact s5.elim
          | outgrown => exact s5.elim
          | returned cv =>
            have hback := step_going_returned (P := P) (c := { { fr with defers := es } with mode := um }) (cs := cs) s2 s4
            have hm2 := settle_R hm' s10.2
            obtain ⟨θ2, w2, fr3, e3, r1, r2, r3, r4, r5, r6, r7⟩ := unwind_sound hP hcall hcm hrs ds (fr := { { { fr with defers := es } with mode := um } with mode := settle um }) (cs := cs) h s6 (dfsR.up s7.ag Up.of hd) hm2 (ht.up s7.ag Up.of) hf (hfr.right hmono1)
            rw [Up.up hmono1 hmono] at r5 r6
            exact ⟨θ2, w2, fr3, e3, .head hst (s1.trans (.head hback r1)), r2, r3, r4, r5, r6, s7.trans r7 Up.of⟩
  | .fn (.yield _) _ :: _, m, D, θ, H, w, r, fr, cs, h, _, _, _, _, _, _ => by simp [unwindA] at h

/-- A CALL -/
theorem call_sound (hP : PGood P) {call : CallFn} {n : Nat} (hcall : CallSound P base call) (hcm : CallMono call) (hround : RoundSound P base (rounds (cProg P) call n n)) (hrm : RoundMono (rounds (cProg P) call n n))
    (hdraw : ∀ rt : RT, rt.AP = cProg P → CallSound P base rt.call → RoundSound P base rt.round → CallMono rt.call → RoundMono rt.round → DrawSound P base rt) : CallSound P base (stepCall (cProg P) call n) := by
  intro D θ H w f vs args up H' e up' kind cs hh hv hu h hf
  simp only [stepCall, Option.bind_eq_some_iff] at h
  obtain ⟨af, haf, ⟨x, st1⟩, hq, h⟩ := h
  simp only [cProg, Option.bind_eq_some_iff] at haf
  obtain ⟨fn, hfn, haf⟩ := haf
  have haf' := haf
  simp only [cFunc, Option.bind_eq_some_iff, Option.some.injEq] at haf'
  obtain ⟨body, hbody, ⟨ac, L⟩, hac, rs, hrs, rfl⟩ := haf'
  refine ⟨⟨fn, body, hfn, hbody⟩, ?_⟩
  have hfin : ∃ m, (match x with | .normal => m = none | .ret => m = none | .panic c => m = some c | _ => False) ∧ ∃ q, unwindA call rs st1.tm st1.dfs m st1.H = some q ∧ e = q.1 ∧ up' = st1.up ∧ H' = q.2 := by
    unfold endCall at h
    cases x with
    | normal =>
      simp only [Option.bind_eq_some_iff, Option.some.injEq, Prod.mk.injEq] at h
      obtain ⟨q, h1, h2, h3, h4⟩ := h
      exact ⟨none, rfl, q, h1, h2.symm, h3.symm, h4.symm⟩
    | ret =>
      simp only [Option.bind_eq_some_iff, Option.some.injEq, Prod.mk.injEq] at h
      obtain ⟨q, h1, h2, h3, h4⟩ := h
      exact ⟨none, rfl, q, h1, h2.symm, h3.symm, h4.symm⟩
    | panic c =>
      simp only [Option.bind_eq_some_iff, Option.some.injEq, Prod.mk.injEq] at h
      obtain ⟨q, h1, h2, h3, h4⟩ := h
      exact ⟨some c, rfl, q, h1, h2.symm, h3.symm, h4.symm⟩
    | exit _ => cases h
    | goto _ => cases h
  obtain ⟨m, hm, ⟨e1, H1⟩, hun, rfl, rfl, rfl⟩ := hfin
  have hmono2 := unwindA_mono hcm hun
  have hcmn := (code_mono hP body hac).1
  have hmono1 : H.next ≤ st1.H.next := codeC_mono (rt := ⟨cProg P, call, rounds (cProg P) call n n, n, ⟨none, f⟩⟩) hcm hrm hcmn hq
  let b : Frame := { (default : Frame) with fn := f, kind := kind }
  have henter : Frame.enter P f args kind = b.atR { tmps := args ++ Array.replicate (fn.ntmps - args.size) undef, defers := [] } [.code body] := by
    simp [Frame.enter, Frame.atR, hfn, hbody, b]
    rfl
  have hS : SR P base D θ b fn.ntmps none { tm := argsT 0 vs .nil, dfs := [], up := up, H := H } { tmps := args ++ Array.replicate (fn.ntmps - args.size) undef, defers := [] } cs w :=
    ⟨hh, args_R hv _, by simp; omega, trivial, hu, rfl⟩
  have hout := code_sound (rt := ⟨cProg P, call, rounds (cProg P) call n n, n, ⟨none, f⟩⟩) hP hcall hround rfl hcm hrm (hdraw _ rfl hcall hround hcm hrm) hfn haf body hac (fun i l hl => by rw [Nat.zero_add]; exact hl) (b := b) (k := []) hS rfl hq (hf.left hmono2)
  rw [← henter] at hout
  obtain ⟨θ1, a1, w1, cs1, e1', h1, h2, h3, h4, h5, h6⟩ := hout
  -- the frame that unwinds
  obtain ⟨fr, k1, k2, k3, k4, k5, k6⟩ : ∃ fr : Frame, Steps P (lone (Frame.enter P f args kind) cs w) (lone fr cs1 w1) ∧ fr.fn = f ∧ fr.kind = kind ∧ fr.defers = a1.defers ∧ fr.tmps = a1.tmps ∧ mR (Up D H.next st1.H.next) θ1 m fr.mode := by
    cases x with
    | normal =>
      have hm : m = none := hm
      subst hm
      cases e1' <;> try exact h4.elim
      exact ⟨{ b.atR a1 [] with mode := .returning }, (StepsIn.steps h1).trans (.one (stepR_end rfl)), rfl, rfl, rfl, rfl, trivial⟩
    | ret =>
      have hm : m = none := hm
      subst hm
      cases e1' <;> try exact h4.elim
      obtain ⟨todo, hs⟩ := h1.1 rfl
      exact ⟨{ b.atR a1 todo with mode := .returning }, StepsIn.steps hs, rfl, rfl, rfl, rfl, trivial⟩
    | panic c =>
      have hm : m = some c := hm
      subst hm
      cases e1' <;> try exact h4.elim
      rename_i ps
      obtain ⟨todo, hs⟩ := h1
      exact ⟨{ b.atR a1 todo with mode := .panicking ps }, StepsIn.steps hs, rfl, rfl, rfl, rfl, h4⟩
    | exit _ => exact hm.elim
    | goto _ => exact hm.elim
  obtain ⟨θ', w', fr', e', r1, r2, r3, r4, r5, r6, r7⟩ := unwind_sound hP hcall hcm hrs st1.dfs (fr := fr) (cs := cs1) hun h2.heap (by rw [k4]; exact h2.dfs) k6 (by rw [k5]; exact h2.tms) (by rw [k2]; exact hfn) (hf.right hmono1)
  rw [Up.up hmono1 hmono2] at r5 r6
  refine ⟨θ', w', cs1, fr', e', k1.trans r1, r3.trans k3, r2.trans k2, r4, r5, r6, h3.trans r7 Up.of, h5, h6, ?_⟩
  have := UpR.up (D' := Up (Up D H.next st1.H.next) st1.H.next H'.next) r7.ag Up.of h2.up
  rw [Up.up hmono1 hmono2] at this
  exact this

/-- A ROUND -/
theorem round_step (hP : PGood P) {call : CallFn} {m n : Nat} (hcall : CallSound P base call) (hcm : CallMono call) (hround : RoundSound P base (rounds (cProg P) call m n)) (hrm : RoundMono (rounds (cProg P) call m n))
    (hdraw : ∀ rt : RT, rt.AP = cProg P → CallSound P base rt.call → RoundSound P base rt.round → CallMono rt.call → RoundMono rt.round → DrawSound P base rt) : RoundSound P base (rounds (cProg P) call m (n + 1)) := by
  intro D θ H w l vs args H' e c cs hh hv h hf
  simp only [rounds, roundOf] at h
  split at h
  · rename_i ls pd f k tm d hget
    simp only [Option.bind_eq_some_iff] at h
    obtain ⟨af, haf, lp, hlp, tm1, htm1, ⟨x, st1⟩, hq, h⟩ := h
    simp only [cProg, Option.bind_eq_some_iff] at haf
    obtain ⟨fn, hfn, haf⟩ := haf
    obtain ⟨hDl, co, hco, r, rfl, r1, r2, r3, r4, ⟨fn', af', lp', ka, kb, L1, L2, q1, q2, q3, q4, q5, q6, q7, q8, q9, q10⟩, r6, r7⟩ := hh.obj _ _ hget
    have : fn' = fn := by rw [hfn] at q1; injection q1 with q1; exact q1.symm
    subst this
    have : af' = af := by rw [haf] at q2; injection q2 with q2; exact q2.symm
    subst this
    have : lp' = lp := by rw [hlp] at q3; injection q3 with q3; exact q3.symm
    subst this
    rw [q4] at htm1
    obtain ⟨z1, z2, z3⟩ := bind_R htm1 hv (fun p hp => Nat.lt_of_lt_of_le (q5 p hp) q6) r4
    have hsz : args.size = r.params.size := by simpa using z1
    have hzip : (r.params.zip args).foldl (fun tmps (t, x) => tmps.setIfInBounds t x) r.tmps = (r.params.toList.zip args.toList).foldl (fun tmps (t, x) => tmps.setIfInBounds t x) r.tmps := by
      rw [← Array.foldl_toList, Array.toList_zip]
    have hy := run_yield (P := P) (args := args) hco hsz
    refine ⟨r.fn, _, r.assign, r.body, hy, ?_⟩
    rw [hzip]
    generalize (r.params.toList.zip args.toList).foldl (fun tmps (t, x) => tmps.setIfInBounds t x) r.tmps = tmps at z2 z3
    cases x with
    | exit _ => cases h
    | goto _ => cases h
    | ret => cases h
    | panic _ => cases h
    | normal =>
    simp only [Option.bind_eq_some_iff] at h
    obtain ⟨H2, hb, ⟨x2, st2⟩, hq2, h⟩ := h
    rcases cond_some h with ⟨hnd, h⟩ | ⟨_, h⟩
    · have hma := (code_mono hP r.assign q7).1
      have hmb := (code_mono hP r.body q9).1
      have hm1 : H.next ≤ st1.H.next := codeC_mono (rt := ⟨cProg P, call, rounds (cProg P) call m n, m, ⟨some l, f⟩⟩) hcm hrm hma hq
      have hm2 : H2.next ≤ st2.H.next := codeC_mono (rt := ⟨cProg P, call, rounds (cProg P) call m n, m, ⟨some l, f⟩⟩) hcm hrm hmb hq2
      have hbn : H2.next = st1.H.next := beginRound_next hb
      have hend : H'.next = st2.H.next := by
        unfold roundEnd at h
        split at h
        · injection h with h; injection h with _ h; subst h; rfl
        · simp only [Option.bind_eq_some_iff, Option.some.injEq, Prod.mk.injEq] at h
          obtain ⟨H3, h3, _, rfl⟩ := h
          exact setLoop_next h3
      let b : Frame := { (default : Frame) with fn := r.fn, kind := .normal, roundOf := some (θ.blk l) }
      have hb0 : Frame.round (θ.blk l) r.fn tmps r.assign r.body .normal = b.atR { tmps := tmps, defers := [] } [.code r.assign, .beginRound, .code r.body] := by
        simp [Frame.round, Frame.atR, b]
      have hS : SR P base D θ b fn'.ntmps (some l) { tm := tm1, dfs := [], up := none, H := H } { tmps := tmps, defers := [] } (c :: cs) w :=
        ⟨hh, z2, by show fn'.ntmps ≤ tmps.size; omega, trivial, rfl, hDl, rfl⟩
      have hdr := hdraw ⟨cProg P, call, rounds (cProg P) call m n, m, ⟨some l, f⟩⟩ rfl hcall hround hcm hrm
      obtain ⟨θ1, a1, w1, cs1, s1, s2, s3, s4, s5⟩ := (code_sound (rt := ⟨cProg P, call, rounds (cProg P) call m n, m, ⟨some l, f⟩⟩) hP hcall hround rfl hcm hrm hdr hfn haf r.assign q7 q8 (b := b) (k := [.beginRound, .code r.body]) hS r3 hq (hf.left (by show st1.H.next ≤ H'.next; omega))).normal
      rw [← hb0] at s1
      have hcs1 : cs1 = c :: cs := s5
      subst hcs1
      -- the round begins
      have hblk1 : θ1.blk l = θ.blk l := (s3.ag l hDl).1
      unfold beginRound at hb
      split at hb
      · rename_i pd1 f1 k1 tm2 d1 hget1
        injection hb with hb; subst hb
        obtain ⟨hDl1, co1, hco1, rl, rfl, y1, y2, y3, y4, y5, y6, y7⟩ := s2.heap.obj _ _ hget1
        have hset := s2.heap.set (o' := .loop .busy pd1 f1 k1 tm2 d1) (co' := .loop { rl with state := .busy }) hget1 rfl rfl ⟨_, rfl, rfl, y2, y3, y4, y5, y6, y7⟩
        have gset : Grow (Up D H.next st1.H.next) st1.H θ1 w1 (st1.H.set l (.loop .busy pd1 f1 k1 tm2 d1)) θ1 (wset w1 (θ1.blk l) (.loop { rl with state := .busy })) := Grow.set hget1 rfl (s2.heap.lt hget1)
        have hbr := run_beginRound (P := P) hco1 y1
        rw [hblk1] at hbr
        have hst2 := stepR_beginRound (P := P) (b := b) (a := a1) (k := [.code r.body]) (cs := c :: cs) (w := w1) rfl hbr
        have hS2 : SR P base (Up D H.next st1.H.next) θ1 b fn'.ntmps (some l) { st1 with H := st1.H.set l (.loop .busy pd1 f1 k1 tm2 d1) } a1 (c :: cs) (wset w1 (θ1.blk l) (.loop { rl with state := .busy })) :=
          ⟨hset, s2.tms, s2.size, s2.dfs, s2.up, s2.round⟩
        have hf2 : Fresh (Up D H.next st1.H.next) st1.H.next st2.H.next := (hend ▸ hf).right hm1
        obtain ⟨θ2, a2, w2, cs2, e2, v1, v2, v3, v4, v5, v6⟩ := code_sound (rt := ⟨cProg P, call, rounds (cProg P) call m n, m, ⟨some l, f⟩⟩) hP hcall hround rfl hcm hrm hdr hfn haf r.body q9 q10 (b := b) (k := []) hS2 r3 hq2 hf2
        have hcs2 : cs2 = c :: cs := by
          have hu1 : st1.up = none := by
            cases hq3 : st1.up with
            | none => rfl
            | some _ => rw [hq3] at s4; cases s4
          have v6' : UpTo st1.up (c :: cs) cs2 := v6
          rw [hu1] at v6'; exact v6'
        subst hcs2
        have hnx : ({ st1 with H := st1.H.set l (.loop .busy pd1 f1 k1 tm2 d1) } : St).H.next = st1.H.next := rfl
        rw [hnx] at v2 v4
        have hupp : Up (Up D H.next st1.H.next) st1.H.next st2.H.next = Up D H.next H'.next := by rw [Up.up hm1 hm2, hend]
        rw [hupp] at v2 v4
        have gall : Grow D H θ w st2.H θ2 w2 := (s3.trans gset Up.of).trans v3 Up.of
        have hpre : Steps P (lone (Frame.round (θ.blk l) r.fn tmps r.assign r.body .normal) (c :: cs) w) (lone (b.atR a1 [.code r.body]) (c :: cs) (wset w1 (θ1.blk l) (.loop { rl with state := .busy }))) := by
          refine s1.trans (.one ?_)
          rw [hst2, hblk1]; rfl
        have hdfs : a2.defers = [] := by
          have := v2.dfs
          cases hq3 : st2.dfs with
          | nil =>
            rw [hq3] at this
            cases hq4 : a2.defers with
            | nil => rfl
            | cons _ _ => rw [hq4] at this; exact this.elim
          | cons _ _ => simp only [hq3] at hnd; cases hnd
        have hfinish : ∀ (ls : LState) (p : Option AJump), setLoop st2.H l ls p = some H' → (stR ls = if (p.map jumpR).isNone then LoopState.ready else LoopState.done) →
            ∃ w3, (Instr.endRound (θ.blk l) (p.map jumpR)).run P w2 = .ok (.bool (p.map jumpR).isNone) w3 ∧ HR P base (Up D H.next H'.next) θ2 H' w3 ∧ Grow D H θ w H' θ2 w3 := by
          intro ls p hs hls
          unfold setLoop at hs
          split at hs
          · rename_i ls2 pd2 f2 k2 tm3 d2 hget2
            injection hs with hs; subst hs
            obtain ⟨hDl2, co2, hco2, rl2, rfl, y1', y2', y3', y4', y5', y6', y7'⟩ := v2.heap.obj _ _ hget2
            have hblk2 : θ2.blk l = θ.blk l := (gall.ag l hDl).1
            have her := run_endRound (P := P) (p.map jumpR) hco2
            rw [hblk2] at her
            refine ⟨_, her, ?_, ?_⟩
            · have := v2.heap.set (o' := .loop ls p f2 k2 tm3 d2) (co' := .loop { rl2 with state := if (p.map jumpR).isNone then .ready else .done, pending := p.map jumpR }) hget2 rfl rfl ⟨_, rfl, hls.symm, rfl, y3', y4', y5', y6', y7'⟩
              rw [hblk2] at this; exact this
            · have : Grow (Up D H.next (st2.H.set l (.loop ls p f2 k2 tm3 d2)).next) st2.H θ2 w2 (st2.H.set l (.loop ls p f2 k2 tm3 d2)) θ2 (wset w2 (θ2.blk l) (.loop { rl2 with state := if (p.map jumpR).isNone then .ready else .done, pending := p.map jumpR })) := Grow.set hget2 rfl (v2.heap.lt hget2)
              rw [hblk2] at this
              exact gall.trans this Up.of
          · cases hs
        unfold roundEnd at h
        cases x2 with
        | panic ch =>
          injection h with h; injection h with h1 h2; subst h1; subst h2
          cases e2 <;> try exact v4.elim
          rename_i ps
          obtain ⟨todo, hs⟩ := v1
          refine ⟨θ2, w2, c.raise ps, hpre.trans ((StepsIn.steps hs).trans (.one ?_)), ⟨ps, v4.1, v4.2, rfl⟩, v2.heap, gall⟩
          exact step_leave_panicked (fr := { b.atR a2 todo with mode := .panicking ps }) ⟨rfl, hdfs, fn', by show P.funcs[r.fn]? = some fn'; rw [r3]; exact hfn⟩
        | normal =>
          simp only [Option.bind_eq_some_iff, Option.some.injEq, Prod.mk.injEq] at h
          obtain ⟨H3, h3, rfl, rfl⟩ := h
          obtain ⟨w3, g1, g2, g3⟩ := hfinish _ _ h3 rfl
          cases e2 <;> try exact v4.elim
          exact ⟨θ2, w3, _, hpre.trans ((StepsIn.steps v1).trans (.one (stepR_round_end rfl rfl g1))), ⟨_, .bool _, rfl⟩, g2, g3⟩
        | ret =>
          simp only [Option.bind_eq_some_iff, Option.some.injEq, Prod.mk.injEq] at h
          obtain ⟨H3, h3, rfl, rfl⟩ := h
          obtain ⟨w3, g1, g2, g3⟩ := hfinish _ _ h3 rfl
          cases e2 <;> try exact v4.elim
          obtain ⟨k1, hs⟩ := v1.2 rfl
          exact ⟨θ2, w3, _, hpre.trans ((StepsIn.steps hs).trans (.one (stepR_round_ret rfl rfl g1))), ⟨_, .bool _, rfl⟩, g2, g3⟩
        | exit id =>
          simp only [Option.bind_eq_some_iff, Option.some.injEq, Prod.mk.injEq] at h
          obtain ⟨H3, h3, rfl, rfl⟩ := h
          obtain ⟨w3, g1, g2, g3⟩ := hfinish _ _ h3 rfl
          cases e2 <;> try exact v4.elim
          rename_i j
          have v4 : j = id := v4
          subst v4
          obtain ⟨k1, hx, hs⟩ := v1.2 rfl rfl
          exact ⟨θ2, w3, _, hpre.trans ((StepsIn.steps hs).trans (.one (stepR_round_exit rfl rfl hx g1))), ⟨_, .bool _, rfl⟩, g2, g3⟩
        | goto t =>
          simp only [Option.bind_eq_some_iff, Option.some.injEq, Prod.mk.injEq] at h
          obtain ⟨H3, h3, rfl, rfl⟩ := h
          obtain ⟨w3, g1, g2, g3⟩ := hfinish _ _ h3 rfl
          cases e2 <;> try exact v4.elim
          rename_i j
          have v4 : j = t := v4
          subst v4
          obtain ⟨k1, hx, hs⟩ := v1.2 rfl rfl
          exact ⟨θ2, w3, _, hpre.trans ((StepsIn.steps hs).trans (.one (stepR_round_goto rfl rfl hx g1))), ⟨_, .bool _, rfl⟩, g2, g3⟩
      · cases hb
    · cases h
  · cases h

theorem rounds_sound (hP : PGood P) {call : CallFn} {m : Nat} (hcall : CallSound P base call) (hcm : CallMono call)
    (hdraw : ∀ rt : RT, rt.AP = cProg P → CallSound P base rt.call → RoundSound P base rt.round → CallMono rt.call → RoundMono rt.round → DrawSound P base rt) : ∀ n, RoundSound P base (rounds (cProg P) call m n)
  | 0 => by intro D θ H w l vs args H' e c cs _ _ h; cases h
  | n + 1 => round_step hP hcall hcm (rounds_sound hP hcall hcm hdraw n) (rounds_mono (prog_mono hP) hcm m n) hdraw

/-- EVERY CALL -/
theorem acall_sound (hP : PGood P) (hdraw : ∀ rt : RT, rt.AP = cProg P → CallSound P base rt.call → RoundSound P base rt.round → CallMono rt.call → RoundMono rt.round → DrawSound P base rt) : ∀ n, CallSound P base (acall (cProg P) n)
  | 0 => by intro D θ H w f vs args up H' e up' kind cs _ _ _ h; cases h
  | n + 1 => by
    have ih := acall_sound hP hdraw n
    have hm := acall_mono (prog_mono hP) n
    exact call_sound hP ih hm (rounds_sound hP ih hm hdraw n) (rounds_mono (prog_mono hP) hm n n) hdraw

theorem acallT_sound (hP : PGood P) (hdraw : ∀ rt : RT, rt.AP = cProg P → CallSound P base rt.call → RoundSound P base rt.round → CallMono rt.call → RoundMono rt.round → DrawSound P base rt) {told : CallFn} (ht : CallSound P base told) (htm : CallMono told) : ∀ n, CallSound P base (acallT (cProg P) told n)
  | 0 => ht
  | n + 1 => by
    have ih := acallT_sound hP hdraw ht htm n
    have hm := acallT_mono (prog_mono hP) htm n
    have hs := call_sound hP ih hm (rounds_sound hP ih hm hdraw n) (rounds_mono (prog_mono hP) hm n n) hdraw
    intro D θ H w f vs args up H' e up' kind cs hh hv hu h hf
    simp only [acallT] at h
    split at h
    · rename_i r hr
      injection h with h; subst h
      exact ht D θ H w f vs args up _ _ _ kind cs hh hv hu hr hf
    · exact hs D θ H w f vs args up _ _ _ kind cs hh hv hu h hf
end
end Go.Am
