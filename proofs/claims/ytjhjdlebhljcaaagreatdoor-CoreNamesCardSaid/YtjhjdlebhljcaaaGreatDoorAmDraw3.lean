/- A REGION THAT DRAWS ITS ORDER: one operation more. -/
import Derived.Test.YtjhjdlebhljcaaaGreatDoorAmDraw2
namespace Go.Am
set_option linter.unusedVariables false
set_option linter.unusedSimpArgs false

/-- some of X's blocks over H's -/
def overH (X : AHeap) : List Nat → AHeap → AHeap
  | [], H => H
  | x :: l, H => match X.get x with
    | some o => overH X l (H.set x o)
    | none => overH X l H
theorem overH_next (X : AHeap) : ∀ (l : List Nat) (H : AHeap), (overH X l H).next = H.next
  | [], H => rfl
  | x :: l, H => by
    unfold overH
    split
    · rw [overH_next X l]; rfl
    · exact overH_next X l H
theorem overH_get (X : AHeap) : ∀ (l : List Nat) (H : AHeap) (y : Nat), (overH X l H).get y = if y ∈ l ∧ (X.get y).isSome = true then X.get y else H.get y
  | [], H, y => by simp [overH]
  | x :: l, H, y => by
    unfold overH
    split
    · rename_i o ho
      rw [overH_get X l, AHeap.get_set]
      by_cases h1 : y ∈ l ∧ (X.get y).isSome = true
      · rw [if_pos h1, if_pos ⟨by simp [h1.1], h1.2⟩]
      · rw [if_neg h1]
        by_cases h2 : x = y
        · subst h2; rw [if_pos rfl, if_pos ⟨by simp, by rw [ho]; rfl⟩, ho]
        · rw [if_neg h2, if_neg]
          rintro ⟨h3, h4⟩
          rcases List.mem_cons.1 h3 with h3 | h3
          · exact h2 h3.symm
          · exact h1 ⟨h3, h4⟩
    · rename_i ho
      rw [overH_get X l]
      by_cases h1 : y ∈ l ∧ (X.get y).isSome = true
      · rw [if_pos h1, if_pos ⟨by simp [h1.1], h1.2⟩]
      · rw [if_neg h1, if_neg]
        rintro ⟨h3, h4⟩
        rcases List.mem_cons.1 h3 with h3 | h3
        · subst h3; rw [ho] at h4; cases h4
        · exact h1 ⟨h3, h4⟩

/-- the machine ran upon a part of the blocks: the others are as they were -/
theorem HR.frame {P : Program} {base : Nat} {D D0 : Nat → Prop} {θ θ0 : Th} {H0 H X : AHeap} {w w0 : World} {D' : Nat → Prop} {θ' : Th} {H' : AHeap} {w' : World} (hX : HR P base D θ X w) (gX : Grow D0 H0 θ0 w0 X θ w) (h0D : ∀ x, D0 x → D x)
    (hsub : ∀ b o, H.get b = some o → X.get b = some o) (h' : HR P base D' θ' H' w') (g : Grow D H θ w H' θ' w') (hext : Ext H H') (hD : ∀ x, D x → D' x) (hn : H0.next ≤ H'.next) (E : List Nat)
    (hE : ∀ x ∈ E, H.get x = none ∧ ∀ o, X.get x = some o → own o = true) : HR P base D' θ' (overH X E H') w' ∧ Grow D0 H0 θ0 w0 (overH X E H') θ' w' := by
  have hcase : ∀ y o, (overH X E H').get y = some o → (y ∈ E ∧ X.get y = some o) ∨ (H'.get y = some o) := by
    intro y o hy
    rw [overH_get] at hy
    split at hy
    · rename_i h; exact .inl ⟨h.1, hy⟩
    · exact .inr hy
  have hblk : ∀ x o, X.get x = some o → θ'.blk x = θ.blk x := fun x o hx => (g.ag x (hX.obj x o hx).1).1
  refine ⟨⟨fun x o hx => ?_, fun x y ox oy hx hy hox hne => ?_, fun x o hx ho => ?_, h'.glob, h'.low⟩, ⟨by rw [overH_next]; exact hn, gX.ag.trans g.ag h0D, Nat.le_trans gX.size g.size, g.os.trans gX.os, g.tape.trans gX.tape, g.output.trans gX.output, fun k hk hno => ?_, fun x o hx ho hlt => ?_⟩⟩
  · rcases hcase x o hx with ⟨hE1, hx1⟩ | hx1
    · obtain ⟨h1, co, h2, h3⟩ := hX.obj x o hx1
      refine ⟨hD x h1, co, ?_, h3.up h1 g.ag hD⟩
      rw [hblk x o hx1, g.keep _ (hX.lt hx1)]
      · exact h2
      · intro y oy hy hoy e
        have hyX := hsub y oy hy
        refine hX.inj y x oy o hyX hx1 hoy (fun q => ?_) e
        subst q
        rw [(hE y hE1).1] at hy; cases hy
    · exact h'.obj x o hx1
  · rcases hcase x ox hx with ⟨hE1, hx1⟩ | hx1 <;> rcases hcase y oy hy with ⟨hE2, hy1⟩ | hy1
    · rw [hblk x ox hx1, hblk y oy hy1]; exact hX.inj x y ox oy hx1 hy1 hox hne
    · rw [hblk x ox hx1]
      intro e
      rcases hext.2 y oy hy1 with ⟨o'', h1, _⟩ | ⟨h1, h2, h3⟩
      · have hyX := hsub y o'' h1
        rw [hblk y o'' hyX] at e
        exact hX.inj x y ox o'' hx1 hyX hox hne e
      · obtain ⟨b', o', k1, k2, k3⟩ := g.news y oy hy1 h3 (by rw [← e]; exact hX.lt hx1)
        refine hX.inj b' x o' ox (hsub b' o' k1) hx1 k2 (fun q => ?_) (k3.trans e.symm)
        subst q
        rw [(hE b' hE1).1] at k1; cases k1
    · rw [hblk y oy hy1]
      intro e
      obtain ⟨b', o', k1, k2, k3⟩ := g.news x ox hx1 hox (by rw [e]; exact hX.lt hy1)
      refine hX.inj b' y o' oy (hsub b' o' k1) hy1 k2 (fun q => ?_) (k3.trans e)
      subst q
      rw [(hE b' hE2).1] at k1; cases k1
    · exact h'.inj x y ox oy hx1 hy1 hox hne
  · rcases hcase x o hx with ⟨hE1, hx1⟩ | hx1
    · rw [hblk x o hx1]; exact hX.above x o hx1 ho
    · exact h'.above x o hx1 ho
  · rw [g.keep k (Nat.lt_of_lt_of_le hk gX.size)]
    · exact gX.keep k hk hno
    · intro b ob hb hob e
      obtain ⟨b', o', k1, k2, k3⟩ := gX.news b ob (hsub b ob hb) hob (by rw [e]; exact hk)
      exact hno b' o' k1 k2 (k3.trans e)
  · rcases hcase x o hx with ⟨hE1, hx1⟩ | hx1
    · rw [hblk x o hx1] at hlt ⊢
      exact gX.news x o hx1 ho hlt
    · obtain ⟨b', o', k1, k2, k3⟩ := g.news x o hx1 ho (Nat.lt_of_lt_of_le hlt gX.size)
      obtain ⟨b2, o2, k4, k5, k6⟩ := gX.news b' o' (hsub b' o' k1) k2 (by rw [k3]; exact hlt)
      exact ⟨b2, o2, k4, k5, k6.trans k3⟩

section
variable {P : Program} {rt : RT} {nt : Nat} {ops : Array Oper} {l : List (List AOpd × AOp)} {plan : List (Bool × Nat)} {sts : Nat → St} {M : Nat}
  {base : Nat} {D0 : Nat → Prop} {θ0 : Th} {w0 : World} {cs0 : List Frame} {b : Frame}

/-- the blocks of one operation more -/
theorem DS.snoc (R : RG P rt nt ops l plan sts M) {S : List Nat} {i p : Nat} (hp : plan[p]? = some (false, i)) (hpM : p < M) : DS D0 plan sts M (S ++ [i]) = Up (DS D0 plan sts M S) (sts p).H.next (sts (p + 1)).H.next := by
  funext x
  simp only [eq_iff_iff]
  constructor
  · rintro (h | ⟨j, p', h1, h2, h3, h4⟩)
    · exact .inl (.inl h)
    · rcases List.mem_append.1 h1 with h1 | h1
      · exact .inl (.inr ⟨j, p', h1, h2, h3, h4⟩)
      · simp at h1; subst h1
        have := R.good.one _ _ _ hp h2
        subst this
        exact .inr h4
  · rintro (h | h)
    · exact h.app
    · exact .inr ⟨i, p, by simp, hp, hpM, h⟩

/-- its numbers are new -/
theorem DS.fresh (R : RG P rt nt ops l plan sts M) {S : List Nat} {i p : Nat} (hp : plan[p]? = some (false, i)) (hpM : p ≤ M) (hiS : i ∉ S) {n : Nat} (hf : Fresh D0 (sts 0).H.next n) {m : Nat} (hm : m ≤ n)
    (hm2 : p < M → m ≤ (sts (p + 1)).H.next) : Fresh (DS D0 plan sts M S) (sts p).H.next m := by
  intro x h1 h2 h3
  rcases h3 with h3 | ⟨j, p', k1, k2, k3, k4, k5⟩
  · exact hf x (Nat.le_trans (R.ext (Nat.zero_le p) hpM).1 h1) (by omega) h3
  · rcases Nat.lt_trichotomy p p' with h | h | h
    · have e1 := (R.ext (p := p + 1) (p' := p') h (by omega)).1
      have := hm2 (by omega)
      omega
    · subst h
      rw [hp] at k2; injection k2 with k2; injection k2 with _ k2
      exact hiS (k2 ▸ k1)
    · have e1 := (R.ext (p := p' + 1) (p' := p) h hpM).1
      omega

/-- the machine's blocks ahead of a read or an effect are there -/
theorem heap_sub (R : RG P rt nt ops l plan sts M) {rd : Option Nat} {S : List Nat} {q : Nat} {X : AHeap} {θ : Th} {a : Act} {w : World} {cs : List Frame} (hI : Inv P base D0 θ0 w0 cs0 b nt rd ops l plan sts M S q X θ a w cs) {i p : Nat} (hp : plan[p]? = some (false, i)) (hpM : p ≤ M) (hiS : i ∉ S)
    (hanc : ∀ j, ((planI ops l).anc i).testBit j = true → j ∈ S) (hqp : q ≤ p) (hcl : (planI ops l).cls i = .read ∨ (planI ops l).cls i = .eff) :
    (sts p).dfs = (sts q).dfs ∧ (sts p).up = (sts q).up ∧ ∀ x o, (sts p).H.get x = some o → X.get x = some o := by
  obtain ⟨h1, h2, h3⟩ := R.between hqp hpM (fun u j hu1 hu2 hj hc => by
    have := hanc j (R.good.made p i u j hp hcl hj hu2 (.inr hc))
    have := (hI.effs j u hj hc).2 this
    omega)
  refine ⟨h1, h2, fun x o hx => ?_⟩
  rcases h3 x o hx with hx | ⟨j, u, k1, k2, k3, k4, k5, rfl, k7⟩
  · exact hI.cov x o hx
  · exact hI.covA j u (hanc j (R.good.made p i u j hp hcl k3 k2 (.inl k4))) k3 k4 k1 (by omega) k5 o k7

/-- an effect is the next one -/
theorem eff_next (R : RG P rt nt ops l plan sts M) {rd : Option Nat} {S : List Nat} {q : Nat} {X : AHeap} {θ : Th} {a : Act} {w : World} {cs : List Frame} (hI : Inv P base D0 θ0 w0 cs0 b nt rd ops l plan sts M S q X θ a w cs) {i p : Nat} (hp : plan[p]? = some (false, i)) (hiS : i ∉ S)
    (hcl : (planI ops l).cls i = .eff) : q ≤ p := by
  rcases hI.last with h | ⟨e, p1, rfl, h2, h3⟩
  · omega
  · refine Decidable.byContradiction fun hlt => ?_
    have heS := (hI.effs e p1 h2 h3).1 (Nat.lt_succ_self _)
    have hne : p ≠ p1 := fun q => by
      subst q
      rw [hp] at h2; injection h2 with h2; injection h2 with _ h2
      exact hiS (h2 ▸ heS)
    have := R.good.made p1 e p i h2 (.inr h3) hp (by omega) (.inr hcl)
    exact hiS (hI.closed e heS i this)

/-- what a read reads, whenever -/
theorem read_now (R : RG P rt nt ops l plan sts M) {rd : Option Nat} {S : List Nat} {q : Nat} {X : AHeap} {θ : Th} {a : Act} {w : World} {cs : List Frame} (hI : Inv P base D0 θ0 w0 cs0 b nt rd ops l plan sts M S q X θ a w cs) {i p : Nat} (hp : plan[p]? = some (false, i)) (hpM : p < M) (hiS : i ∉ S)
    (hanc : ∀ j, ((planI ops l).anc i).testBit j = true → j ∈ S) (hend : M = plan.length ∨ ∃ j, plan[M]? = some (false, j)) {o : Oper} {ca : List AOpd × AOp} {s : AStep} (ho : ops[i]? = some o) (hla : l[i]? = some ca) (hsd : s.dst = o.dst) (hsa : s.args = ca.1) (hso : s.op = ca.2) (hsg : guardOf ops o.guard = some s.guard)
    {f : List AV → AHeap → Option AV} (hf : ca.2 = .read f) {vs : List AV} {v : AV} (hw : wantedA s (sts p).tm = some true) (he : evL (sts p).tm s.args = some vs) (hv : f vs (sts p).H = some v) (hst : sts (p + 1) = ⟨putD s.dst v (sts p).tm, (sts p).dfs, (sts p).up, (sts p).H⟩) :
    ∃ H, (∀ x o, H.get x = some o → X.get x = some o) ∧ f vs H = some v := by
  have hcl : (planI ops l).cls i = .read := by
    show clsAt l i = .read
    simp [clsAt, hla, hf, clsOf]
  by_cases hqp : q ≤ p
  · exact ⟨(sts p).H, (heap_sub R hI hp (by omega) hiS hanc hqp (.inl hcl)).2.2, hv⟩
  · rcases hI.last with h | ⟨e, p1, rfl, h2, h3⟩
    · omega
    · have heS := (hI.effs e p1 h2 h3).1 (Nat.lt_succ_self _)
      have hne : p ≠ p1 := fun q => by
        subst q
        rw [hp] at h2; injection h2 with h2; injection h2 with _ h2
        exact hiS (h2 ▸ heS)
      have hna : ((planI ops l).anc e).testBit i = false := by
        cases hb : ((planI ops l).anc e).testBit i with
        | false => rfl
        | true => exact absurd (hI.closed e heS i hb) hiS
      obtain ⟨u, k1, k2, k3⟩ := R.good.look p1 e p i h2 h3 hp (by omega) hcl hna
      have huM : u < M := by
        rcases hend with hend | ⟨j, hj⟩
        · have := (List.getElem?_eq_some_iff.1 k2).1
          omega
        · refine Decidable.byContradiction fun hlt => ?_
          obtain ⟨r', hr'⟩ := k3 M (by have := hI.qle; omega) (by omega)
          rw [hj] at hr'; injection hr' with hr'; injection hr' with hr' _; cases hr'
      have hsu : sts u = sts (p1 + 1) := R.stills (q := p1 + 1) (by omega) (by omega) (fun v hv1 hv2 => k3 v (by omega) (by omega))
      obtain ⟨s', o', ca', g1, g2, g3, g4, g5, g6, g7, g8, hr⟩ := R.look k2 huM
      rw [ho] at g1; injection g1 with g1; subst g1
      rw [hla] at g3; injection g3 with g3; subst g3
      have hgd : s'.guard = s.guard := by rw [hsg] at g4; injection g4 with g4; exact g4.symm
      have hin := R.good.lt p i hp
      -- nothing that it names is written between
      have hself := (R.good.again u i k2).2.1
      have hself : selfB ops l i = true := hself
      have hda : dstAt ops i = o.dst := by simp [dstAt, ho]
      have hwr : ∀ t ∈ namesOf ops l i, ∀ x j : Nat, p + 1 ≤ x → x < u → plan[x]? = some (false, j) → dstAt ops j ≠ some t := by
        intro t ht x j hx1 hx2 hj hd
        have hji : j ≠ i := fun e => by
          subst e
          have := R.good.one _ _ _ hp hj
          omega
        have := (R.good.again u i k2).2.2.2 j x hj hx2 hji (ment_dst ht hd)
        obtain ⟨x', hx', hx'2⟩ := R.good.anc p i j hp this
        have := R.good.one _ _ _ hj hx'2
        omega
      have hreads : ∀ t ∈ readsOf ops l i, (sts u).tm.get t = (sts p).tm.get t := by
        intro t ht
        have hnd : o.dst ≠ some t := fun hd => by
          unfold selfB at hself
          rw [hda, hd] at hself
          simp only [Bool.not_eq_true'] at hself
          rw [(hasNat_eq _ _).2 ht] at hself; cases hself
        refine R.kept (by omega) (by omega) (fun x j hx1 hx2 hj hd => ?_)
        by_cases hxp : x = p
        · subst hxp
          rw [hp] at hj; injection hj with hj; injection hj with _ hj
          subst hj
          rw [hda] at hd; exact hnd hd
        · exact hwr t (by unfold namesOf; simp [ht]) x j (by omega) hx2 hj hd
      have hro : readsOf ops l i = (match guardOf ops o.guard with | some (some g) => [g.1] | _ => []) ++ tmpsOf ca.1 := by unfold readsOf; rw [ho, hla]; rfl
      have hw' : wantedA s' (sts u).tm = some true := by
        rw [← hw]
        unfold wantedA
        rw [hgd]
        cases hg : s.guard with
        | none => rfl
        | some g =>
          simp only
          rw [hreads g.1 (by rw [hro, hsg, hg]; simp)]
      have he' : evL (sts u).tm s'.args = some vs := by
        rw [← he, hsa, g7]
        exact evL_congr (fun t ht => hreads t (by rw [hro]; simp [ht]))
      cases hr with
      | skip hc' => rw [g5] at hc'; cases hc'
      | run hc' => rw [g5] at hc'; cases hc'
      | look hc' d hd h hl =>
        rcases hl with hl | ⟨_, vs', hvs', hk⟩
        · rw [hw'] at hl; cases hl
        · rw [he'] at hvs'; injection hvs' with hvs'; subst hvs'
          rw [g8, hf] at hk
          unfold chkOp at hk
          simp only at hk
          split at hk
          · rename_i v1 v2 hv1 hv2
            have hdd : (sts u).tm.get d = some v := by
              have hod : o.dst = some d := by rw [← g6]; exact hd
              rw [R.kept (p := p + 1) (t := d) (by omega) (by omega) (hwr d (by unfold namesOf; rw [hda, hod]; simp))]
              rw [hst, hsd, hod]
              simp only [putD, T.get_set, if_true]
            rw [hdd] at hv2; injection hv2 with hv2; subst hv2
            have := sameV_eq _ _ hk
            subst this
            exact ⟨(sts u).H, fun x o hx => hI.cov x o (by rw [hsu] at hx; exact hx), hv1⟩
          · cases hk

theorem put_tmps (a : Act) (d : Option Nat) (c : Value) : (a.put d c).tmps = (match d with | some d => a.tmps.setIfInBounds d c | none => a.tmps) := by
  cases d <;> rfl
theorem put_defers (a : Act) (d : Option Nat) (c : Value) : (a.put d c).defers = a.defers := by
  cases d <;> rfl

/-- one operation more, no effect -/
theorem Inv.step (R : RG P rt nt ops l plan sts M) {rd : Option Nat} {S : List Nat} {q : Nat} {X : AHeap} {θ : Th} {a : Act} {w : World} {cs : List Frame} (hI : Inv P base D0 θ0 w0 cs0 b nt rd ops l plan sts M S q X θ a w cs) {i p : Nat} (hp : plan[p]? = some (false, i)) (hpM : p < M) (hiS : i ∉ S)
    (hanc : ∀ j, ((planI ops l).anc i).testBit j = true → j ∈ S) {o : Oper} (ho : ops[i]? = some o) (hla : ∃ ca, l[i]? = some ca) (hcl : (planI ops l).cls i ≠ .eff) {θ' : Th} {X' : AHeap} {w' : World} {c : Value}
    (heap' : HR P base (DS D0 plan sts M (S ++ [i])) θ' X' w') (grow' : Grow D0 (sts 0).H θ0 w0 X' θ' w') (hsub : ∀ x o, (∃ d, DS D0 plan sts M S x ∧ X.get x = some d) → X.get x = some o → X'.get x = some o) (hag : Ag (DS D0 plan sts M S) θ θ')
    (hA : (planI ops l).cls i = .alloc → (sts p).H.next < (sts (p + 1)).H.next → ∀ o, (sts (p + 1)).H.get (sts p).H.next = some o → X'.get (sts p).H.next = some o)
    (hval : ∀ d v, o.dst = some d → (sts (p + 1)).tm.get d = some v → VR (DS D0 plan sts M (S ++ [i])) θ' v c) :
    Inv P base D0 θ0 w0 cs0 b nt rd ops l plan sts M (S ++ [i]) q X' θ' (a.put o.dst c) w' cs := by
  have hup : ∀ x, DS D0 plan sts M S x → DS D0 plan sts M (S ++ [i]) x := fun x h => h.app
  have hsub' : ∀ x o, X.get x = some o → X'.get x = some o := fun x o hx => hsub x o ⟨o, (hI.heap.obj x o hx).1, hx⟩ hx
  refine ⟨heap', grow', fun x o hx => hsub' x o (hI.cov x o hx), fun j p' hj hj2 hj3 hj4 hj5 hj6 o' ho' => ?_, hI.qle, fun i' p' hp' hc' => ?_, hI.last, ?_, UpR.up hag hup hI.up, hI.upS, hI.upTo, ?_, ?_, RdR.up hag hup hI.round, fun j hj => ?_, fun j hj j' hj' => ?_⟩
  · rcases List.mem_append.1 hj with hj | hj
    · exact hsub' _ _ (hI.covA j p' hj hj2 hj3 hj4 hj5 hj6 o' ho')
    · simp at hj; subst hj
      have := R.good.one _ _ _ hp hj2
      subst this
      exact hA hj3 hj6 o' ho'
  · rw [hI.effs i' p' hp' hc']
    constructor
    · intro h; simp [h]
    · intro h
      rcases List.mem_append.1 h with h | h
      · exact h
      · simp at h; subst h; exact absurd hc' hcl
  · rw [put_defers]; exact dfsR.up hag hup hI.dfs
  · rw [put_tmps]
    exact hI.tms.put R hag hup hp hpM hanc hiS hI.closed ho hla hI.size hval
  · rw [put_tmps]; have := hI.size; split <;> simpa using this
  · rcases List.mem_append.1 hj with hj | hj
    · exact hI.ran j hj
    · simp at hj; subst hj; exact ⟨p, hp, hpM⟩
  · rcases List.mem_append.1 hj with hj | hj
    · simp [hI.closed j hj j' hj']
    · simp at hj; subst hj; simp [hanc j' hj']

/-- one operation more, an effect -/
theorem Inv.stepE (R : RG P rt nt ops l plan sts M) {rd : Option Nat} {S : List Nat} {q : Nat} {X : AHeap} {θ : Th} {a : Act} {w : World} {cs : List Frame} (hI : Inv P base D0 θ0 w0 cs0 b nt rd ops l plan sts M S q X θ a w cs) {i p : Nat} (hp : plan[p]? = some (false, i)) (hpM : p < M) (hiS : i ∉ S)
    (hanc : ∀ j, ((planI ops l).anc i).testBit j = true → j ∈ S) {o : Oper} (ho : ops[i]? = some o) (hla : ∃ ca, l[i]? = some ca) (hcl : (planI ops l).cls i = .eff) {θ' : Th} {X' : AHeap} {w' : World} {cs' : List Frame} {c : Value} {ds : List Deferred}
    (heap' : HR P base (DS D0 plan sts M (S ++ [i])) θ' X' w') (grow' : Grow D0 (sts 0).H θ0 w0 X' θ' w') (cov' : ∀ x o, (sts (p + 1)).H.get x = some o → X'.get x = some o)
    (covA' : ∀ j p' : Nat, j ∈ S → plan[p']? = some (false, j) → (planI ops l).cls j = .alloc → p + 1 ≤ p' → p' < M → (sts p').H.next < (sts (p' + 1)).H.next → ∀ o, (sts (p' + 1)).H.get (sts p').H.next = some o → X'.get (sts p').H.next = some o)
    (hag : Ag (DS D0 plan sts M S) θ θ') (dfs' : dfsR (DS D0 plan sts M (S ++ [i])) θ' (sts (p + 1)).dfs ds) (up' : UpR (DS D0 plan sts M (S ++ [i])) θ' b.kind (sts (p + 1)).up cs') (upS' : (sts (p + 1)).up.isSome = (sts 0).up.isSome) (upTo' : UpTo (sts 0).up cs0 cs')
    (hval : ∀ d v, o.dst = some d → (sts (p + 1)).tm.get d = some v → VR (DS D0 plan sts M (S ++ [i])) θ' v c) :
    Inv P base D0 θ0 w0 cs0 b nt rd ops l plan sts M (S ++ [i]) (p + 1) X' θ' (({ a with defers := ds } : Act).put o.dst c) w' cs' := by
  have hup : ∀ x, DS D0 plan sts M S x → DS D0 plan sts M (S ++ [i]) x := fun x h => h.app
  have hqp := eff_next R hI hp hiS hcl
  refine ⟨heap', grow', cov', fun j p' hj hj2 hj3 hj4 hj5 hj6 o' ho' => ?_, hpM, fun i' p' hp' hc' => ?_, .inr ⟨i, p, rfl, hp, hcl⟩, ?_, up', upS', upTo', ?_, ?_, RdR.up hag hup hI.round, fun j hj => ?_, fun j hj j' hj' => ?_⟩
  · rcases List.mem_append.1 hj with hj | hj
    · exact covA' j p' hj hj2 hj3 hj4 hj5 hj6 o' ho'
    · simp at hj; subst hj
      have := R.good.one _ _ _ hp hj2
      omega
  · constructor
    · intro h
      by_cases e : p' = p
      · subst e
        rw [hp] at hp'; injection hp' with hp'; injection hp' with _ hp'
        simp [hp']
      · have := hanc i' (R.good.made p i p' i' hp (.inr hcl) hp' (by omega) (.inr hc'))
        simp [this]
    · intro h
      rcases List.mem_append.1 h with h | h
      · have := (hI.effs i' p' hp' hc').2 h
        omega
      · simp at h; subst h
        have := R.good.one _ _ _ hp hp'
        omega
  · rw [put_defers]; exact dfs'
  · rw [put_tmps]
    exact hI.tms.put R hag hup hp hpM hanc hiS hI.closed ho hla hI.size hval
  · rw [put_tmps]; have := hI.size; split <;> simpa using this
  · rcases List.mem_append.1 hj with hj | hj
    · exact hI.ran j hj
    · simp at hj; subst hj; exact ⟨p, hp, hpM⟩
  · rcases List.mem_append.1 hj with hj | hj
    · simp [hI.closed j hj j' hj']
    · simp at hj; subst hj; simp [hanc j' hj']

/-- the operands' values, as the model has them -/
theorem names_R (R : RG P rt nt ops l plan sts M) {rd : Option Nat} {S : List Nat} {q : Nat} {X : AHeap} {θ : Th} {a : Act} {w : World} {cs : List Frame} (hI : Inv P base D0 θ0 w0 cs0 b nt rd ops l plan sts M S q X θ a w cs) {i p : Nat} (hp : plan[p]? = some (false, i)) (hpM : p ≤ M) (hiS : i ∉ S)
    (hanc : ∀ j, ((planI ops l).anc i).testBit j = true → j ∈ S) {o : Oper} {ca : List AOpd × AOp} {s : AStep} (ho : ops[i]? = some o) (hla : l[i]? = some ca) (hsa : s.args = ca.1) (hsg : guardOf ops o.guard = some s.guard) :
    (∀ {wd : Bool}, wantedA s (sts p).tm = some wd → Region.wanted o (yielded ops a.tmps) = wd) ∧
    ∀ {xs : List Operand}, cOpds P.globals.size xs = some ca.1 → ∀ {vs : List AV}, evL (sts p).tm s.args = some vs → VRL (DS D0 plan sts M S) θ vs (xs.map a.eval) := by
  have hro : readsOf ops l i = (match guardOf ops o.guard with | some (some g) => [g.1] | _ => []) ++ tmpsOf ca.1 := by unfold readsOf; rw [ho, hla]; rfl
  have hin : ∀ t ∈ readsOf ops l i, t ∈ namesOf ops l i := fun t ht => by unfold namesOf; simp [ht]
  refine ⟨fun {wd} hw => wanted_at (D := DS D0 plan sts M S) (θ := θ) hsg (fun g hg v hv => ?_) hw, fun {xs} hxs {vs} hvs => ?_⟩
  · exact agree R hI hp hpM hiS hanc (hin g.1 (by rw [hro, hsg, hg]; simp)) v hv
  · rw [hsa] at hvs
    exact evL_at hI.heap (fun t ht v hv => agree R hI hp hpM hiS hanc (hin t (by rw [hro]; simp [ht])) v hv) hxs hvs
end
end Go.Am
