/- A REGION THAT DRAWS ITS ORDER: the whole. -/
import Derived.Test.YtjhjdlebhljcaaaGreatDoorAmDraw3
namespace Go.Am
set_option linter.unusedVariables false
set_option linter.unusedSimpArgs false

section
variable {P : Program} {rt : RT} {nt : Nat} {ops : Array Oper} {l : List (List AOpd × AOp)} {plan : List (Bool × Nat)} {sts : Nat → St} {M : Nat}
  {base : Nat} {D0 : Nat → Prop} {θ0 : Th} {w0 : World} {cs0 : List Frame} {b : Frame}

theorem clsOf_eff {aop : AOp} (h : clsOf aop ≠ .pure ∧ clsOf aop ≠ .read ∧ clsOf aop ≠ .alloc) : clsOf aop = .eff := by
  cases aop <;> first | rfl | (exfalso; simp [clsOf] at h)

/-- what an allocation made -/
theorem RG.made (R : RG P rt nt ops l plan sts M) {p j : Nat} (hp : plan[p]? = some (false, j)) (hpM : p < M) (hcl : (planI ops l).cls j = .alloc) (hlt : (sts p).H.next < (sts (p + 1)).H.next) : ∃ ob, (sts (p + 1)).H.get (sts p).H.next = some ob := by
  obtain ⟨s, o, ca, ho, hco, hla, hsg, hsc, hsd, hsa, hso, hrel⟩ := R.at hp hpM
  have hcls : (planI ops l).cls j = clsOf ca.2 := by simp [planI, clsAt, hla]
  rw [hcls] at hcl
  cases hrel with
  | look hc => rw [hsc] at hc; cases hc
  | skip hc hw hst => rw [hst] at hlt; exact absurd hlt (Nat.lt_irrefl _)
  | run hc hw vs v d u H' he hop hst =>
    rw [hso] at hop
    cases hca : ca.2 with
    | alloc f =>
      rw [hca] at hop
      simp only [opR, Option.bind_eq_some_iff, Option.some.injEq, OpRes.val.injEq] at hop
      obtain ⟨⟨ob, mk⟩, _, _, rfl, rfl, rfl⟩ := hop
      exact ⟨ob, by rw [hst]; simp only [AHeap.get_alloc, if_true]⟩
    | _ => rw [hca] at hcl; cases hcl

set_option maxHeartbeats 1000000 in
/-- one operation of the order that is drawn -/
theorem draw_step (R : RG P rt nt ops l plan sts M) (hP : PGood P) (hcall : CallSound P base rt.call) (hround : RoundSound P base rt.round) (hAP : rt.AP = cProg P) {S : List Nat} {q : Nat} {X : AHeap} {θ : Th} {a : Act} {w : World} {cs : List Frame}
    (hI : Inv P base D0 θ0 w0 cs0 b nt rt.ctx.round ops l plan sts M S q X θ a w cs) {i p : Nat} (hp : plan[p]? = some (false, i)) (hpM : p < M) (hiS : i ∉ S) (hanc : ∀ j, ((planI ops l).anc i).testBit j = true → j ∈ S) {n : Nat} (hfr : Fresh D0 (sts 0).H.next n)
    (hMn : (sts M).H.next ≤ n) (hend : M = plan.length ∨ ∃ j, plan[M]? = some (false, j)) (h0 : ∀ x o, (sts 0).H.get x = some o → D0 x) {k : List Item} {rest : List Nat} :
    ∃ q' X' θ' a' w' cs', Steps P (lone (b.atR a (.inRegion ops (i :: rest) :: k)) cs w) (lone (b.atR a' (.inRegion ops rest :: k)) cs' w') ∧ Inv P base D0 θ0 w0 cs0 b nt rt.ctx.round ops l plan sts M (S ++ [i]) q' X' θ' a' w' cs' := by
  obtain ⟨s, o, ca, ho, hco, hla, hsg, hsc, hsd, hsa, hso, hrel⟩ := R.at hp hpM
  obtain ⟨xs, hxs, hok, hdef⟩ := oper_ok hP hco
  obtain ⟨hwant, hopd⟩ := names_R R hI hp (by omega) hiS hanc ho hla hsa hsg
  have hcls : (planI ops l).cls i = clsOf ca.2 := by simp [planI, clsAt, hla]
  have hsn := DS.snoc (D0 := D0) R (S := S) hp hpM
  have hnle : (sts (p + 1)).H.next ≤ n := Nat.le_trans (R.ext (p := p + 1) (p' := M) hpM (Nat.le_refl _)).1 hMn
  have hfresh := DS.fresh R (S := S) hp (by omega) hiS hfr (m := (sts (p + 1)).H.next) hnle (fun _ => Nat.le_refl _)
  -- no block bears a number that is to come
  have hnone : ∀ p1 p2 : Nat, p1 ≤ p2 → p2 < M → (sts p2).H.next < (sts (p2 + 1)).H.next → (sts p1).H.get (sts p2).H.next = none := by
    intro p1 p2 h1 h2 h3
    cases hg : (sts p1).H.get (sts p2).H.next with
    | none => rfl
    | some o' =>
      exfalso
      have e0 := (R.ext (p := 0) (p' := p2) (by omega) (by omega)).1
      have e1 := (R.ext (p := p1) (p' := p2) h1 (by omega)).1
      have e2 := (R.ext (p := p2 + 1) (p' := M) h2 (Nat.le_refl _)).1
      rcases (R.ext (p := 0) (p' := p1) (by omega) (by omega)).2 _ _ hg with ⟨o'', ho'', _⟩ | ⟨_, h8, _⟩
      · exact hfr _ e0 (by omega) (h0 _ _ ho'')
      · omega
  cases hrel with
  | look hc => rw [hsc] at hc; cases hc
  | skip hc hw hst =>
    have hwf := hwant hw
    have hsk := stepR_op_skip (P := P) (b := b) (a := a) (k := k) (cs := cs) (w := w) (ops := ops) (i := i) (rest := rest) (by simp [ho, hwf])
    rw [ho] at hsk
    have hDS : DS D0 plan sts M (S ++ [i]) = DS D0 plan sts M S := by rw [hsn, hst]; exact Up.none
    by_cases hce : (planI ops l).cls i = .eff
    · obtain ⟨k1, k2, k3⟩ := heap_sub R hI hp (by omega) hiS hanc (eff_next R hI hp hiS hce) (.inr hce)
      have hI2 := hI.stepE R (cs' := cs) (ds := a.defers) hp hpM hiS hanc ho ⟨ca, hla⟩ hce (θ' := θ) (X' := X) (w' := w) (c := undef) (by rw [hDS]; exact hI.heap) hI.grow (fun x o' hx => by rw [hst] at hx; exact k3 x o' hx)
        (fun j p' hj hj2 hj3 hj4 hj5 hj6 o' ho' => hI.covA j p' hj hj2 hj3 (by have := eff_next R hI hp hiS hce; omega) hj5 hj6 o' ho') (Ag.refl _ _) (by rw [hDS, hst]; simp only; rw [k1]; exact hI.dfs) (by rw [hDS, hst]; simp only; rw [k2]; exact hI.up)
        (by rw [hst]; simp only; rw [k2]; exact hI.upS) hI.upTo (fun d v hd hv => by
          rw [hst, hsd, hd] at hv
          simp only [putD, T.get_set, if_true, Option.some.injEq] at hv
          subst hv; exact .undef)
      exact ⟨_, _, _, _, _, _, .one hsk, hI2⟩
    · have hI2 := hI.step R hp hpM hiS hanc ho ⟨ca, hla⟩ hce (θ' := θ) (X' := X) (w' := w) (c := undef) (by rw [hDS]; exact hI.heap) hI.grow (fun x o' _ hx => hx) (Ag.refl _ _) (fun _ hlt => by rw [hst] at hlt; exact absurd hlt (Nat.lt_irrefl _))
        (fun d v hd hv => by
          rw [hst, hsd, hd] at hv
          simp only [putD, T.get_set, if_true, Option.some.injEq] at hv
          subst hv; exact .undef)
      exact ⟨_, _, _, _, _, _, .one hsk, hI2⟩
  | run hc hw vs v d u H' he hop hst =>
    have hwt := hwant hw
    have hv := hopd hxs he
    rw [hso] at hop
    have hval : ∀ (x : AV), (∀ dd v', o.dst = some dd → (sts (p + 1)).tm.get dd = some v' → v' = v) := by
      intro _ dd v' hd hv'
      rw [hst, hsd, hd] at hv'
      simp only [putD, T.get_set, if_true, Option.some.injEq] at hv'
      exact hv'.symm
    have hnd : ca.2 ≠ .defer → ca.2 ≠ .pure Op.fail → o.semAt b.roundOf a.eval = execOp a.eval o := fun q1 q2 => Oper.semAt_eq _ _ _ (by
      rcases hdef with h | h | h
      · exact h
      · exact absurd h q1
      · exact absurd h q2)
    by_cases hce : clsOf ca.2 = .eff
    · -- an effect
      have hce' : (planI ops l).cls i = .eff := by rw [hcls]; exact hce
      have hqp := eff_next R hI hp hiS hce'
      obtain ⟨k1, k2, k3⟩ := heap_sub R hI hp (by omega) hiS hanc hqp (.inr hce')
      have hstH : (sts (p + 1)).H = H' := by rw [hst]
      have hout := op_sound hP hcall hround hAP hok hdef (rest := rest) (k := k) (st := sts p) (cs := cs) (r := .val v d u H') ho hwt (hI.heap.sub k3) (by rw [k1]; exact hI.dfs) (by rw [k2]; exact hI.up) hI.round hv hop (by rw [hstH] at hfresh; exact hfresh)
      obtain ⟨θ', w', c, cs', ds, g1, g2, g3, g4, g5, g6, g7, g8⟩ := hout
      have hext : Ext (sts p).H H' := by rw [← hstH]; exact R.mono p hpM
      have hDS : DS D0 plan sts M (S ++ [i]) = Up (DS D0 plan sts M S) (sts p).H.next H'.next := by rw [hsn, hstH]
      -- what was made ahead of its time
      let Q : Nat → Prop := fun p' => p + 1 ≤ p' ∧ ∃ j, j ∈ S ∧ plan[p']? = some (false, j) ∧ (planI ops l).cls j = .alloc ∧ (sts p').H.next < (sts (p' + 1)).H.next
      let E : List Nat := ((List.range M).filter (fun p' => @decide (Q p') (Classical.propDecidable _))).map (fun p' => (sts p').H.next)
      have hEm : ∀ x, x ∈ E ↔ ∃ p', p' < M ∧ Q p' ∧ x = (sts p').H.next := by
        intro x
        simp only [E, List.mem_map, List.mem_filter, List.mem_range, decide_eq_true_eq]
        constructor
        · rintro ⟨p', ⟨h1, h2⟩, rfl⟩; exact ⟨p', h1, h2, rfl⟩
        · rintro ⟨p', h1, h2, rfl⟩; exact ⟨p', ⟨h1, h2⟩, rfl⟩
      have hE : ∀ x ∈ E, (sts p).H.get x = none ∧ ∀ o, X.get x = some o → own o = true := by
        intro x hx
        obtain ⟨p', h1, ⟨h2, j, h3, h4, h5, h6⟩, rfl⟩ := (hEm x).1 hx
        refine ⟨hnone p p' (by omega) h1 h6, fun o' ho' => ?_⟩
        obtain ⟨ob, hob⟩ := R.made h4 h1 h5 h6
        have := hI.covA j p' h3 h4 h5 (by omega) h1 h6 ob hob
        rw [ho'] at this; injection this with this; subst this
        rcases (R.mono p' h1).2 _ _ hob with ⟨o'', ho'', _⟩ | ⟨_, _, h9⟩
        · rw [hnone p' p' (Nat.le_refl _) h1 h6] at ho''; cases ho''
        · exact h9
      have hn0 : (sts 0).H.next ≤ H'.next := by rw [← hstH]; exact (R.ext (p := 0) (p' := p + 1) (by omega) hpM).1
      obtain ⟨f1, f2⟩ := hI.heap.frame hI.grow (fun x hx => .inl hx) k3 g2 g3 hext Up.of hn0 E hE
      rw [← hDS] at f1
      have hnotE : ∀ x o', H'.get x = some o' → x ∉ E := by
        intro x o' hx hxE
        obtain ⟨p', h1, ⟨h2, j, h3, h4, h5, h6⟩, rfl⟩ := (hEm x).1 hxE
        have := hnone (p + 1) p' h2 h1 h6
        rw [hstH, hx] at this; cases this
      have hI2 := hI.stepE R (cs' := cs') (ds := ds) hp hpM hiS hanc ho ⟨ca, hla⟩ hce' (θ' := θ') (X' := overH X E H') (w' := w') (c := c) f1 f2
        (fun x o' hx => by
          rw [hstH] at hx
          rw [overH_get, if_neg (fun q => hnotE x o' hx q.1)]; exact hx)
        (fun j p' hj hj2 hj3 hj4 hj5 hj6 o' ho' => by
          have hX := hI.covA j p' hj hj2 hj3 (by omega) hj5 hj6 o' ho'
          rw [overH_get, if_pos ⟨(hEm _).2 ⟨p', hj5, ⟨hj4, j, hj, hj2, hj3, hj6⟩, rfl⟩, by rw [hX]; rfl⟩]
          exact hX)
        g3.ag (by rw [hDS, hst]; exact g5) (by rw [hDS, hst]; exact g7) (by rw [hst]; exact (g6.trans (by rw [k2])).trans hI.upS) (UpTo.trans hI.upS hI.upTo (by rw [← k2]; exact g8))
        (fun dd v' hd hv' => by rw [hDS, hval v dd v' hd hv']; exact g4)
      exact ⟨_, _, _, _, _, _, g1, hI2⟩
    · have hnce : (planI ops l).cls i ≠ .eff := by rw [hcls]; exact hce
      cases hca : ca.2 with
      | pure f =>
        rw [hca] at hop hok hnd
        simp only [opR, Option.bind_eq_some_iff, Option.some.injEq, OpRes.val.injEq] at hop
        obtain ⟨v', h1, rfl, rfl, rfl, rfl⟩ := hop
        have hDS : DS D0 plan sts M (S ++ [i]) = DS D0 plan sts M S := by rw [hsn, hst]; exact Up.none
        obtain ⟨c, g1, g2⟩ := hok (DS D0 plan sts M S) θ a.eval w vs v' (rho_act a) hv h1
        have hsem := hnd (by intro q; cases q) (by intro q; injection q with q; subst q; cases h1)
        have hI2 := hI.step R hp hpM hiS hanc ho ⟨ca, hla⟩ hnce (θ' := θ) (X' := X) (w' := w) (c := c) (by rw [hDS]; exact hI.heap) hI.grow (fun x o' _ hx => hx) (Ag.refl _ _) (fun _ hlt => by rw [hst] at hlt; exact absurd hlt (Nat.lt_irrefl _))
          (fun dd v'' hd hv' => by rw [hDS, hval v' dd v'' hd hv']; exact g2)
        refine ⟨_, _, _, _, _, _, .one ?_, hI2⟩
        rcases g1 with g1 | ⟨g1, rfl⟩
        · exact at_value ho hwt (by rw [hsem]; exact g1)
        · exact at_skip ho hwt (by rw [hsem]; exact g1)
      | read f =>
        have hop0 := hop
        rw [hca] at hop hok hnd
        simp only [opR, Option.bind_eq_some_iff, Option.some.injEq, OpRes.val.injEq] at hop
        obtain ⟨v', h1, rfl, rfl, rfl, rfl⟩ := hop
        have hDS : DS D0 plan sts M (S ++ [i]) = DS D0 plan sts M S := by rw [hsn, hst]; exact Up.none
        obtain ⟨Hr, r1, r2⟩ := read_now R hI hp hpM hiS hanc hend ho hla hsd hsa hso hsg hca hw he h1 hst
        obtain ⟨c, g1, g2⟩ := hok base (DS D0 plan sts M S) θ Hr a.eval w vs v' (hI.heap.sub r1) hv r2
        have hsem := hnd (by intro q; cases q) (by intro q; cases q)
        have hI2 := hI.step R hp hpM hiS hanc ho ⟨ca, hla⟩ hnce (θ' := θ) (X' := X) (w' := w) (c := c) (by rw [hDS]; exact hI.heap) hI.grow (fun x o' _ hx => hx) (Ag.refl _ _) (fun _ hlt => by rw [hst] at hlt; exact absurd hlt (Nat.lt_irrefl _))
          (fun dd v'' hd hv' => by rw [hDS, hval v' dd v'' hd hv']; exact g2)
        refine ⟨_, _, _, _, _, _, .one ?_, hI2⟩
        rcases g1 with g1 | ⟨g1, rfl⟩
        · exact at_value ho hwt (by rw [hsem]; exact g1)
        · exact at_skip ho hwt (by rw [hsem]; exact g1)
      | alloc f =>
        rw [hca] at hop hok hnd
        simp only [opR, Option.bind_eq_some_iff, Option.some.injEq, OpRes.val.injEq] at hop
        obtain ⟨⟨ob, mk⟩, h1, rfl, rfl, rfl, rfl⟩ := hop
        obtain ⟨hown, w1, co, ext, c, g1, g2, g3⟩ := hok.1 (DS D0 plan sts M S) θ a.eval w vs ob mk (rho_act a) hv h1
        have hsem := hnd (by intro q; cases q) (by intro q; cases q)
        have hDS : DS D0 plan sts M (S ++ [i]) = Up (DS D0 plan sts M S) (sts p).H.next ((sts p).H.next + 1) := by rw [hsn, hst]; rfl
        have hn : ¬ DS D0 plan sts M S (sts p).H.next := hfresh _ (Nat.le_refl _) (by rw [hst]; exact Nat.lt_succ_self _)
        have hag := Th.add_ag θ (sts p).H.next w1.heap.size 0 ext hn
        obtain ⟨e1, e2, e3⟩ := Th.add_new θ (sts p).H.next w1.heap.size 0 ext
        obtain ⟨k1, k2⟩ := g3 (Up (DS D0 plan sts M S) (sts p).H.next ((sts p).H.next + 1)) (θ.add (sts p).H.next w1.heap.size 0 ext) (sts p).H.next hag Up.of (.inr ⟨Nat.le_refl _, Nat.lt_succ_self _⟩) (by rw [e1, g2.heap]) e2 e3
        have hX1 : HR P base (DS D0 plan sts M S) θ { X with next := (sts p).H.next } w1 := (HR.draw (w' := w1) hI.heap g2.heap).sub (fun x o hx => hx)
        have hG1 : Grow D0 (sts 0).H θ0 w0 { X with next := (sts p).H.next } θ w :=
          ⟨(R.ext (p := 0) (p' := p) (by omega) (by omega)).1, hI.grow.ag, hI.grow.size, hI.grow.os, hI.grow.tape, hI.grow.output, hI.grow.keep, hI.grow.news⟩
        have hA1 := hX1.alloc (w' := w1.alloc co) (co := co) (k := w1.heap.size) (off := 0) (ext := ext) (o := ob) hn (by rw [alloc_get]; simp) (fun j hj => by rw [alloc_get, if_neg (Nat.ne_of_lt hj)]) (Nat.le_refl _) (by simp) k1
        have hG2 := (hG1.trans (Grow.draw (D := DS D0 plan sts M S) (w := w) (w' := w1) g2.heap g2.os g2.tape g2.output) (fun x hx => .inl hx)).trans (Grow.alloc (w := w1) hX1 hn ob co 0 ext) (fun x hx => .inl hx)
        have hI2 := hI.step R hp hpM hiS hanc ho ⟨ca, hla⟩ hnce (θ' := θ.add (sts p).H.next w1.heap.size 0 ext) (X' := ({ X with next := (sts p).H.next } : AHeap).alloc ob) (w' := w1.alloc co) (c := c) (by rw [hDS]; exact hA1) hG2
          (fun x o' hx1 hx => by
            obtain ⟨_, hx1, _⟩ := hx1
            rw [AHeap.get_alloc, if_neg (fun q => hn (by rw [show (sts p).H.next = x from q]; exact hx1))]
            exact hx)
          hag
          (fun _ _ o' ho' => by
            rw [hst] at ho'
            simp only [AHeap.get_alloc, if_true] at ho' ⊢
            exact ho')
          (fun dd v'' hd hv' => by rw [hDS, hval (mk (sts p).H.next) dd v'' hd hv']; exact k2)
        exact ⟨_, _, _, _, _, _, .one (at_value ho hwt (by rw [hsem]; exact g1)), hI2⟩
      | eff f => rw [hca] at hce; exact absurd rfl hce
      | callF f => rw [hca] at hce; exact absurd rfl hce
      | callV => rw [hca] at hce; exact absurd rfl hce
      | invoke m => rw [hca] at hce; exact absurd rfl hce
      | recover => rw [hca] at hce; exact absurd rfl hce
      | defer => rw [hca] at hce; exact absurd rfl hce
      | panic => rw [hca] at hce; exact absurd rfl hce

theorem DS.nil : DS D0 plan sts M [] = D0 := by
  funext x
  simp only [DS, eq_iff_iff]
  constructor
  · rintro (h | ⟨i, p, h, _⟩)
    · exact h
    · simp at h
  · exact .inl

theorem upToB_mem {i : Nat} : ∀ {l : List (Bool × Nat)} {x : Bool × Nat}, x ∈ upToB i l → ∃ p' : Nat, l[p']? = some x ∧ ∀ u : Nat, u ≤ p' → l[u]? ≠ some (false, i)
  | [], x, h => by simp [upToB] at h
  | (c, j) :: l, x, h => by
    unfold upToB at h
    cases hb : (!c && Nat.beq j i) with
    | true => rw [hb] at h; simp at h
    | false =>
      rw [hb] at h
      simp only [cond_false, List.mem_cons] at h
      have hne : (c, j) ≠ (false, i) := by
        intro e
        injection e with e1 e2
        subst e1; subst e2
        simp at hb
      rcases h with rfl | h
      · exact ⟨0, rfl, fun u hu => by
          obtain rfl : u = 0 := by omega
          simpa using hne⟩
      · obtain ⟨p', h1, h2⟩ := upToB_mem h
        refine ⟨p' + 1, by simpa using h1, fun u hu => ?_⟩
        cases u with
        | zero => simpa using hne
        | succ u => simpa using h2 u (by omega)

/-- the blocks that are placed lie between the first number and the last -/
theorem DS.below (R : RG P rt nt ops l plan sts M) {S : List Nat} {n : Nat} (hn : (sts M).H.next ≤ n) : ∀ x, DS D0 plan sts M S x → Up D0 (sts 0).H.next n x := by
  rintro x (h | ⟨i, p, h1, h2, h3, h4, h5⟩)
  · exact .inl h
  · refine .inr ⟨Nat.le_trans (R.ext (p := 0) (p' := p) (by omega) (by omega)).1 h4, ?_⟩
    have := (R.ext (p := p + 1) (p' := M) h3 (Nat.le_refl _)).1
    omega

/-- fewer blocks -/
theorem Grow.sub {D : Nat → Prop} {H : AHeap} {θ : Th} {w : World} {X : AHeap} {θ' : Th} {w' : World} (g : Grow D H θ w X θ' w') {H' : AHeap} (hn : H.next ≤ H'.next) (hs : ∀ b o, H'.get b = some o → X.get b = some o) : Grow D H θ w H' θ' w' :=
  ⟨hn, g.ag, g.size, g.os, g.tape, g.output, g.keep, fun b o hb => g.news b o (hs b o hb)⟩

/-- the slots that are left -/
theorem tms_end (R : RG P rt nt ops l plan sts M) {rd : Option Nat} {S : List Nat} {q : Nat} {X : AHeap} {θ : Th} {a : Act} {w : World} {cs : List Frame} (hI : Inv P base D0 θ0 w0 cs0 b nt rd ops l plan sts M S q X θ a w cs) {t : Nat}
    (hall : ∀ j u : Nat, u < M → plan[u]? = some (false, j) → dstAt ops j = some t → j ∈ S) : ∀ v, (sts M).tm.get t = some v → ∃ c, a.tmps[t]? = some c ∧ VR (DS D0 plan sts M S) θ v c := by
  obtain ⟨p0, h1, h2, h3, h4⟩ := hI.tms t
  intro v hv
  refine h2 v ?_
  rw [← hv]
  exact (R.kept h1 (Nat.le_refl _) (fun u j hu1 hu2 hj hd => by
    have := h3 j u (hall j u hu2 hj hd) hj hd
    omega)).symm
end

section
variable {P : Program} {rt : RT} {nt : Nat} {ops : Array Oper} {l : List (List AOpd × AOp)} {plan : List (Bool × Nat)} {sts : Nat → St} {M : Nat}
  {base : Nat} {D0 : Nat → Prop} {θ0 : Th} {w0 : World} {cs0 : List Frame} {b : Frame}

/-- all have run -/
theorem draw_end (R : RG P rt nt ops l plan sts M) {S : List Nat} {q : Nat} {X : AHeap} {θ : Th} {a : Act} {w : World} {cs : List Frame} (hI : Inv P base D0 θ0 w0 cs0 b nt rt.ctx.round ops l plan sts M S q X θ a w cs) (hall : ∀ i, i < ops.size → i ∈ S) {k : List Item} {m : Machine}
    (hs : Steps P m (lone (b.atR a k) cs w)) : Out P base D0 θ0 b nt rt.ctx.round k (sts 0) cs0 w0 m .normal (sts M) := by
  have hD := DS.below R (D0 := D0) (S := S) (Nat.le_refl (sts M).H.next)
  obtain ⟨h1, h2, h3⟩ := R.between hI.qle (Nat.le_refl M) (fun u j hu1 hu2 hj hc => by
    have := (hI.effs j u hj hc).2 (hall j (R.good.lt u j hj))
    omega)
  have hsub : ∀ x o, (sts M).H.get x = some o → X.get x = some o := by
    intro x o hx
    rcases h3 x o hx with hx | ⟨j, u, k1, k2, k3, k4, k5, rfl, k7⟩
    · exact hI.cov x o hx
    · exact hI.covA j u (hall j (R.good.lt u j k3)) k3 k4 k1 k2 k5 o k7
  refine ⟨θ, a, w, cs, .normal, StepsIn.of_steps hs, ⟨(hI.heap.sub hsub).up hD, fun t v hv => ?_, hI.size, ?_, ?_, RdR.up (Ag.refl _ _) hD hI.round⟩, hI.grow.sub (R.ext (p := 0) (p' := M) (by omega) (Nat.le_refl _)).1 hsub, trivial, by rw [h2]; exact hI.upS, hI.upTo⟩
  · obtain ⟨c, k1, k2⟩ := tms_end R hI (t := t) (fun j u _ hj _ => hall j (R.good.lt u j hj)) v hv
    exact ⟨c, k1, k2.up (Ag.refl _ _) hD⟩
  · rw [h1]; exact dfsR.up (Ag.refl _ _) hD hI.dfs
  · rw [h2]; exact UpR.up (Ag.refl _ _) hD hI.up

set_option maxHeartbeats 1000000 in
/-- what is left of an order that is drawn -/
theorem draw_rest (R : RG P rt nt ops l plan sts M) (hP : PGood P) (hcall : CallSound P base rt.call) (hround : RoundSound P base rt.round) (hAP : rt.AP = cProg P) (hcm : CallMono rt.call) (hrm : RoundMono rt.round) {steps : List AStep} (hsteps : allSome (plan.map (mkStep ops l (planSafe ops (planI ops l) plan))) = some steps)
    {r : AExit × St} (hends : EndsAt rt steps sts M r) (hfr : Fresh D0 (sts 0).H.next r.2.H.next) (hMn : (sts M).H.next ≤ r.2.H.next) (h0 : ∀ x o, (sts 0).H.get x = some o → D0 x) {L : List Nat} (hL : Order (planI ops l) L) {k : List Item} :
    ∀ (rest S : List Nat), L = S ++ rest → ∀ {q : Nat} {X : AHeap} {θ : Th} {a : Act} {w : World} {cs : List Frame} {m : Machine}, Inv P base D0 θ0 w0 cs0 b nt rt.ctx.round ops l plan sts M S q X θ a w cs → Steps P m (lone (b.atR a (.inRegion ops rest :: k)) cs w) →
      Out P base D0 θ0 b nt rt.ctx.round k (sts 0) cs0 w0 m r.1 r.2 := by
  have hsl : steps.length = plan.length := by have := (allSome_get hsteps).1; simpa using this
  -- where the run ended
  have hend : M = plan.length ∨ ∃ j, plan[M]? = some (false, j) := by
    rcases hends with ⟨h1, _⟩ | ⟨s, vs, c, H', ds, h1, h2, _⟩
    · left; omega
    · right
      have := (allSome_get hsteps).2 _ s h1
      rw [List.getElem?_map, Option.map_eq_some_iff] at this
      obtain ⟨⟨ch, j⟩, h3, h4⟩ := this
      obtain ⟨o, ca, g, _, _, _, rfl⟩ := mkStep_inv h4
      have h2 : ch = false := h2
      subst h2
      exact ⟨j, h3⟩
  intro rest
  induction rest with
  | nil =>
    intro S hLS q X θ a w cs m hI hs
    rw [List.append_nil] at hLS
    have hall : ∀ i, i < ops.size → i ∈ S := fun i hi => hLS ▸ hL.all i hi
    rcases hends with ⟨_, rfl⟩ | ⟨s, vs, c, H', ds, h1, h2, _⟩
    · exact draw_end R hI hall (hs.trans (.one stepR_region_end))
    · exfalso
      rcases hend with h | ⟨j, hj⟩
      · rw [List.getElem?_eq_none (by omega)] at h1; cases h1
      · obtain ⟨p, hp1, hp2⟩ := hI.ran j (hall j (R.good.lt M j hj))
        have := R.good.one _ _ _ hj hp1
        omega
  | cons i rest ih =>
    intro S hLS q X θ a w cs m hI hs
    obtain ⟨hiS, hanc⟩ := hL.anc S i rest hLS
    have hin : i < (planI ops l).n := hL.lt i (by rw [hLS]; simp)
    obtain ⟨p, hp⟩ := R.good.all i hin
    by_cases hpM : p < M
    · obtain ⟨q', X', θ', a', w', cs', g1, g2⟩ := draw_step R hP hcall hround hAP hI hp hpM hiS hanc hfr hMn hend h0 (k := k) (rest := rest)
      exact ih (S ++ [i]) (by rw [hLS]; simp) g2 (hs.trans g1)
    · -- the one that panics
      rcases hends with ⟨h1, _⟩ | ⟨s, vs, c, H', ds, h1, h2, hw, he, hop, hps, rfl⟩
      · have := (List.getElem?_eq_some_iff.1 hp).1
        omega
      · have hsM := (allSome_get hsteps).2 _ s h1
        rw [List.getElem?_map, Option.map_eq_some_iff] at hsM
        obtain ⟨⟨ch, i0⟩, h3, h4⟩ := hsM
        obtain ⟨o, ca, g, ho, hla, hsg, rfl⟩ := mkStep_inv h4
        have h2 : ch = false := h2
        subst h2
        have hi0S : i0 ∉ S := fun h => by
          obtain ⟨p', hp1, hp2⟩ := hI.ran i0 h
          have := R.good.one _ _ _ h3 hp1
          omega
        have hps' : planSafe ops (planI ops l) plan i0 = some ds := hps
        unfold planSafe at hps'
        rcases cond_some hps' with ⟨hsafe, hds⟩ | ⟨_, hds⟩
        · have hii : i = i0 := by
            have := allLt_get hsafe i hin
            simp only [Bool.or_eq_true, Nat.beq_eq] at this
            rcases this with h | h | h
            · exact h
            · exfalso
              rw [bitsOf_bit] at h
              rcases h with h | h
              · simp at h
              · obtain ⟨p', k1, k2⟩ := upToB_mem h
                have := R.good.one _ _ _ hp k1
                subst this
                exact k2 M (by omega) h3
            · exact absurd (hanc i0 h) hi0S
          subst hii
          have hpe := R.good.one _ _ _ hp h3
          subst hpe
          have hco : cOper P o = some ca := by
            have := (allSome_get R.comp).2 _ ca hla
            rw [List.getElem?_map, Array.getElem?_toList, ho] at this
            simpa using this
          obtain ⟨xs, hxs, hok, hdef⟩ := oper_ok hP hco
          obtain ⟨hwant, hopd⟩ := names_R R (s := { chk := false, dst := o.dst, guard := g, args := ca.1, op := ca.2, psafe := planSafe ops (planI ops l) plan i }) hI hp (Nat.le_refl _) hiS hanc ho hla rfl hsg
          have hce : (planI ops l).cls i = .eff := by
            have : (planI ops l).cls i = clsOf ca.2 := by
              have hla' : l[i]? = some ca := hla
              simp [planI, clsAt, hla']
            rw [this]
            have hop' : opR rt (sts p) vs ca.2 = some (.panic c H') := hop
            cases hca : ca.2 with
            | pure f => rw [hca] at hop'; simp only [opR, Option.bind_eq_some_iff, Option.some.injEq, reduceCtorEq, and_false, exists_false] at hop'
            | read f => rw [hca] at hop'; simp only [opR, Option.bind_eq_some_iff, Option.some.injEq, reduceCtorEq, and_false, exists_false] at hop'
            | alloc f => rw [hca] at hop'; simp only [opR, Option.bind_eq_some_iff, Option.some.injEq, reduceCtorEq, and_false, exists_false] at hop'
            | _ => rfl
          have hqp := eff_next R hI hp hiS hce
          obtain ⟨k1, k2, k3⟩ := heap_sub R hI hp (Nat.le_refl _) hiS hanc hqp (.inr hce)
          have hmonoM : (sts p).H.next ≤ H'.next := hMn
          have hfresh := DS.fresh R (S := S) hp (Nat.le_refl _) hiS hfr (m := H'.next) (Nat.le_refl _) (fun h => absurd h (Nat.lt_irrefl _))
          have hout := op_sound hP hcall hround hAP hok hdef (rest := rest) (k := k) (st := sts p) (cs := cs) (r := .panic c H') ho (hwant hw) (hI.heap.sub k3) (by rw [k1]; exact hI.dfs) (by rw [k2]; exact hI.up) hI.round (hopd hxs he) hop hfresh
          obtain ⟨θ', w', ps, todo, g1, g2, g3, g4, g5⟩ := hout
          have hDD : ∀ x, Up (DS D0 plan sts p S) (sts p).H.next H'.next x → Up D0 (sts 0).H.next H'.next x := by
            rintro x (h | ⟨h1, h2⟩)
            · exact DS.below R hmonoM x h
            · exact .inr ⟨Nat.le_trans (R.ext (p := 0) (p' := p) (by omega) (Nat.le_refl _)).1 h1, h2⟩
          have hDS : ∀ x, DS D0 plan sts p S x → Up D0 (sts 0).H.next H'.next x := fun x hx => hDD x (.inl hx)
          have hG := (hI.grow.sub (R.ext (p := 0) (p' := p) (by omega) (Nat.le_refl _)).1 k3).trans g3 (fun x hx => .inl hx)
          refine ⟨θ', a, w', cs, .panic ps, ⟨todo, StepsIn.of_steps (hs.trans g1)⟩, ⟨g2.up hDD, fun t v hv => ?_, hI.size, ?_, ?_, RdR.up g3.ag hDS hI.round⟩, hG, ⟨g4, chainR.up (Ag.refl _ _) hDD g5⟩, ?_, hI.upTo⟩
          · have hv : (forget ds (sts p).tm).get t = some v := hv
            rw [T.get_forget] at hv
            split at hv
            · cases hv
            · rename_i hnt
              obtain ⟨c', k4, k5⟩ := tms_end R hI (t := t) (fun j u hu hj hd => by
                exfalso
                apply hnt
                injection hds with hds
                rw [← hds]
                unfold dstAt at hd
                rw [Option.bind_eq_some_iff] at hd
                obtain ⟨oj, hoj, hd⟩ := hd
                rw [List.mem_filterMap]
                exact ⟨oj, by have := Array.mem_of_getElem? hoj; simpa using this, hd⟩) v hv
              exact ⟨c', k4, k5.up g3.ag hDS⟩
          · show dfsR _ θ' (sts p).dfs a.defers
            rw [k1]; exact dfsR.up g3.ag hDS hI.dfs
          · show UpR _ θ' b.kind (sts p).up cs
            rw [k2]; exact UpR.up g3.ag hDS hI.up
          · show (sts p).up.isSome = (sts 0).up.isSome
            rw [k2]; exact hI.upS
        · cases hds
end

set_option maxHeartbeats 1000000 in
/-- A REGION THAT DRAWS ITS ORDER -/
theorem draw_sound {P : Program} {base : Nat} (hP : PGood P) {rt : RT} (hAP : rt.AP = cProg P) (hcall : CallSound P base rt.call) (hround : RoundSound P base rt.round) (hcm : CallMono rt.call) (hrm : RoundMono rt.round) : DrawSound P base rt := by
  intro nt id ops c hc D0 θ0 b k st a cs w r hS hr hf
  unfold cRegion at hc
  split at hc
  · rename_i hdst
    simp only [Option.bind_eq_some_iff, if_true] at hc
    obtain ⟨l, hl, hc⟩ := hc
    rcases cond_some hc with ⟨hscan, hc⟩ | ⟨_, hc⟩
    · simp only [Option.bind_eq_some_iff, Option.some.injEq] at hc
      obtain ⟨steps, hsteps, rfl⟩ := hc
      generalize planGo (planI ops l).cls (planI ops l).anc ops.size (2 * ops.size) 0 [] = plan at hscan hsteps
      rw [Bool.and_eq_true] at hscan
      have hF : PlanF (planI ops l) plan := planF_of rfl rfl hscan.1 hscan.2
      have hr : (stepsC steps).run rt st = some r := hr
      obtain ⟨sts, M, hs0, hM, hrel, hends⟩ := run_states hr
      have hsl : steps.length = plan.length := by have := (allSome_get hsteps).1; simpa using this
      have hrel' : ∀ p, p < M → ∃ q s o ca g, plan[p]? = some q ∧ ops[q.2]? = some o ∧ cOper P o = some ca ∧ l[q.2]? = some ca ∧ guardOf ops o.guard = some g ∧ s.chk = q.1 ∧ s.dst = o.dst ∧ s.guard = g ∧ s.args = ca.1 ∧ s.op = ca.2 ∧ StepRel rt s (sts p) (sts (p + 1)) := by
        intro p hp
        obtain ⟨s, h1, h2⟩ := hrel p hp
        have := (allSome_get hsteps).2 _ s h1
        rw [List.getElem?_map, Option.map_eq_some_iff] at this
        obtain ⟨q, h3, h4⟩ := this
        obtain ⟨o, ca, g, ho, hla, hsg, rfl⟩ := mkStep_inv h4
        have hco : cOper P o = some ca := by
          have := (allSome_get hl).2 _ ca hla
          rw [List.getElem?_map, Array.getElem?_toList, ho] at this
          simpa using this
        exact ⟨q, _, o, ca, g, h3, ho, hco, hla, hsg, rfl, rfl, rfl, rfl, rfl, h2⟩
      have hmono : ∀ p, p < M → Ext (sts p).H (sts (p + 1)).H := by
        intro p hp
        obtain ⟨q, s, o, ca, g, _, _, hco, _, _, _, _, _, _, hso, h⟩ := hrel' p hp
        obtain ⟨xs, _, hok, _⟩ := oper_ok hP hco
        cases h with
        | skip hc hw h => rw [h]; exact Ext.refl _
        | look hc d hd h hl => rw [h]; exact Ext.refl _
        | run hc hw vs v d u H' he ho h =>
          rw [hso] at ho
          have := opR_ext hcm hrm hok.mono ho
          rw [h]; exact this
      have R : RG P rt nt ops l plan sts M := ⟨hl, hdst, hF, by omega, hrel', hmono⟩
      have hMn : (sts M).H.next ≤ r.2.H.next := by
        rcases hends with ⟨_, rfl⟩ | ⟨s, vs, c, H', ds, h1, _, _, _, hop, _, rfl⟩
        · exact Nat.le_refl _
        · have := (allSome_get hsteps).2 _ s h1
          rw [List.getElem?_map, Option.map_eq_some_iff] at this
          obtain ⟨q, h3, h4⟩ := this
          obtain ⟨o, ca, g, ho, hla, hsg, rfl⟩ := mkStep_inv h4
          have hco : cOper P o = some ca := by
            have := (allSome_get hl).2 _ ca hla
            rw [List.getElem?_map, Array.getElem?_toList, ho] at this
            simpa using this
          obtain ⟨xs, _, hok, _⟩ := oper_ok hP hco
          exact opR_mono hcm hrm hok.mono hop
      have hL := linearise_order (ops := ops) (I := planI ops l) rfl (fun i => rfl) hF (w.tape w.drawn (.order b.fn id))
      have hsched : Region.schedule (P.follows .mixedOrders) ops (w.tape w.drawn (.order b.fn id)) = Region.linearise .any ops (w.tape w.drawn (.order b.fn id)) := by
        rw [hP.mixed]; rfl
      subst hs0
      have hI : Inv P base D0 θ0 w cs b nt rt.ctx.round ops l plan sts M [] 0 (sts 0).H θ0 a { w with drawn := w.drawn + 1 } cs := by
        have hD : DS D0 plan sts M [] = D0 := DS.nil
        refine ⟨by rw [hD]; exact hS.heap.draw rfl, Grow.draw rfl rfl rfl rfl, fun x o hx => hx, fun j p hj => by simp at hj, Nat.zero_le _, fun i p _ _ => by simp, .inl rfl, by rw [hD]; exact hS.dfs, by rw [hD]; exact hS.up, rfl, UpTo.refl hS.up,
          fun t => ⟨0, Nat.zero_le _, fun v hv => by rw [hD]; exact hS.tms t v hv, fun j p hj => by simp at hj, .inl rfl⟩, hS.size, by rw [hD]; exact hS.round, fun i hi => by simp at hi, fun i hi => by simp at hi⟩
      refine draw_rest R hP hcall hround hAP hcm hrm hsteps hends hf hMn (fun x o hx => (hS.heap.obj x o hx).1) hL _ [] rfl hI (.one ?_)
      rw [stepR_region_draw, hsched]; rfl
    · injection hc with hc; subst hc; cases hr
  · cases hc
end Go.Am
