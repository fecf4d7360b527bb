/- MEMORY: what the machine's loads, stores, new blocks are in the model. -/
import Derived.Test.YtjhjdlebhljcaaaGreatDoorAmRel
import Derived.WalkKit
namespace Go.Am
set_option linter.unusedVariables false

theorem addr_add (k o i : Nat) : (⟨k, o, none⟩ : Addr).add i = ⟨k, o + i, none⟩ := by unfold Addr.add; split <;> simp_all

/-- the block of number `k` becomes `o` -/
def wset (w : World) (k : Nat) (o : Obj) : World := { w with heap := w.heap.setIfInBounds k o }
theorem wset_size (w : World) (k : Nat) (o : Obj) : (wset w k o).heap.size = w.heap.size := by simp [wset]
theorem wset_get (w : World) (k j : Nat) (o : Obj) (h : k < w.heap.size) : (wset w k o).heap[j]? = if k = j then some o else w.heap[j]? := by
  simp only [wset, Array.getElem?_setIfInBounds]
  split <;> simp_all
theorem wset_wset (w : World) (k : Nat) (o o' : Obj) : wset (wset w k o) k o' = wset w k o' := by
  simp [wset]
theorem wset_self (w : World) (k : Nat) (o : Obj) (h : w.heap[k]? = some o) : wset w k o = w := by
  have : w.heap.setIfInBounds k o = w.heap := by
    apply Array.ext_getElem?
    intro j
    rw [Array.getElem?_setIfInBounds]
    by_cases hj : k = j
    · subst hj
      obtain ⟨hk, h2⟩ := Array.getElem?_eq_some_iff.1 h
      simp [hk, h2]
    · simp [hj]
  simp only [wset, this]
theorem alloc_get (w : World) (o : Obj) (j : Nat) : (w.alloc o).heap[j]? = if j = w.heap.size then some o else w.heap[j]? := by
  simp only [World.alloc, Array.getElem?_push]

section
variable {P : Program} {w : World} {k : Nat} {arr : Array Value} {e : TypeId} {fz : Nat × Nat}

theorem cell_of (h : w.heap[k]? = some (.cells arr e fz)) (o : Nat) : w.cell? ⟨k, o, none⟩ = arr[o]? := by simp [World.cell?, h]
theorem run_load1 (h : w.heap[k]? = some (.cells arr e fz)) {o : Nat} {v : Value} (hv : arr[o]? = some v) : (load ⟨k, o, none⟩).run P w = .ok v w := by
  rw [run_load, cell_of h, hv]
theorem run_loadN (h : w.heap[k]? = some (.cells arr e fz)) (o n : Nat) (hn : n ≤ arr.size - o) :
    (loadCells ⟨k, o, none⟩ n).run P w = .ok ((arr.toList.drop o).take n).toArray w := by
  have hl : ((arr.toList.drop o).take n).length = n := by simp; omega
  have := run_loadCells_list (P := P) w ⟨k, o, none⟩ ((arr.toList.drop o).take n) (fun j v hv => by
    rw [addr_add, cell_of h]
    rw [List.getElem?_take] at hv
    split at hv
    · simpa using hv
    · cases hv)
  rwa [hl] at this

theorem run_stores (hlo : Nat) : ∀ (vs : List Value) (i : Nat) (arr : Array Value) (w : World), w.heap[k]? = some (.cells arr e fz) →
    hlo + i + vs.length ≤ arr.size → (∀ j, j < vs.length → ¬ (fz.1 ≤ hlo + i + j ∧ hlo + i + j < fz.2)) → (∀ v ∈ vs, v.oneCell' = true) →
    (storeCells ⟨k, hlo, none⟩ vs i).run P w = .ok () (wset w k (.cells (arr.toList.take (hlo + i) ++ vs ++ arr.toList.drop (hlo + i + vs.length)).toArray e fz))
  | [], i, arr, w, hg, _, _, _ => by
    simp only [storeCells, List.append_nil, List.length_nil, Nat.add_zero, List.take_append_drop, Array.toArray_toList]
    rw [wset_self w k _ hg]; rfl
  | v :: rest, i, arr, w, hg, hl, hf, h1 => by
    have hi : hlo + i < arr.size := by simp at hl; omega
    have hk : k < w.heap.size := (Array.getElem?_eq_some_iff.1 hg).1
    have hcell : w.cell? ⟨k, hlo + i, none⟩ = some arr[hlo + i] := by rw [cell_of hg]; simp [hi]
    have hfro : w.frozen? ⟨k, hlo + i, none⟩ = false := by
      have := hf 0 (by simp)
      simp only [World.frozen?, hg]
      simp at this ⊢
      omega
    have hset : w.setCell ⟨k, hlo + i, none⟩ v = wset w k (.cells (arr.setIfInBounds (hlo + i) v) e fz) := by
      simp only [World.setCell, wset]
      congr 1
      apply Array.ext_getElem?
      intro j
      rw [Array.getElem?_modify, Array.getElem?_setIfInBounds]
      by_cases hj : k = j
      · subst hj
        have h2 := (Array.getElem?_eq_some_iff.1 hg).2
        simp [hk, h2]
      · simp [hj]
    have hst : (store ((⟨k, hlo, none⟩ : Addr).add i) v).run P w = .ok () (wset w k (.cells (arr.setIfInBounds (hlo + i) v) e fz)) := by
      rw [addr_add, run_store P w _ v _ (h1 v (by simp)), hcell]
      simp [hfro, hset]
    have ih := run_stores hlo rest (i + 1) (arr.setIfInBounds (hlo + i) v) (wset w k (.cells (arr.setIfInBounds (hlo + i) v) e fz))
      (by rw [wset_get _ _ _ _ hk]; simp) (by simp at hl ⊢; omega)
      (fun j hj => by have := hf (j + 1) (by simpa using hj); rwa [show hlo + i + (j + 1) = hlo + (i + 1) + j from by omega] at this)
      (fun x hx => h1 x (by simp [hx]))
    simp only [storeCells, Sem.run_bind, hst, Result.andThen_ok, ih, wset_wset]
    congr 3
    have ee := list_seg_step arr.toList (hlo + i) v rest (by simp at hl ⊢; omega)
    simpa [Array.toList_setIfInBounds, Nat.add_assoc] using ee
end

/-! ### how the machine's heap and the model's memory go on together -/
/-- the blocks of `D`, and those made since -/
def Up (D : Nat → Prop) (n m : Nat) : Nat → Prop := fun b => D b ∨ (n ≤ b ∧ b < m)
theorem Up.of {D : Nat → Prop} {n m : Nat} : ∀ b, D b → Up D n m b := fun _ h => .inl h
/-- the numbers that are to come are not in use -/
def Fresh (D : Nat → Prop) (n m : Nat) : Prop := ∀ b, n ≤ b → b < m → ¬ D b
theorem Up.up {D : Nat → Prop} {n m k : Nat} (h : n ≤ m) (h' : m ≤ k) : Up (Up D n m) m k = Up D n k := by
  funext b; simp only [Up, eq_iff_iff]
  constructor
  · rintro ((h1 | ⟨h1, h2⟩) | ⟨h1, h2⟩)
    · exact .inl h1
    · exact .inr ⟨h1, by omega⟩
    · exact .inr ⟨by omega, h2⟩
  · rintro (h1 | ⟨h1, h2⟩)
    · exact .inl (.inl h1)
    · by_cases hb : b < m
      · exact .inl (.inr ⟨h1, hb⟩)
      · exact .inr ⟨by omega, h2⟩
theorem Up.none {D : Nat → Prop} {n : Nat} : Up D n n = D := by
  funext b; simp only [Up, eq_iff_iff]
  constructor
  · rintro (h | ⟨h1, h2⟩)
    · exact h
    · omega
  · exact .inl
theorem Fresh.left {D : Nat → Prop} {n m k : Nat} (h : Fresh D n k) (hk : m ≤ k) : Fresh D n m := fun b h1 h2 => h b h1 (by omega)
theorem Fresh.right {D : Nat → Prop} {n m k : Nat} (h : Fresh D n k) (hm : n ≤ m) : Fresh (Up D n m) m k := fun b h1 h2 h3 => by
  rcases h3 with h3 | ⟨_, h4⟩
  · exact h b (by omega) h2 h3
  · omega

structure Grow (D : Nat → Prop) (H : AHeap) (θ : Th) (w : World) (H' : AHeap) (θ' : Th) (w' : World) : Prop where
  next : H.next ≤ H'.next
  ag : Ag D θ θ'
  size : w.heap.size ≤ w'.heap.size
  os : w'.os = w.os
  tape : w'.tape = w.tape
  output : w'.output = w.output
  keep : ∀ k, k < w.heap.size → (∀ b o, H.get b = some o → own o = true → θ.blk b ≠ k) → w'.heap[k]? = w.heap[k]?
  news : ∀ b o, H'.get b = some o → own o = true → θ'.blk b < w.heap.size → ∃ b' o', H.get b' = some o' ∧ own o' = true ∧ θ.blk b' = θ'.blk b

theorem Grow.refl (D : Nat → Prop) (H : AHeap) (θ : Th) (w : World) : Grow D H θ w H θ w :=
  ⟨Nat.le_refl _, Ag.refl _ _, Nat.le_refl _, rfl, rfl, rfl, fun _ _ _ => rfl, fun b o h ho _ => ⟨b, o, h, ho, rfl⟩⟩
theorem Grow.trans {D D' : Nat → Prop} {H H' H'' : AHeap} {θ θ' θ'' : Th} {w w' w'' : World} (a : Grow D H θ w H' θ' w') (b : Grow D' H' θ' w' H'' θ'' w'') (hd : ∀ b, D b → D' b) : Grow D H θ w H'' θ'' w'' := by
  refine ⟨Nat.le_trans a.next b.next, a.ag.trans b.ag hd, Nat.le_trans a.size b.size, b.os.trans a.os, b.tape.trans a.tape, b.output.trans a.output, ?_, ?_⟩
  · intro k hk hno
    refine (b.keep k (Nat.lt_of_lt_of_le hk a.size) ?_).trans (a.keep k hk hno)
    intro x o hx ho he
    obtain ⟨b', o', h1, h2, h3⟩ := a.news x o hx ho (by omega)
    exact hno b' o' h1 h2 (by omega)
  · intro x o hx ho hlt
    obtain ⟨b', o', h1, h2, h3⟩ := b.news x o hx ho (Nat.lt_of_lt_of_le hlt a.size)
    obtain ⟨b'', o'', g1, g2, g3⟩ := a.news b' o' h1 h2 (by omega)
    exact ⟨b'', o'', g1, g2, by omega⟩
/-- a draw -/
theorem Grow.draw {D : Nat → Prop} {H : AHeap} {θ : Th} {w w' : World} (hh : w'.heap = w.heap) (ho : w'.os = w.os) (ht : w'.tape = w.tape) (hp : w'.output = w.output) : Grow D H θ w H θ w' :=
  ⟨Nat.le_refl _, Ag.refl _ _, by rw [hh]; exact Nat.le_refl _, ho, ht, hp, fun _ _ _ => by rw [hh], fun b o h hw _ => ⟨b, o, h, hw, rfl⟩⟩
theorem HR.draw {P : Program} {base : Nat} {D : Nat → Prop} {θ : Th} {H : AHeap} {w w' : World} (h : HR P base D θ H w) (hh : w'.heap = w.heap) : HR P base D θ H w' :=
  ⟨fun b o hb => by rw [hh]; exact h.obj b o hb, h.inj, h.above, h.glob, by rw [hh]; exact h.low⟩

theorem entsR.up {D D' : Nat → Prop} {θ θ' : Th} (ha : Ag D θ θ') (hd : ∀ b, D b → D' b) : ∀ (es : List (AV × AV × Nat)) (ms : List MapEntry), entsR D θ es ms → entsR D' θ' es ms
  | [], [], _ => trivial
  | e :: es, m :: ms, ⟨⟨h1, h2, h3⟩, h⟩ => ⟨⟨h1.up ha hd, h2.up ha hd, h3⟩, entsR.up ha hd es ms h⟩
  | [], _ :: _, h => h.elim
  | _ :: _, [], h => h.elim

theorem ObjR.up {P : Program} {D D' : Nat → Prop} {θ θ' : Th} {b : Nat} {o : AObj} {co : Obj} (h : ObjR P D θ b o co) (hb : D b) (ha : Ag D θ θ') (hd : ∀ b, D b → D' b) : ObjR P D' θ' b o co := by
  obtain ⟨e1, e2, e3⟩ := ha b hb
  cases o with
  | row cells e fz ow =>
    obtain ⟨pre, cs, post, cfz, et, h1, h2, h3, h4⟩ := h
    exact ⟨pre, cs, post, cfz, et, h1, by rw [e2]; exact h2, h3.up ha hd, h4⟩
  | grown m size cells e fz =>
    obtain ⟨pre, cs, post, cfz, h1, h2, h3, h4, h5, h6, h7, h8⟩ := h
    exact ⟨pre, cs, post, cfz, h1, by rw [e2]; exact h2, h3.up ha hd, h4, by rw [e3]; exact h5, h6, by rw [e3]; exact h7, by rw [e2]; exact h8⟩
  | map es clock =>
    obtain ⟨ms, h1, h2⟩ := h
    exact ⟨ms, h1, entsR.up ha hd _ _ h2⟩
  | strIter s pos => exact ⟨h.1, e2.trans h.2⟩
  | loop st pend f k tm d =>
    obtain ⟨r, h1, h2, h3, h4, h5, h6, h7, h8⟩ := h
    exact ⟨r, h1, h2, h3, h4, fun t v hv => let ⟨c, hc, hr⟩ := h5 t v hv; ⟨c, hc, hr.up ha hd⟩, h6, hd d h7, by rw [(ha d h7).1]; exact h8⟩
  | deferred calls => exact h

theorem HR.up {P : Program} {base : Nat} {D D' : Nat → Prop} {θ : Th} {H : AHeap} {w : World} (h : HR P base D θ H w) (hd : ∀ b, D b → D' b) : HR P base D' θ H w :=
  ⟨fun b o hb => let ⟨h1, co, h2, h3⟩ := h.obj b o hb; ⟨hd b h1, co, h2, h3.up h1 (Ag.refl _ _) hd⟩, h.inj, h.above, fun g hg => ⟨hd g (h.glob g hg).1, (h.glob g hg).2⟩, h.low⟩

section
variable {P : Program} {base : Nat} {D : Nat → Prop} {θ : Th} {H : AHeap} {w : World}

theorem HR.lt (h : HR P base D θ H w) {b : Nat} {o : AObj} (hb : H.get b = some o) : θ.blk b < w.heap.size := by
  obtain ⟨_, co, hc, _⟩ := h.obj b o hb
  exact (Array.getElem?_eq_some_iff.1 hc).1

theorem AHeap.get_set (H : AHeap) (b b' : Nat) (o : AObj) : (H.set b o).get b' = if b = b' then some o else H.get b' := T.get_set _ _ _ _
theorem AHeap.get_alloc (H : AHeap) (b' : Nat) (o : AObj) : (H.alloc o).get b' = if H.next = b' then some o else H.get b' := T.get_set _ _ _ _
theorem AHeap.get_kill (H : AHeap) (b b' : Nat) : (H.kill b).get b' = if b = b' then none else H.get b' := T.get_put _ _ _ _

/-- an object of the machine's own is turned -/
theorem HR.set (h : HR P base D θ H w) {b : Nat} {o o' : AObj} {co' : Obj} (hb : H.get b = some o) (ho : own o = true) (ho' : own o' = true) (hr : ObjR P D θ b o' co') :
    HR P base D θ (H.set b o') (wset w (θ.blk b) co') := by
  have hlt := h.lt hb
  refine ⟨fun x ox hx => ?_, fun x y ox oy hx hy hox hne => ?_, fun x ox hx hox => ?_, h.glob, by rw [wset_size]; exact h.low⟩
  · rw [AHeap.get_set] at hx
    by_cases e : b = x
    · subst e; simp only [if_true, Option.some.injEq] at hx; subst hx
      exact ⟨(h.obj b o hb).1, co', by rw [wset_get _ _ _ _ hlt]; simp, hr⟩
    · simp only [e, if_false] at hx
      obtain ⟨h1, co, h2, h3⟩ := h.obj x ox hx
      exact ⟨h1, co, by rw [wset_get _ _ _ _ hlt, if_neg (h.inj b x o ox hb hx ho e)]; exact h2, h3⟩
  · rw [AHeap.get_set] at hx hy
    by_cases e : b = x <;> by_cases e' : b = y
    · exact absurd (e.symm.trans e') hne
    · subst e; simp only [e', if_false] at hy; exact h.inj b y o oy hb hy ho hne
    · subst e'; simp only [e, if_false] at hx; exact h.inj x b ox o hx hb hox hne
    · simp only [e, e', if_false] at hx hy; exact h.inj x y ox oy hx hy hox hne
  · rw [AHeap.get_set] at hx
    by_cases e : b = x
    · subst e; exact h.above b o hb ho
    · simp only [e, if_false] at hx; exact h.above x ox hx hox

theorem Grow.set {b : Nat} {o o' : AObj} {co' : Obj} (hb : H.get b = some o) (ho : own o = true) (hlt : θ.blk b < w.heap.size) :
    Grow D H θ w (H.set b o') θ (wset w (θ.blk b) co') := by
  refine ⟨Nat.le_refl _, Ag.refl _ _, by rw [wset_size]; exact Nat.le_refl _, rfl, rfl, rfl, fun k hk hno => ?_, fun x ox hx hox _ => ?_⟩
  · rw [wset_get _ _ _ _ hlt, if_neg (hno b o hb ho)]
  · rw [AHeap.get_set] at hx
    by_cases e : b = x
    · subst e; exact ⟨b, o, hb, ho, rfl⟩
    · simp only [e, if_false] at hx; exact ⟨x, ox, hx, hox, rfl⟩

/-- one block more, the machine's and the model's -/
def Th.add (θ : Th) (n blk off ext : Nat) : Th := { blk := fun b => if b = n then blk else θ.blk b, off := fun b => if b = n then off else θ.off b, ext := fun b => if b = n then ext else θ.ext b }
theorem Th.add_new (θ : Th) (n blk off ext : Nat) : (θ.add n blk off ext).blk n = blk ∧ (θ.add n blk off ext).off n = off ∧ (θ.add n blk off ext).ext n = ext := by simp [Th.add]
theorem Th.add_ag (θ : Th) (n blk off ext : Nat) {D : Nat → Prop} (hn : ¬ D n) : Ag D θ (θ.add n blk off ext) := fun b hb => by
  have : b ≠ n := fun e => hn (e ▸ hb)
  simp [Th.add, this]
end

section
variable {P : Program} {base : Nat} {D : Nat → Prop} {θ : Th} {H : AHeap} {w : World}

theorem HR.alloc (h : HR P base D θ H w) (hn : ¬ D H.next) {o : AObj} {co : Obj} {k off ext : Nat} {w' : World} (hk : w'.heap[k]? = some co) (hkeep : ∀ j, j < w.heap.size → w'.heap[j]? = w.heap[j]?) (hks : w.heap.size ≤ k)
    (hs : w.heap.size ≤ w'.heap.size) (hr : ObjR P (Up D H.next (H.next + 1)) (θ.add H.next k off ext) H.next o co) :
    HR P base (Up D H.next (H.next + 1)) (θ.add H.next k off ext) (H.alloc o) w' := by
  have hag := Th.add_ag θ H.next k off ext hn
  obtain ⟨e1, e2, e3⟩ := Th.add_new θ H.next k off ext
  have old : ∀ x ox, H.get x = some ox → (θ.add H.next k off ext).blk x = θ.blk x := fun x ox hx => (hag x (h.obj x ox hx).1).1
  refine ⟨fun x ox hx => ?_, fun x y ox oy hx hy hox hne => ?_, fun x ox hx hox => ?_, fun g hg => ?_, by have := h.low; omega⟩
  · rw [AHeap.get_alloc] at hx
    by_cases e : H.next = x
    · subst e; simp only [if_true, Option.some.injEq] at hx; subst hx
      exact ⟨.inr ⟨Nat.le_refl _, Nat.lt_succ_self _⟩, co, by rw [e1]; exact hk, hr⟩
    · simp only [e, if_false] at hx
      obtain ⟨h1, c, h2, h3⟩ := h.obj x ox hx
      refine ⟨.inl h1, c, ?_, h3.up h1 hag Up.of⟩
      rw [old x ox hx, hkeep _ (h.lt hx)]; exact h2
  · rw [AHeap.get_alloc] at hx hy
    by_cases e : H.next = x <;> by_cases e' : H.next = y
    · exact absurd (e.symm.trans e') hne
    · subst e; simp only [e', if_false] at hy
      rw [e1, old y oy hy]; have := h.lt hy; omega
    · subst e'; simp only [e, if_false] at hx
      rw [e1, old x ox hx]; have := h.lt hx; omega
    · simp only [e, e', if_false] at hx hy
      rw [old x ox hx, old y oy hy]; exact h.inj x y ox oy hx hy hox hne
  · rw [AHeap.get_alloc] at hx
    by_cases e : H.next = x
    · subst e; rw [e1]; have := h.low; omega
    · simp only [e, if_false] at hx
      rw [old x ox hx]; exact h.above x ox hx hox
  · obtain ⟨h1, h2, h3⟩ := h.glob g hg
    obtain ⟨a1, a2, _⟩ := hag g h1
    exact ⟨.inl h1, a1.trans h2, a2.trans h3⟩

theorem Grow.alloc (h : HR P base D θ H w) (hn : ¬ D H.next) (o : AObj) (co : Obj) (off ext : Nat) : Grow D H θ w (H.alloc o) (θ.add H.next w.heap.size off ext) (w.alloc co) := by
  have hag := Th.add_ag θ H.next w.heap.size off ext hn
  obtain ⟨e1, e2, e3⟩ := Th.add_new θ H.next w.heap.size off ext
  refine ⟨Nat.le_succ _, hag, by simp, rfl, rfl, rfl, fun k hk _ => ?_, fun x ox hx hox hlt => ?_⟩
  · rw [alloc_get, if_neg (Nat.ne_of_lt hk)]
  · rw [AHeap.get_alloc] at hx
    by_cases e : H.next = x
    · subst e; rw [e1] at hlt; omega
    · simp only [e, if_false] at hx
      have := (hag x (h.obj x ox hx).1).1
      exact ⟨x, ox, hx, hox, this.symm⟩
end

/-! ### cells -/
section
variable {P : Program} {base : Nat} {D : Nat → Prop} {θ : Th} {H : AHeap} {w : World}

theorem HR.cells (h : HR P base D θ H w) {b : Nat} {l : List AV} (hb : H.cellsAt b = some l) :
    ∃ pre cs post e fz, w.heap[θ.blk b]? = some (.cells (pre ++ cs ++ post).toArray e fz) ∧ pre.length = θ.off b ∧ VRL D θ l cs := by
  unfold AHeap.cellsAt at hb
  cases hg : H.get b with
  | none => rw [hg] at hb; cases hb
  | some o =>
    rw [hg] at hb
    obtain ⟨_, co, hc, hr⟩ := h.obj b o hg
    cases o with
    | row cells e fz ow =>
      obtain ⟨pre, cs, post, cfz, et, h1, h2, h3, _⟩ := hr
      injection hb with hb; subst hb
      exact ⟨pre, cs, post, et, cfz, by rw [hc, h1], h2, h3⟩
    | grown m size cells e fz =>
      obtain ⟨pre, cs, post, cfz, h1, h2, h3, _⟩ := hr
      injection hb with hb; subst hb
      exact ⟨pre, cs, post, e, cfz, by rw [hc, h1], h2, h3⟩
    | map _ _ => cases hb
    | strIter _ _ => cases hb
    | loop _ _ _ _ _ _ => cases hb
    | deferred _ => cases hb

theorem mid_get (pre cs post : List Value) (o : Nat) {c : Value} (h : cs[o]? = some c) : (pre ++ cs ++ post).toArray[pre.length + o]? = some c := by
  have hlt := (List.getElem?_eq_some_iff.1 h).1
  simp only [List.getElem?_toArray, List.append_assoc]
  rw [List.getElem?_append_right (by omega), show pre.length + o - pre.length = o from by omega, List.getElem?_append_left hlt]
  exact h
theorem mid_take (pre cs post : List Value) (o n : Nat) (h : n ≤ cs.length - o) : (((pre ++ cs ++ post).toArray.toList.drop (pre.length + o)).take n) = (cs.drop o).take n := by
  simp only [List.append_assoc]
  rw [List.drop_append, show pre.length + o - pre.length = o from by omega, List.drop_of_length_le (l := pre) (by omega), List.nil_append, List.drop_append]
  by_cases ho : o ≤ cs.length
  · rw [List.take_append, show n - (cs.drop o).length = 0 from by simp; omega]; simp
  · have : n = 0 := by omega
    subst this; simp

theorem HR.load1 (h : HR P base D θ H w) {b o : Nat} {v : AV} (hl : H.load1 b o = some v) :
    ∃ c, (load ⟨θ.blk b, θ.off b + o, none⟩).run P w = .ok c w ∧ VR D θ v c := by
  unfold AHeap.load1 at hl
  cases hc : H.cellsAt b with
  | none => rw [hc] at hl; cases hl
  | some l =>
    rw [hc] at hl
    obtain ⟨pre, cs, post, e, fz, h1, h2, h3⟩ := h.cells hc
    simp only [Option.bind_some, nth_eq] at hl
    obtain ⟨c, hc1, hc2⟩ := h3.of_get hl
    exact ⟨c, run_load1 h1 (by rw [← h2]; exact mid_get pre cs post o hc1), hc2⟩

theorem HR.loadN (h : HR P base D θ H w) {b o n : Nat} {l : List AV} (hl : H.loadN b o n = some l) :
    ∃ cs : List Value, (loadCells ⟨θ.blk b, θ.off b + o, none⟩ n).run P w = .ok cs.toArray w ∧ VRL D θ l cs ∧ l.length = n := by
  unfold AHeap.loadN at hl
  cases hc : H.cellsAt b with
  | none => rw [hc] at hl; cases hl
  | some l0 =>
    rw [hc] at hl
    obtain ⟨pre, cs, post, e, fz, h1, h2, h3⟩ := h.cells hc
    simp only [Option.bind_some, takeAt_eq] at hl
    split at hl
    · rename_i hn
      injection hl with hl; subst hl
      have hlen := h3.length
      refine ⟨(cs.drop o).take n, ?_, (h3.drop o).take n, by simp; omega⟩
      rw [← h2, run_loadN h1 (pre.length + o) n (by simp; omega), mid_take pre cs post o n (by omega)]
    · cases hl

theorem oneCell_conc {v : AV} {c : Value} (h : VR D θ v c) (h1 : oneCell v = true) : c.oneCell' = true := by
  rw [← h.now]
  cases v <;> simp_all [oneCell, conc, Value.oneCell']
theorem allOne_eq (l : List AV) : allOne l = l.all oneCell := by
  induction l with
  | nil => rfl
  | cons x l ih =>
    show cond (oneCell x) (allOne l) false = _
    rw [ih]; cases h : oneCell x <;> simp [h]
theorem allOne_conc {l : List AV} {cs : List Value} (h : VRL D θ l cs) (h1 : allOne l = true) : ∀ c ∈ cs, c.oneCell' = true := by
  intro c hc
  obtain ⟨i, hi⟩ := List.getElem?_of_mem hc
  rw [allOne_eq, List.all_eq_true] at h1
  have hlt : i < l.length := by rw [← h.length]; exact (List.getElem?_eq_some_iff.1 hi).1
  obtain ⟨c', h2, h3⟩ := h.of_get (List.getElem?_eq_getElem hlt)
  rw [hi] at h2; injection h2 with h2; subst h2
  exact oneCell_conc h3 (h1 _ (List.getElem_mem hlt))
end

end Go.Am
