/- NEW SLICES OF TYPED ELEMENTS; CELLS OF ONE's OWN. -/
import Derived.Test.YtkfheegmlgfdoaaTAmSim
namespace Go.Am
set_option linter.unusedVariables false
set_option linter.unusedSimpArgs false

theorem T.put_put {α : Type} (v v' : Option α) : ∀ (p : List Bool) (t : T α), T.putP v p (T.putP v' p t) = T.putP v p t
  | [], t => rfl
  | b :: p, t => by cases b <;> simp [T.putP, T.l, T.r, T.val, T.put_put v v' p]
theorem alloc_set (H : AHeap) (o o' : AObj) : (H.alloc o).set H.next o' = H.alloc o' := by
  simp only [AHeap.alloc, AHeap.set, T.set, T.put, T.put_put]
theorem get_alloc_new (H : AHeap) (o : AObj) : (H.alloc o).get H.next = some o := by rw [AHeap.get_alloc, if_pos rfl]
theorem get_alloc_lt {H : AHeap} {b : Nat} (h : b < H.next) (o : AObj) : (H.alloc o).get b = H.get b := by rw [AHeap.get_alloc, if_neg (by omega)]
theorem get_set_same (H : AHeap) (b : Nat) (o : AObj) : (H.set b o).get b = some o := by rw [AHeap.get_set, if_pos rfl]
theorem get_set_ne {H : AHeap} {b b' : Nat} (h : b ≠ b') (o : AObj) : (H.set b o).get b' = H.get b' := by rw [AHeap.get_set, if_neg h]

theorem store_row {H : AHeap} {b : Nat} {c : List AV} {e : Nat} (h : H.get b = some (.row c e (0, 0) true)) {o n : Nat} {v : AV} (hv : v.cells.length = n) (hn : o + n ≤ c.length) (h1 : allOne v.cells = true) :
    Op.store n [.ptr b o, v] H = some (.undef, H.set b (.row (c.take o ++ v.cells ++ c.drop (o + n)) e (0, 0) true)) := by
  have e1 : ∀ n, Nat.beq n n = true := fun n => by simp
  simp only [Op.store, lenL_eq, hv, e1, cond_true, AHeap.store, h1, h]
  have : thawed (0, 0) o n = true := by simp [thawed]
  simp only [this, cond_true, putAt_eq, hv, if_pos hn, Option.bind_some]
theorem store_grown {H : AHeap} {b m s : Nat} {c : List AV} {e : Nat} (h : H.get b = some (.grown m s c e (0, 0))) {o n : Nat} {v : AV} (hv : v.cells.length = n) (hn : o + n ≤ c.length) (h1 : allOne v.cells = true) :
    Op.store n [.ptr b o, v] H = some (.undef, H.set b (.grown m s (c.take o ++ v.cells ++ c.drop (o + n)) e (0, 0))) := by
  have e1 : ∀ n, Nat.beq n n = true := fun n => by simp
  simp only [Op.store, lenL_eq, hv, e1, cond_true, AHeap.store, h1, h]
  have : thawed (0, 0) o n = true := by simp [thawed]
  simp only [this, cond_true, putAt_eq, hv, if_pos hn, Option.bind_some]
/-- a variable's first value -/
theorem store_new (H : AHeap) (z : List AV) (e n : Nat) (v : AV) (hz : z.length = n) (hv : v.cells.length = n) (h1 : allOne v.cells = true) :
    Op.store n [.ptr H.next 0, v] (H.alloc (.row z e (0, 0) true)) = some (.undef, H.alloc (.row v.cells e (0, 0) true)) := by
  rw [store_row (get_alloc_new H _) hv (by omega) h1, alloc_set]
  simp only [List.take_zero, List.nil_append, Nat.zero_add, List.drop_eq_nil_of_le (Nat.le_of_eq hz), List.append_nil]
theorem load1_new (H : AHeap) (c : List AV) (e : Nat) (fz : Nat × Nat) (ow : Bool) (o : Nat) : Op.load1 [.ptr H.next o] (H.alloc (.row c e fz ow)) = c[o]? := load1_of (cellsAt_row (get_alloc_new H _)) o
theorem loadN_new (H : AHeap) (c : List AV) (e : Nat) (fz : Nat × Nat) (ow : Bool) (n : Nat) (hn : c.length = n) : Op.loadN n [.ptr H.next 0] (H.alloc (.row c e fz ow)) = some (.agg c) := by
  rw [loadN_of (cellsAt_row (get_alloc_new H _)) (by omega)]; simp [← hn]

/-! ### typed slices of one's own -/
def OwnT {α : Type} (enc : α → List AV) (e size : Nat) (H : AHeap) (v : AV) (xs : List α) : Prop := Own H e size v xs.length (xs.flatMap enc)
/-- made since `H0`: nothing old has turned, and it lies in new memory -/
structure New {α : Type} (enc : α → List AV) (e size : Nat) (H0 H : AHeap) (v : AV) (xs : List α) : Prop where
  own : OwnT enc e size H v xs
  fr : Fr Em H0 H
  fresh : ∀ b, OnS v b → H0.next ≤ b
section
variable {α : Type} {enc : α → List AV} {e size : Nat} {H0 H H' : AHeap} {v : AV} {xs : List α}
theorem SlT.one (h : SlT enc size H v xs) : oneCell v = true := Sl.one h
theorem New.nil (H : AHeap) : New enc e size H H .nils ([] : List α) := ⟨Own.nil H e size, Fr.refl H, fun b h => (h.1 rfl).elim⟩
theorem New.sl (h : New enc e size H0 H v xs) : SlT enc size H v xs := Own.sl h.own
theorem OwnT.sl (h : OwnT enc e size H v xs) : SlT enc size H v xs := Own.sl h
theorem New.em (h : New enc e size H0 H v xs) (f : Fr Em H H') : New enc e size H0 H' v xs := ⟨Own.em h.own f, h.fr.em f, h.fresh⟩
theorem New.len (h : New enc e size H0 H v xs) : Op.lenSl [v] = some (.int .i64 xs.length) := h.sl.len
theorem New.step (h : New enc e size H0 H v xs) {v' : AV} {ys : List α} (h1 : OwnT enc e size H' v' ys) (h2 : Fr (OnS v) H H') (h3 : ∀ b, OnS v' b → OnS v b ∨ H.next ≤ b) : New enc e size H0 H' v' ys :=
  ⟨h1, h.fr.trans h2 fun x hx => .inr (h.fresh x hx), fun b hb => (h3 b hb).elim (h.fresh b) fun q => Nat.le_trans h.fr.next q⟩
/-- one more -/
theorem New.app1 (h : New enc e size H0 H v xs) {bytes : Nat} {zero : List AV} {x : AV} {a : α} (hx : x.cells = enc a) (hs : (enc a).length = size) (hz : zero.length = size) (h1 : allOne (enc a) = true) (h0 : 0 < size)
    (hf : (xs.length + 1) * bytes ≤ 140737488355328) (hf' : xs.length + 1 ≤ 140737488355328) {K : AObj → (Nat → AV) → Bool → AV → AHeap → Prop} {m : Bool}
    (hk : ∀ v' H', New enc e size H0 H' v' (xs ++ [a]) → Fr (OnS v) H H' → (∀ b, OnS v' b → OnS v b ∨ H.next ≤ b) → K (.row x.cells e (0, 0) true) (Op.sliceTo 1 1) dirty v' H') :
    BI2 m (Op.buildSlice e 1 zero [(0, size)] [x]) fun g o mk => BI2 g (Op.append e size bytes [v, mk H.next] (H.alloc o)) (K o mk) := by
  refine append1 h.own hz (by rw [hx]; exact hs) (by rw [hx]; exact h1) h0 hf hf' fun v' H' h1 h2 h3 => hk v' H' (h.step ?_ h2 h3) h2 h3
  unfold OwnT; rw [List.length_append, List.flatMap_append]; simpa [hx] using h1
/-- a whole slice behind it -/
theorem New.appS (h : New enc e size H0 H v xs) {bytes : Nat} {x : AV} {ys : List α} (hx : SlT enc size H x ys) (h1 : ∀ a, allOne (enc a) = true) (h0 : 0 < size)
    (hf : (xs.length + ys.length) * bytes ≤ 140737488355328) (hf' : xs.length + ys.length ≤ 140737488355328) {K : Bool → AV → AHeap → Prop} {m : Bool}
    (hk : ∀ v' H', New enc e size H0 H' v' (xs ++ ys) → Fr (OnS v) H H' → (∀ b, OnS v' b → OnS v b ∨ H.next ≤ b) → K dirty v' H') : BI2 m (Op.append e size bytes [v, x] H) K := by
  refine append_own h.own hx ?_ h0 hf hf' fun v' H' h1 h2 h3 => hk v' H' (h.step ?_ h2 h3) h2 h3
  · rw [allOne_eq, List.all_flatMap]; simp only [List.all_eq_true]; intro a _; have := h1 a; rw [allOne_eq] at this; simpa using this
  · unfold OwnT; rw [List.length_append, List.flatMap_append]; exact h1
/-- an element is given a new value in one cell -/
theorem flatMap_set {f : α → List AV} (hs : ∀ x, (f x).length = size) : ∀ (xs : List α) {i : Nat} {x : α}, xs[i]? = some x → ∀ (y : α), (xs.set i y).flatMap f = (xs.flatMap f).take (i * size) ++ f y ++ (xs.flatMap f).drop (i * size + size)
  | [], i, x, h, y => by simp at h
  | z :: zs, 0, x, h, y => by
    simp at h; subst h
    simp only [List.set_cons_zero, List.flatMap_cons, Nat.zero_mul, List.take_zero, List.nil_append, Nat.zero_add]
    rw [List.drop_append_of_le_length (by rw [hs]; omega), List.drop_eq_nil_of_le (by rw [hs]; omega), List.nil_append]
  | z :: zs, i + 1, x, h, y => by
    simp only [List.getElem?_cons_succ] at h
    have e1 : (f z ++ zs.flatMap f).take ((i + 1) * size) = f z ++ (zs.flatMap f).take (i * size) := by
      rw [show (i + 1) * size = (f z).length + i * size from by rw [hs, Nat.succ_mul]; omega, List.take_length_add_append]
    have e2 : (f z ++ zs.flatMap f).drop ((i + 1) * size + size) = (zs.flatMap f).drop (i * size + size) := by
      rw [show (i + 1) * size + size = (f z).length + (i * size + size) from by rw [hs, Nat.succ_mul]; omega, List.drop_length_add_append]
    rw [List.set_cons_succ, List.flatMap_cons, List.flatMap_cons, flatMap_set hs zs h y, e1, e2]
    simp only [List.append_assoc]
theorem flatMap_len (hs : ∀ x, (enc x).length = size) (l : List α) : (l.flatMap enc).length = l.length * size := by
  induction l with
  | nil => simp
  | cons a l ih => rw [List.flatMap_cons, List.length_append, hs, ih, List.length_cons, Nat.succ_mul]; omega
theorem set_mid {L E : List AV} {k0 j : Nat} {u : AV} (hE : E.length = size) (hj : j < size) (hk : k0 + size ≤ L.length) (h : ∀ r, r < size → L[k0 + r]? = E[r]?) :
    L.take k0 ++ E.set j u ++ L.drop (k0 + size) = L.set (k0 + j) u := by
  refine List.ext_getElem? fun k => ?_
  have h1 : (L.take k0).length = k0 := by rw [List.length_take]; omega
  rw [List.append_assoc, List.getElem?_set]
  rcases Nat.lt_or_ge k k0 with q | q
  · rw [List.getElem?_append_left (by omega), List.getElem?_take, if_pos q, if_neg (by omega)]
  · rw [List.getElem?_append_right (by omega), h1]
    obtain ⟨r, rfl⟩ : ∃ r, k = k0 + r := ⟨k - k0, by omega⟩
    rw [show k0 + r - k0 = r from by omega]
    rcases Nat.lt_or_ge r size with q' | q'
    · rw [List.getElem?_append_left (by rw [List.length_set]; omega), List.getElem?_set]
      by_cases hjr : j = r
      · subst hjr; rw [if_pos rfl, if_pos rfl, if_pos (by omega), if_pos (by omega)]
      · rw [if_neg hjr, if_neg (by omega), h r q']
    · rw [List.getElem?_append_right (by rw [List.length_set]; omega), List.length_set, List.getElem?_drop, if_neg (by omega)]
      congr 1; omega
theorem OwnT.set1 (hs : ∀ x, (enc x).length = size) (h : OwnT enc e size H v xs) {i : Nat} {x y : α} (hx : xs[i]? = some x) {j : Nat} (hj : j < size) {u : AV} (hu : oneCell u = true) (hy : enc y = (enc x).set j u) :
    ∃ H', Op.store 1 [.ptr (slB v) (slO size v i + j), u] H = some (.undef, H') ∧ OwnT enc e size H' v (xs.set i y) ∧ Fr (OnS v) H H' := by
  obtain ⟨hl, h | ⟨b, rfl, h1, h2⟩⟩ := h
  · rw [List.length_eq_zero_iff.1 h.1] at hx; simp at hx
  · have hi := lt_of_get hx
    have hb : (i + 1) * size ≤ xs.length * size := Nat.mul_le_mul_right _ hi
    rw [Nat.succ_mul] at hb
    have hc : u.cells = [u] := by cases u <;> first | rfl | cases hu
    have hst := store_grown h2 (o := i * size + j) (n := 1) (v := u) (by rw [hc]; rfl) (by omega) (by rw [hc, allOne_eq]; simpa using hu)
    have ho : slO size (AV.gslice b 0 xs.length size 0 xs.length) i = i * size := by simp [slO]
    rw [ho]
    refine ⟨_, hst, ⟨?_, .inr ⟨b, ?_, h1, ?_⟩⟩, (Fr.refl H).set (.inl ⟨by simp, rfl⟩) _⟩
    · rw [List.length_set, flatMap_len hs, List.length_set]
    · rw [List.length_set]
    · rw [List.length_set, get_set_same, flatMap_set hs xs hx, hy, hc, set_mid (L := xs.flatMap enc) (E := enc x) (hs x) hj (by omega) (fun r hr => flatMap_get hs xs hx hr), List.set_eq_take_append_cons_drop, if_pos (by omega)]
      simp
end
end Go.Am
