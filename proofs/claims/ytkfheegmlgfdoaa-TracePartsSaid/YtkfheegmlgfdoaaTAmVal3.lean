/- SLICING; ROWS THAT ARE WRITTEN. -/
import Derived.Test.YtkfheegmlgfdoaaTAmVal2
namespace Go.Am
set_option linter.unusedVariables false
set_option linter.unusedSimpArgs false

theorem bound_nat {k mx d : Nat} {z : Int} (hz : z = k) (h : k ≤ mx) (kk : IntKind) : bound (some (.int kk z)) d mx = some k := by
  subst hz
  show cond (Nat.ble k mx) (some k) none = some k
  rw [ble_true h]; rfl
theorem Sl.from {H : AHeap} {size : Nat} {v : AV} {n : Nat} {cells : List AV} (h : Sl H size v n cells) {k : Nat} (hk : k ≤ n) {z : Int} (hz : z = k) (kk : IntKind) :
    ∃ v', Op.sliceSl size [some 0, none, none] [v, .int kk z] = some v' ∧ Sl H size v' (n - k) (cells.drop (k * size)) ∧ (v' = .nils ∨ slB v' = slB v) := by
  obtain ⟨hl, h⟩ := h
  have hlen : (cells.drop (k * size)).length = (n - k) * size := by rw [List.length_drop, hl, Nat.sub_mul]
  have hkn : k * size ≤ n * size := Nat.mul_le_mul_right _ hk
  have hsub : (n - k) * size = n * size - k * size := Nat.sub_mul n k size
  split at h
  · subst h
    have : k = 0 := by omega
    subst this
    refine ⟨.nils, ?_, ⟨hlen, rfl⟩, .inl rfl⟩
    have hbn : bound none 0 0 = some 0 := rfl
    simp [Op.sliceSl, arg, nth_eq, sliceV, hbn, bound_nat hz (Nat.le_refl 0)]
  · rename_i b o m c
    obtain ⟨rfl, hc, h⟩ := h
    have hb1 : ∀ d m, bound none d m = some d := fun _ _ => rfl
    refine ⟨.slice b (cond (Nat.beq c k) o (o + k * size)) (m - k) (c - k), by simp [Op.sliceSl, arg, nth_eq, sliceV, hb1, bound_nat hz hk], ⟨hlen, rfl, by omega, ?_⟩, .inr rfl⟩
    rcases h with h | ⟨hb, all, h1, h2⟩
    · left; omega
    · by_cases he : c = k
      · left; omega
      · right
        obtain ⟨h3, rfl⟩ := takeAt_some h2
        refine ⟨hb, all, h1, ?_⟩
        rw [beq_false he, cond_false, takeAt_eq, if_pos (by omega), List.drop_take, List.drop_drop]
        simp [hsub]
  · rename_i b i m s alt q
    obtain ⟨rfl, rfl, hm, h⟩ := h
    have e1 : ∀ n, Nat.beq n n = true := fun n => by simp
    have hb1 : ∀ d m, bound none d m = some d := fun _ _ => rfl
    have hq := ble_true (show q ≤ m - i by omega)
    have him := ble_true (show i ≤ m by omega)
    refine ⟨.gslice b (i + k) m s (cond (Nat.beq k 0) alt (i * s)) (q - k), by simp only [Op.sliceSl, arg, nth_eq, List.getElem?_cons_zero, Option.bind_some, sliceV, hb1, bound_nat hz hk, e1, him, hq, Bool.and_self, cond_true], ⟨hlen, rfl, rfl, by omega, ?_⟩, .inr rfl⟩
    rcases h with h | ⟨hb, all, h1, h2⟩
    · left; omega
    · right
      obtain ⟨h3, rfl⟩ := takeAt_some h2
      refine ⟨hb, all, h1, ?_⟩
      rw [takeAt_eq, if_pos (by rw [Nat.add_mul]; omega), List.drop_take, List.drop_drop, Nat.add_mul]
      simp [hsub]
  · rename_i b
    obtain ⟨rfl, hb⟩ := h
    have : k = 0 := by omega
    subst this
    have hbn : bound none 0 0 = some 0 := rfl
    refine ⟨.eslice b, ?_, ⟨hlen, rfl, hb⟩, .inr rfl⟩
    simp [Op.sliceSl, arg, nth_eq, sliceV, hbn, bound_nat hz (Nat.le_refl 0)]
  · exact h.elim
theorem Sl.upto {H : AHeap} {size : Nat} {v : AV} {n : Nat} {cells : List AV} (h : Sl H size v n cells) {k : Nat} (hk : k ≤ n) {z : Int} (hz : z = k) (kk : IntKind) :
    ∃ v', Op.sliceSl size [none, some 0, none] [v, .int kk z] = some v' ∧ Sl H size v' k (cells.take (k * size)) ∧ (v' = .nils ∨ slB v' = slB v) := by
  obtain ⟨hl, h⟩ := h
  have hkn : k * size ≤ n * size := Nat.mul_le_mul_right _ hk
  have hlen : (cells.take (k * size)).length = k * size := by rw [List.length_take, hl]; omega
  split at h
  · subst h
    have : k = 0 := by omega
    subst this
    refine ⟨.nils, ?_, ⟨hlen, rfl⟩, .inl rfl⟩
    have hbn : bound none 0 0 = some 0 := rfl
    simp [Op.sliceSl, arg, nth_eq, sliceV, hbn, bound_nat hz (Nat.le_refl 0)]
  · rename_i b o m c
    obtain ⟨rfl, hc, h⟩ := h
    have hb0 : ∀ h, bound none 0 h = some 0 := fun h => rfl
    have hb1 : ∀ d m, bound none d m = some d := fun _ _ => rfl
    refine ⟨.slice b (cond (Nat.beq c 0) o (o + 0 * size)) (k - 0) (c - 0), by simp only [Op.sliceSl, arg, nth_eq, List.getElem?_cons_zero, Option.bind_some, sliceV, bound_nat hz (show k ≤ c by omega), hb0, hb1], ⟨hlen, by omega, by omega, ?_⟩, .inr rfl⟩
    rcases h with h | ⟨hb, all, h1, h2⟩
    · left; omega
    · right
      obtain ⟨h3, rfl⟩ := takeAt_some h2
      refine ⟨hb, all, h1, ?_⟩
      have : cond (Nat.beq c 0) o (o + 0 * size) = o := by cases Nat.beq c 0 <;> simp
      rw [this, takeAt_eq, if_pos (by omega), List.take_take, Nat.min_eq_left hkn]
  · rename_i b i m s alt q
    obtain ⟨rfl, rfl, hm, h⟩ := h
    have e1 : ∀ n, Nat.beq n n = true := fun n => by simp
    have hb1 : ∀ d m, bound none d m = some d := fun _ _ => rfl
    have hq := ble_true (show k ≤ m - i by omega)
    have him := ble_true (show i ≤ m by omega)
    refine ⟨.gslice b (i + 0) m s (cond (Nat.beq 0 0) alt (i * s)) (k - 0), by simp only [Op.sliceSl, arg, nth_eq, List.getElem?_cons_zero, Option.bind_some, sliceV, hb1, bound_nat hz (show k ≤ m - i by omega), e1, him, hq, Bool.and_self, cond_true], ⟨hlen, by omega, rfl, by omega, ?_⟩, .inr rfl⟩
    rcases h with h | ⟨hb, all, h1, h2⟩
    · left; omega
    · right
      obtain ⟨h3, rfl⟩ := takeAt_some h2
      refine ⟨hb, all, h1, ?_⟩
      rw [Nat.add_zero, takeAt_eq, if_pos (by omega), List.take_take, Nat.min_eq_left hkn]
  · rename_i b
    obtain ⟨rfl, hb⟩ := h
    have : k = 0 := by omega
    subst this
    have hbn : bound none 0 0 = some 0 := rfl
    refine ⟨.eslice b, ?_, ⟨hlen, rfl, hb⟩, .inr rfl⟩
    simp [Op.sliceSl, arg, nth_eq, sliceV, hbn, bound_nat hz (Nat.le_refl 0)]
  · exact h.elim
section
variable {α : Type} {enc : α → List AV} {size : Nat} {H H' : AHeap} {v : AV} {xs : List α}
theorem flatMap_drop (hs : ∀ x, (enc x).length = size) : ∀ (xs : List α) (k : Nat), (xs.flatMap enc).drop (k * size) = (xs.drop k).flatMap enc
  | [], k => by simp
  | x :: xs, 0 => by simp
  | x :: xs, k + 1 => by
    rw [List.flatMap_cons, show (k + 1) * size = (enc x).length + k * size from by rw [hs, Nat.succ_mul]; omega, List.drop_length_add_append, flatMap_drop hs xs k]; rfl
theorem flatMap_take (hs : ∀ x, (enc x).length = size) : ∀ (xs : List α) (k : Nat), (xs.flatMap enc).take (k * size) = (xs.take k).flatMap enc
  | [], k => by simp
  | x :: xs, 0 => by simp
  | x :: xs, k + 1 => by
    rw [List.flatMap_cons, show (k + 1) * size = (enc x).length + k * size from by rw [hs, Nat.succ_mul]; omega, List.take_length_add_append, flatMap_take hs xs k]; rfl
theorem SlT.from (hs : ∀ x, (enc x).length = size) (h : SlT enc size H v xs) {k : Nat} (hk : k ≤ xs.length) {z : Int} (hz : z = k) (kk : IntKind) :
    ∃ v', Op.sliceSl size [some 0, none, none] [v, .int kk z] = some v' ∧ SlT enc size H v' (xs.drop k) ∧ (v' = .nils ∨ slB v' = slB v) := by
  obtain ⟨v', h1, h2, h3⟩ := Sl.from h hk hz kk
  refine ⟨v', h1, ?_, h3⟩
  unfold SlT; rw [List.length_drop, ← flatMap_drop hs]; exact h2
theorem SlT.upto (hs : ∀ x, (enc x).length = size) (h : SlT enc size H v xs) {k : Nat} (hk : k ≤ xs.length) {z : Int} (hz : z = k) (kk : IntKind) :
    ∃ v', Op.sliceSl size [none, some 0, none] [v, .int kk z] = some v' ∧ SlT enc size H v' (xs.take k) ∧ (v' = .nils ∨ slB v' = slB v) := by
  obtain ⟨v', h1, h2, h3⟩ := Sl.upto h hk hz kk
  refine ⟨v', h1, ?_, h3⟩
  unfold SlT; rw [List.length_take, Nat.min_eq_left hk, ← flatMap_take hs]; exact h2

/-- a row of one's own, all of its block -/
def RowT (enc : α → List AV) (e size : Nat) (H : AHeap) (v : AV) (xs : List α) : Prop := ∃ b, v = .slice b 0 xs.length xs.length ∧ b < H.next ∧ H.get b = some (.row (xs.flatMap enc) e (0, 0) true)
theorem RowT.sl {e : Nat} (hs : ∀ x, (enc x).length = size) (h : RowT enc e size H v xs) : SlT enc size H v xs := by
  obtain ⟨b, rfl, h1, h2⟩ := h
  refine ⟨flatMap_len hs xs, rfl, Nat.le_refl _, .inr ⟨h1, _, cellsAt_row h2, ?_⟩⟩
  rw [takeAt_eq, if_pos (by rw [flatMap_len hs]; omega), List.drop_zero, List.take_of_length_le (by rw [flatMap_len hs]; omega)]
theorem RowT.fr {e : Nat} {W : Nat → Prop} (h : RowT enc e size H v xs) (f : Fr W H H') (hw : ¬ W (slB v)) : RowT enc e size H' v xs := by
  obtain ⟨b, rfl, h1, h2⟩ := h
  exact ⟨b, rfl, Nat.lt_of_lt_of_le h1 f.next, by rw [f.keep b h1 hw]; exact h2⟩
theorem RowT.lt {e : Nat} (h : RowT enc e size H v xs) : slB v < H.next := by
  obtain ⟨b, rfl, h1, h2⟩ := h; exact h1
theorem RowT.set1 {e : Nat} (hs : ∀ x, (enc x).length = size) (h : RowT enc e size H v xs) {i : Nat} {x y : α} (hx : xs[i]? = some x) {j : Nat} (hj : j < size) {u : AV} (hu : oneCell u = true) (hy : enc y = (enc x).set j u) :
    ∃ H', Op.store 1 [.ptr (slB v) (slO size v i + j), u] H = some (.undef, H') ∧ RowT enc e size H' v (xs.set i y) ∧ Fr (On (slB v)) H H' := by
  obtain ⟨b, rfl, h1, h2⟩ := h
  have hi := lt_of_get hx
  have hl := flatMap_len hs xs
  have hb : (i + 1) * size ≤ xs.length * size := Nat.mul_le_mul_right _ hi
  rw [Nat.succ_mul] at hb
  have hc : u.cells = [u] := by cases u <;> first | rfl | cases hu
  have hst := store_row h2 (o := i * size + j) (n := 1) (v := u) (by rw [hc]; rfl) (by omega) (by rw [hc, allOne_eq]; simpa using hu)
  have ho : slO size (AV.slice b 0 xs.length xs.length) i = i * size := by simp [slO]
  rw [ho]
  refine ⟨_, hst, ⟨b, ?_, h1, ?_⟩, (Fr.refl H).set (W := On b) (.inl rfl) _⟩
  · rw [List.length_set]
  · rw [get_set_same, flatMap_set hs xs hx, hy, hc, set_mid (L := xs.flatMap enc) (E := enc x) (hs x) hj (by omega) (fun r hr => flatMap_get hs xs hx hr), List.set_eq_take_append_cons_drop, if_pos (by omega)]
    simp
end
theorem repl_eq (n : Nat) (z : List AV) : repl n z = (List.replicate n ()).flatMap fun _ => z := by
  induction n with
  | zero => rfl
  | succ n ih => rw [repl, appL_eq, ih, List.replicate_succ, List.flatMap_cons]
theorem o_mkSlice (e bytes : Nat) (z : List AV) (n : Nat) (k k' : IntKind) (h : n * bytes ≤ 140737488355328) (h' : n ≤ 140737488355328) :
    Op.mkSlice e bytes z [.int k n, .int k' n] = some (.row (repl n z) e (0, 0) true, Op.sliceTo n n) := by
  have h1 : leI 0 (n : Int) = true := by rw [leI_eq]; simp
  have h2 : leI (n : Int) n = true := by rw [leI_eq]; simp
  have h3 : leI ((n : Int) * (bytes : Int)) 140737488355328 = true := by rw [leI_eq]; simp; omega
  have h4 : leI (n : Int) 140737488355328 = true := by rw [leI_eq]; simp; omega
  simp [Op.mkSlice, h1, h2, h3, h4]
end Go.Am
