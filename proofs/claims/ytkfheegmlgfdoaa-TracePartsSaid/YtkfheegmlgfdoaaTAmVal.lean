/- WHAT OPERATIONS ANSWER; SLICES; FRAMES. -/
import Derived.Test.YtkfheegmlgfdoaaTAmLogic2
namespace Go.Am
set_option linter.unusedVariables false
set_option linter.unusedSimpArgs false

/-! ### numbers -/
theorem wrapI_i64 (n : Int) : wrapI .i64 n = (n + 9223372036854775808) % 18446744073709551616 - 9223372036854775808 := by
  simp [wrapI, IntKind.wrap, IntKind.bits, IntKind.signed]; split <;> omega
theorem wrapI_u64 (n : Int) : wrapI .u64 n = n % 18446744073709551616 := by simp [wrapI, IntKind.wrap, IntKind.bits, IntKind.signed]
theorem wrapI_u8 (n : Int) : wrapI .u8 n = n % 256 := by simp [wrapI, IntKind.wrap, IntKind.bits, IntKind.signed]
theorem wrapI_i32 (n : Int) : wrapI .i32 n = (n + 2147483648) % 4294967296 - 2147483648 := by
  simp [wrapI, IntKind.wrap, IntKind.bits, IntKind.signed]; split <;> omega
theorem wrapI_u32 (n : Int) : wrapI .u32 n = n % 4294967296 := by simp [wrapI, IntKind.wrap, IntKind.bits, IntKind.signed]
theorem wrapI_u16 (n : Int) : wrapI .u16 n = n % 65536 := by simp [wrapI, IntKind.wrap, IntKind.bits, IntKind.signed]
theorem wrap_i64 {n : Int} (h : -9223372036854775808 ≤ n) (h' : n < 9223372036854775808) : wrapI .i64 n = n := by rw [wrapI_i64]; omega
theorem wrap_u64 {n : Int} (h : 0 ≤ n) (h' : n < 18446744073709551616) : wrapI .u64 n = n := by rw [wrapI_u64]; omega
theorem wrap_u8 {n : Int} (h : 0 ≤ n) (h' : n < 256) : wrapI .u8 n = n := by rw [wrapI_u8]; omega

section
variable (k : IntKind) (a b : Int)
theorem o_move (v : AV) : Op.move [v] = some v := rfl
theorem o_pick (q : Bool) (a b : AV) : Op.pick [.bool q, a, b] = some (cond q a b) := rfl
theorem o_add : Op.bin .add [.int k a, .int k b] = some (.int k (wrapI k (a + b))) := by cases k <;> rfl
theorem o_sub : Op.bin .sub [.int k a, .int k b] = some (.int k (wrapI k (a - b))) := by cases k <;> rfl
theorem o_mul : Op.bin .mul [.int k a, .int k b] = some (.int k (wrapI k (a * b))) := by cases k <;> rfl
theorem o_quo (hb : b ≠ 0) : Op.bin .quo [.int k a, .int k b] = some (.int k (wrapI k (a.tdiv b))) := by
  have : eqI b 0 = false := by rw [eqI_eq]; simpa using hb
  cases k <;> simp [Op.bin, binV, isShift, eqK, kindN, intBin, this]
theorem o_rem (hb : b ≠ 0) : Op.bin .rem [.int k a, .int k b] = some (.int k (a.tmod b)) := by
  have : eqI b 0 = false := by rw [eqI_eq]; simpa using hb
  cases k <;> simp [Op.bin, binV, isShift, eqK, kindN, intBin, this]
theorem o_eql : Op.bin .eql [.int k a, .int k b] = some (.bool (decide (a = b))) := by
  have : eqI a b = decide (a = b) := by rw [eqI_eq]; rfl
  cases k <;> simp [Op.bin, binV, isShift, eqK, kindN, intBin, this]
theorem o_neq : Op.bin .neq [.int k a, .int k b] = some (.bool (decide (a ≠ b))) := by
  have : eqI a b = decide (a = b) := by rw [eqI_eq]; rfl
  cases k <;> simp [Op.bin, binV, isShift, eqK, kindN, intBin, this]
theorem o_lss : Op.bin .lss [.int k a, .int k b] = some (.bool (decide (a < b))) := by
  cases k <;> simp [Op.bin, binV, isShift, eqK, kindN, intBin, ltI_eq]
theorem o_leq : Op.bin .leq [.int k a, .int k b] = some (.bool (decide (a ≤ b))) := by
  cases k <;> simp [Op.bin, binV, isShift, eqK, kindN, intBin, leI_eq]
theorem o_gtr : Op.bin .gtr [.int k a, .int k b] = some (.bool (decide (b < a))) := by
  cases k <;> simp [Op.bin, binV, isShift, eqK, kindN, intBin, ltI_eq]
theorem o_geq : Op.bin .geq [.int k a, .int k b] = some (.bool (decide (b ≤ a))) := by
  cases k <;> simp [Op.bin, binV, isShift, eqK, kindN, intBin, leI_eq]
theorem o_wrap (k' : IntKind) : Op.wrap k [.int k' a] = some (.int k (wrapI k a)) := rfl
theorem o_not (q : Bool) : Op.un .not [.bool q] = some (.bool (!q)) := rfl
theorem o_neg : Op.un .neg [.int k a] = some (.int k (wrapI k (0 - a))) := rfl
theorem eqS_dec (a b : List UInt8) : eqS a b = decide (a = b) := by
  by_cases h : a = b
  · subst h; simp [eqS_eq]
  · simp [eqS_eq, h]
theorem o_seql (a b : List UInt8) : Op.bin .eql [.str a, .str b] = some (.bool (decide (a = b))) := by
  simp only [Op.bin, binV, strBin, eqS_dec]
theorem o_sneq (a b : List UInt8) : Op.bin .neq [.str a, .str b] = some (.bool (decide (a ≠ b))) := by
  simp [Op.bin, binV, strBin, eqS_dec]
theorem o_cat (a b : List UInt8) (h : a.length + b.length ≤ 140737488355328) : Op.bin .add [.str a, .str b] = some (.str (a ++ b)) := by
  have : Nat.ble (a.length + b.length) 140737488355328 = true := by simpa using h
  simp [Op.bin, binV, strBin, this]
theorem o_lenStr (s : List UInt8) : Op.lenStr [.str s] = some (.int .i64 s.length) := by simp [Op.lenStr, goIntV, lenL_eq]
theorem o_extract (i : Nat) (l : List AV) : Op.extract i [.tuple l] = l[i]? := by simp [Op.extract, nth_eq]
theorem o_mkFunc (f n : Nat) (l : List AV) : Op.mkFunc f n l = some (.fn (.func f) (l.take n) (l.drop n)) := rfl
theorem o_mkIface (t : Nat) (v : AV) : Op.mkIface t [v] = some (.iface t v) := rfl
theorem o_fieldAddr (off b o : Nat) : Op.fieldAddr off [.ptr b o] = some (.ptr b (o + off)) := rfl
theorem o_field1 (off : Nat) (l : List AV) : Op.field off none [.agg l] = l[off]? := by simp [Op.field, partAt, nth_eq]
theorem w_true (q : Bool) : wantV true (some (.bool q)) = some q := by cases q <;> rfl
theorem w_false (q : Bool) : wantV false (some (.bool q)) = some (!q) := by cases q <;> rfl
theorem w_undef (b : Bool) : wantV b (some .undef) = some false := rfl
theorem nth_0 (x : AV) (l : List AV) : nth (x :: l) 0 = some x := rfl
end

/-! ### frames -/
/-- nothing but `W` and what is new has turned -/
structure Fr (W : Nat → Prop) (H H' : AHeap) : Prop where
  next : H.next ≤ H'.next
  keep : ∀ b, b < H.next → ¬ W b → H'.get b = H.get b
def Em : Nat → Prop := fun _ => False
def On (b : Nat) : Nat → Prop := fun x => x = b
theorem Fr.refl {W : Nat → Prop} (H : AHeap) : Fr W H H := ⟨Nat.le_refl _, fun _ _ _ => rfl⟩
theorem Fr.trans {W W' : Nat → Prop} {H H1 H2 : AHeap} (a : Fr W H H1) (b : Fr W' H1 H2) (h : ∀ x, W' x → W x ∨ H.next ≤ x) : Fr W H H2 :=
  ⟨Nat.le_trans a.next b.next, fun x hx hw => by
    rw [b.keep x (Nat.lt_of_lt_of_le hx a.next) (fun hw' => (h x hw').elim hw (fun q => by omega)), a.keep x hx hw]⟩
theorem Fr.em {W : Nat → Prop} {H H1 H2 : AHeap} (a : Fr W H H1) (b : Fr Em H1 H2) : Fr W H H2 := a.trans b fun _ h => h.elim
theorem Fr.mono {W W' : Nat → Prop} {H H' : AHeap} (a : Fr W H H') (h : ∀ x, x < H.next → W x → W' x) : Fr W' H H' := ⟨a.next, fun x hx hw => a.keep x hx fun q => hw (h x hx q)⟩
theorem alloc_next (H : AHeap) (o : AObj) : (H.alloc o).next = H.next + 1 := rfl
theorem set_next (H : AHeap) (b : Nat) (o : AObj) : (H.set b o).next = H.next := rfl
theorem kill_next (H : AHeap) (b : Nat) : (H.kill b).next = H.next := rfl
theorem Fr.alloc {W : Nat → Prop} {H H1 : AHeap} (a : Fr W H H1) (o : AObj) : Fr W H (H1.alloc o) :=
  ⟨Nat.le_succ_of_le a.next, fun x hx hw => by rw [AHeap.get_alloc, if_neg (by have := a.next; omega), a.keep x hx hw]⟩
theorem Fr.set {W : Nat → Prop} {H H1 : AHeap} (a : Fr W H H1) {b : Nat} (h : W b ∨ H.next ≤ b) (o : AObj) : Fr W H (H1.set b o) :=
  ⟨a.next, fun x hx hw => by rw [AHeap.get_set, if_neg (by rintro rfl; exact h.elim hw (fun q => by omega)), a.keep x hx hw]⟩
theorem Fr.kill {W : Nat → Prop} {H H1 : AHeap} (a : Fr W H H1) {b : Nat} (h : W b ∨ H.next ≤ b) : Fr W H (H1.kill b) :=
  ⟨a.next, fun x hx hw => by rw [AHeap.get_kill, if_neg (by rintro rfl; exact h.elim hw (fun q => by omega)), a.keep x hx hw]⟩

theorem cellsAt_row {H : AHeap} {b : Nat} {c : List AV} {e : Nat} {fz : Nat × Nat} {ow : Bool} (h : H.get b = some (.row c e fz ow)) : H.cellsAt b = some c := by simp [AHeap.cellsAt, h]
theorem cellsAt_grown {H : AHeap} {b m s : Nat} {c : List AV} {e : Nat} {fz : Nat × Nat} (h : H.get b = some (.grown m s c e fz)) : H.cellsAt b = some c := by simp [AHeap.cellsAt, h]
theorem cellsAt_of {H H' : AHeap} {b : Nat} (h : H'.get b = H.get b) : H'.cellsAt b = H.cellsAt b := by simp [AHeap.cellsAt, h]
theorem Fr.cells {W : Nat → Prop} {H H' : AHeap} (a : Fr W H H') {b : Nat} (hb : b < H.next) (hw : ¬ W b) : H'.cellsAt b = H.cellsAt b := cellsAt_of (a.keep b hb hw)

theorem load1_of {H : AHeap} {b : Nat} {c : List AV} (h : H.cellsAt b = some c) (o : Nat) : Op.load1 [.ptr b o] H = c[o]? := by simp [Op.load1, AHeap.load1, h, nth_eq]
theorem loadN_of {H : AHeap} {b : Nat} {c : List AV} (h : H.cellsAt b = some c) {o n : Nat} (hn : o + n ≤ c.length) : Op.loadN n [.ptr b o] H = some (.agg ((c.drop o).take n)) := by
  simp only [Op.loadN, AHeap.loadN, h, Option.bind_some, takeAt_eq]
  rw [if_pos (by omega)]; rfl

/-! ### slices that are read -/
/-- a slice of `n` elements of `size` cells; `cells` is all that it holds -/
def Sl (H : AHeap) (size : Nat) (v : AV) (n : Nat) (cells : List AV) : Prop :=
  cells.length = n * size ∧ match v with
  | .nils => n = 0
  | .slice b o m c => m = n ∧ n ≤ c ∧ (n = 0 ∨ b < H.next ∧ ∃ all, H.cellsAt b = some all ∧ takeAt all o (n * size) = some cells)
  | .gslice b i m s alt k => k = n ∧ s = size ∧ i + n ≤ m ∧ (n = 0 ∨ b < H.next ∧ ∃ all, H.cellsAt b = some all ∧ takeAt all (i * size) (n * size) = some cells)
  | .eslice b => n = 0 ∧ b < H.next
  | _ => False
def slB : AV → Nat
  | .slice b _ _ _ => b
  | .gslice b _ _ _ _ _ => b
  | .eslice b => b
  | _ => 0
def slO (size : Nat) : AV → Nat → Nat
  | .slice _ o _ _, j => o + j * size
  | .gslice _ i _ s _ _, j => i * s + j * s
  | _, _ => 0
theorem Sl.lenV {H : AHeap} {size : Nat} {v : AV} {n : Nat} {cells : List AV} (h : Sl H size v n cells) : lenV v = some n := by
  obtain ⟨_, h⟩ := h
  split at h
  · subst h; rfl
  · obtain ⟨rfl, _⟩ := h; rfl
  · obtain ⟨rfl, _⟩ := h; rfl
  · obtain ⟨rfl, _⟩ := h; rfl
  · exact h.elim
theorem Sl.len {H : AHeap} {size : Nat} {v : AV} {n : Nat} {cells : List AV} (h : Sl H size v n cells) : Op.lenSl [v] = some (.int .i64 n) := by
  obtain ⟨_, h⟩ := h
  split at h
  · subst h; rfl
  · obtain ⟨rfl, _⟩ := h; rfl
  · obtain ⟨rfl, _⟩ := h; rfl
  · obtain ⟨rfl, _⟩ := h; rfl
  · exact h.elim
theorem within_nat {z : Int} {i n : Nat} (hz : z = i) (h : i < n) : within z n = some i := by
  subst hz
  show cond (Nat.blt i n) (some i) none = some i
  have : Nat.blt i n = true := by simpa [Nat.blt_eq] using h
  rw [this]; rfl
theorem beq_false {i j : Nat} (h : i ≠ j) : Nat.beq i j = false := by
  cases q : Nat.beq i j with
  | false => rfl
  | true => exact (h (Nat.eq_of_beq_eq_true q)).elim
theorem blt_true {i n : Nat} (h : i < n) : Nat.blt i n = true := by simpa [Nat.blt_eq] using h
theorem ble_true {i n : Nat} (h : i ≤ n) : Nat.ble i n = true := by simpa using h
/-- an element -/
theorem Sl.idx {H : AHeap} {size : Nat} {v : AV} {n : Nat} {cells : List AV} (h : Sl H size v n cells) {i : Nat} (hi : i < n) {z : Int} (hz : z = i) (k : IntKind) :
    Op.indexSl size [v, .int k z] = some (.ptr (slB v) (slO size v i)) := by
  obtain ⟨hl, h⟩ := h
  split at h
  · omega
  · rename_i b o m c
    obtain ⟨rfl, hc, h⟩ := h
    have h1 := blt_true hi
    simp [Op.indexSl, Am.lenV, within_nat hz hi, elemAt, h1, slB, slO]
  · rename_i b j m s alt k
    obtain ⟨rfl, rfl, hm, h⟩ := h
    have h1 := blt_true hi
    have h2 := blt_true (show j + i < m by omega)
    simp [Op.indexSl, Am.lenV, within_nat hz hi, elemAt, h1, h2, slB, slO]
  · omega
  · exact h.elim
theorem takeAt_some {α : Type} {l r : List α} {o n : Nat} (h : takeAt l o n = some r) : n ≤ l.length - o ∧ r = (l.drop o).take n := by
  rw [takeAt_eq] at h
  split at h
  · rename_i hn; injection h with h; exact ⟨hn, h.symm⟩
  · cases h
/-- where an element's cells lie -/
theorem Sl.at {H : AHeap} {size : Nat} {v : AV} {n : Nat} {cells : List AV} (hs0 : 0 < size) (h : Sl H size v n cells) {i : Nat} (hi : i < n) :
    slB v < H.next ∧ ∃ all, H.cellsAt (slB v) = some all ∧ slO size v i + size ≤ all.length ∧ ∀ j, j < size → all[slO size v i + j]? = cells[i * size + j]? := by
  obtain ⟨hl, h⟩ := h
  have hps : 0 < n * size := Nat.mul_pos (by omega) hs0
  have hsz : i * size + size ≤ n * size := by rw [← Nat.succ_mul]; exact Nat.mul_le_mul_right _ hi
  split at h
  · omega
  · rename_i b o m c
    obtain ⟨rfl, hc, h⟩ := h
    rcases h with h | ⟨hb, all, h1, h2⟩
    · omega
    obtain ⟨h3, rfl⟩ := takeAt_some h2
    refine ⟨hb, all, h1, ?_, fun j hj => ?_⟩
    · simp only [slO]; simp at hl; omega
    · simp only [slO]
      rw [List.getElem?_take, if_pos (by omega), List.getElem?_drop]; congr 1; omega
  · rename_i b q m s alt k
    obtain ⟨rfl, rfl, hm, h⟩ := h
    rcases h with h | ⟨hb, all, h1, h2⟩
    · omega
    obtain ⟨h3, rfl⟩ := takeAt_some h2
    refine ⟨hb, all, h1, ?_, fun j hj => ?_⟩
    · simp only [slO]; simp at hl; omega
    · simp only [slO]
      rw [List.getElem?_take, if_pos (by omega), List.getElem?_drop]; congr 1; omega
  · omega
  · exact h.elim
theorem Sl.fr {H H' : AHeap} {W : Nat → Prop} {size : Nat} {v : AV} {n : Nat} {cells : List AV} (h : Sl H size v n cells) (f : Fr W H H') (hw : n = 0 ∨ ¬ W (slB v)) : Sl H' size v n cells := by
  obtain ⟨hl, h⟩ := h
  refine ⟨hl, ?_⟩
  split at h
  · exact h
  · obtain ⟨h1, h2, h3⟩ := h
    refine ⟨h1, h2, ?_⟩
    rcases h3 with h3 | ⟨hb, all, h3, h4⟩
    · exact .inl h3
    · rcases hw with hw | hw
      · exact .inl hw
      · exact .inr ⟨Nat.lt_of_lt_of_le hb f.next, all, by rw [f.cells hb hw]; exact h3, h4⟩
  · obtain ⟨h1, h2, h0, h3⟩ := h
    refine ⟨h1, h2, h0, ?_⟩
    rcases h3 with h3 | ⟨hb, all, h3, h4⟩
    · exact .inl h3
    · rcases hw with hw | hw
      · exact .inl hw
      · exact .inr ⟨Nat.lt_of_lt_of_le hb f.next, all, by rw [f.cells hb hw]; exact h3, h4⟩
  · exact ⟨h.1, Nat.lt_of_lt_of_le h.2 f.next⟩
  · exact h.elim
theorem Sl.em {H H' : AHeap} {size : Nat} {v : AV} {n : Nat} {cells : List AV} (h : Sl H size v n cells) (f : Fr Em H H') : Sl H' size v n cells := h.fr f (.inr id)
theorem loadN_eq {H : AHeap} {b o n : Nat} {all : List AV} (h : H.cellsAt b = some all) (hn : n ≤ all.length - o) : H.loadN b o n = some ((all.drop o).take n) := by
  simp only [AHeap.loadN, h, Option.bind_some, takeAt_eq, if_pos hn]
/-- its first elements -/
theorem Sl.first {H : AHeap} {size : Nat} {v : AV} {n : Nat} {cells : List AV} (h : Sl H size v n cells) : firstCells H size n v = some cells := by
  obtain ⟨hl, h⟩ := h
  split at h
  · subst h; simp at hl; subst hl; rfl
  · rename_i b o m c
    obtain ⟨rfl, hc, h⟩ := h
    rcases h with rfl | ⟨hb, all, h1, h2⟩
    · simp at hl; subst hl; rfl
    · by_cases hn : m = 0
      · subst hn; simp at hl; subst hl; rfl
      · have : Nat.beq m 0 = false := beq_false hn
        simp only [firstCells, this, cond_false, AHeap.loadN, h1, Option.bind_some, h2]
  · rename_i b i m s alt k
    obtain ⟨rfl, rfl, hm, h⟩ := h
    rcases h with rfl | ⟨hb, all, h1, h2⟩
    · simp at hl; subst hl; rfl
    · by_cases hn : k = 0
      · subst hn; simp at hl; subst hl; rfl
      · have : Nat.beq k 0 = false := beq_false hn
        have h3 := blt_true (show i < m by omega)
        simp [firstCells, this, h3, AHeap.loadN, h1, h2]
  · obtain ⟨rfl, _⟩ := h; simp at hl; subst hl; rfl
  · exact h.elim

/-! ### typed slices -/
/-- a slice of elements that are told by `enc` -/
def SlT {α : Type} (enc : α → List AV) (size : Nat) (H : AHeap) (v : AV) (xs : List α) : Prop := Sl H size v xs.length (xs.flatMap enc)
section
variable {α : Type} {enc : α → List AV} {size : Nat} {H H' : AHeap} {v : AV} {xs : List α}
theorem SlT.len (h : SlT enc size H v xs) : Op.lenSl [v] = some (.int .i64 xs.length) := Sl.len h
theorem SlT.fr {W : Nat → Prop} (h : SlT enc size H v xs) (f : Fr W H H') (hw : ¬ W (slB v)) : SlT enc size H' v xs := Sl.fr h f (.inr hw)
theorem SlT.em (h : SlT enc size H v xs) (f : Fr Em H H') : SlT enc size H' v xs := Sl.em h f
theorem flatMap_get (hs : ∀ x, (enc x).length = size) : ∀ (xs : List α) {i : Nat} {x : α}, xs[i]? = some x → ∀ {j : Nat}, j < size → (xs.flatMap enc)[i * size + j]? = (enc x)[j]?
  | [], i, x, h, j, hj => by simp at h
  | y :: ys, 0, x, h, j, hj => by
    simp at h; subst h
    rw [List.flatMap_cons, List.getElem?_append_left (by rw [hs]; omega)]; simp
  | y :: ys, i + 1, x, h, j, hj => by
    simp only [List.getElem?_cons_succ] at h
    rw [List.flatMap_cons, List.getElem?_append_right (by rw [hs, Nat.succ_mul]; omega), hs, ← flatMap_get hs ys h hj]
    congr 1; rw [Nat.succ_mul]; omega
theorem lt_of_get {i : Nat} {x : α} (h : xs[i]? = some x) : i < xs.length := (List.getElem?_eq_some_iff.1 h).1
theorem SlT.idx (h : SlT enc size H v xs) {i : Nat} {x : α} (hx : xs[i]? = some x) {z : Int} (hz : z = i) (k : IntKind) : Op.indexSl size [v, .int k z] = some (.ptr (slB v) (slO size v i)) :=
  Sl.idx h (lt_of_get hx) hz k
theorem SlT.load1 (hs : ∀ x, (enc x).length = size) (h : SlT enc size H v xs) {i : Nat} {x : α} (hx : xs[i]? = some x) {j : Nat} (hj : j < size) : Op.load1 [.ptr (slB v) (slO size v i + j)] H = (enc x)[j]? := by
  obtain ⟨_, all, h1, h2, h3⟩ := Sl.at (by omega) h (lt_of_get hx)
  rw [load1_of h1, h3 j hj, flatMap_get hs xs hx hj]
theorem SlT.load0 (hs : ∀ x, (enc x).length = size) (h : SlT enc size H v xs) {i : Nat} {x : α} (hx : xs[i]? = some x) (hj : 0 < size) : Op.load1 [.ptr (slB v) (slO size v i)] H = (enc x)[0]? := h.load1 hs hx hj
theorem SlT.loadN (hs : ∀ x, (enc x).length = size) (hs0 : 0 < size) (h : SlT enc size H v xs) {i : Nat} {x : α} (hx : xs[i]? = some x) : Op.loadN size [.ptr (slB v) (slO size v i)] H = some (.agg (enc x)) := by
  obtain ⟨_, all, h1, h2, h3⟩ := Sl.at hs0 h (lt_of_get hx)
  rw [loadN_of h1 h2]
  congr 2
  refine List.ext_getElem? fun j => ?_
  by_cases hj : j < size
  · rw [List.getElem?_take, if_pos hj, List.getElem?_drop, h3 j hj, flatMap_get hs xs hx hj]
  · rw [List.getElem?_eq_none (by simp; omega), List.getElem?_eq_none (by rw [hs]; omega)]
end

/-! ### slices that are one's own, and grow -/
/-- one's own slice, made by append: all of its block; the block's number -/
def Own (H : AHeap) (e size : Nat) (v : AV) (n : Nat) (cells : List AV) : Prop :=
  cells.length = n * size ∧ (n = 0 ∧ (v = .nils ∨ ∃ b, v = .slice b 0 0 0 ∧ b < H.next) ∨ ∃ b, v = .gslice b 0 n size 0 n ∧ b < H.next ∧ H.get b = some (.grown n size cells e (0, 0)))
/-- the blocks of a slice -/
def OnS (v : AV) : Nat → Prop := fun x => v ≠ .nils ∧ x = slB v
theorem Own.nil (H : AHeap) (e size : Nat) : Own H e size .nils 0 [] := ⟨by simp, .inl ⟨rfl, .inl rfl⟩⟩
theorem Own.sl {H : AHeap} {e size : Nat} {v : AV} {n : Nat} {cells : List AV} (h : Own H e size v n cells) : Sl H size v n cells := by
  obtain ⟨hl, ⟨rfl, rfl | ⟨b, rfl, hb⟩⟩ | ⟨b, rfl, h1, h2⟩⟩ := h
  · exact ⟨hl, rfl⟩
  · exact ⟨hl, rfl, Nat.le_refl _, .inl rfl⟩
  · refine ⟨hl, rfl, rfl, by omega, .inr ⟨h1, cells, cellsAt_grown h2, ?_⟩⟩
    rw [takeAt_eq, if_pos (by simp [hl])]; simp [← hl]
theorem Own.fr {H H' : AHeap} {W : Nat → Prop} {e size : Nat} {v : AV} {n : Nat} {cells : List AV} (h : Own H e size v n cells) (f : Fr W H H') (hw : ∀ x, OnS v x → ¬ W x) : Own H' e size v n cells := by
  obtain ⟨hl, ⟨h0, h | ⟨b, rfl, hb⟩⟩ | ⟨b, rfl, h1, h2⟩⟩ := h
  · exact ⟨hl, .inl ⟨h0, .inl h⟩⟩
  · exact ⟨hl, .inl ⟨h0, .inr ⟨b, rfl, Nat.lt_of_lt_of_le hb f.next⟩⟩⟩
  · exact ⟨hl, .inr ⟨b, rfl, Nat.lt_of_lt_of_le h1 f.next, by rw [f.keep b h1 (hw b ⟨by simp, rfl⟩)]; exact h2⟩⟩
theorem Own.em {H H' : AHeap} {e size : Nat} {v : AV} {n : Nat} {cells : List AV} (h : Own H e size v n cells) (f : Fr Em H H') : Own H' e size v n cells := h.fr f fun _ _ h => h
theorem Own.lt {H : AHeap} {e size : Nat} {v : AV} {n : Nat} {cells : List AV} (h : Own H e size v n cells) : ∀ x, OnS v x → x < H.next := by
  rintro x ⟨h1, rfl⟩
  obtain ⟨hl, ⟨h0, h | ⟨b, rfl, hb⟩⟩ | ⟨b, rfl, h1, h2⟩⟩ := h
  · exact (h1 h).elim
  · exact hb
  · exact h1
theorem Sl.one {H : AHeap} {size : Nat} {v : AV} {n : Nat} {cells : List AV} (h : Sl H size v n cells) : oneCell v = true := by
  obtain ⟨_, h⟩ := h
  cases v <;> first | rfl | exact h.elim

theorem fits_of {n bytes : Nat} (h1 : n * bytes ≤ 140737488355328) (h2 : n ≤ 140737488355328) : fits n bytes = true := by
  simp [fits, h1, h2]
/-- append to one's own -/
theorem append_own {H : AHeap} {e size bytes : Nat} {v : AV} {n : Nat} {cells : List AV} (h : Own H e size v n cells) {x : AV} {k : Nat} {new : List AV} (hx : Sl H size x k new) (hnew : allOne new = true) (hs : 0 < size)
    (hf : (n + k) * bytes ≤ 140737488355328) (hf' : n + k ≤ 140737488355328) {K : Bool → AV → AHeap → Prop} {m : Bool}
    (hk : ∀ v' H', Own H' e size v' (n + k) (cells ++ new) → Fr (OnS v) H H' → (∀ b, OnS v' b → OnS v b ∨ H.next ≤ b) → K dirty v' H') : BI2 m (Op.append e size bytes [v, x] H) K := by
  have hfit := fits_of hf hf'
  have hlen : new.length = k * size := hx.1
  have hs' := blt_true hs
  have e1 : ∀ n, Nat.beq n n = true := fun n => by simp
  simp only [Op.append, hx.lenV, hx.first, Option.bind_some, hnew, cond_true]
  obtain ⟨hl, ⟨rfl, rfl | ⟨b, rfl, hb⟩⟩ | ⟨b, rfl, h1, h2⟩⟩ := h
  · simp only [Nat.zero_mul, List.length_eq_zero_iff] at hl
    subst hl
    by_cases hk0 : k = 0
    · subst hk0
      simp at hlen; subst hlen
      exact hk .nils H (Own.nil H e size) (Fr.refl H) fun b hb => .inl hb
    · have h0 : Nat.beq k 0 = false := beq_false hk0
      simp only [appendV, h0, cond_false, Nat.zero_add] at hfit ⊢
      simp only [hfit, hs', Bool.and_self, cond_true, grownV, BI2]
      refine hk _ _ ⟨by simpa using hlen, .inr ⟨H.next, by simp, by rw [alloc_next]; omega, ?_⟩⟩ ((Fr.refl H).alloc _) fun b hb => .inr (by rw [hb.2]; exact Nat.le_refl _)
      rw [AHeap.get_alloc, if_pos rfl]; simp
  · simp only [Nat.zero_mul, List.length_eq_zero_iff] at hl
    subst hl
    by_cases hk0 : k = 0
    · subst hk0
      simp at hlen; subst hlen
      simp only [appendV, Nat.add_zero, ble_true (Nat.le_refl 0), cond_true, e1, BI2]
      exact hk _ H ⟨by simp, .inl ⟨rfl, .inr ⟨b, rfl, hb⟩⟩⟩ (Fr.refl H) fun b hb => .inl hb
    · have h0 : Nat.beq k 0 = false := beq_false hk0
      have h3 : Nat.ble k 0 = false := by cases hq : Nat.ble k 0 with | false => rfl | true => rw [Nat.ble_eq] at hq; omega
      have h4 : firstCells H size 0 (.slice b 0 0 0) = some [] := rfl
      simp only [appendV, Nat.zero_add, h3, cond_false] at hfit ⊢
      simp only [hfit, ble_true (Nat.zero_le k), hs', Bool.and_self, cond_true, h4, Option.bind_some, appL_eq, List.nil_append, grownV, BI2]
      refine hk _ _ ⟨by simpa using hlen, .inr ⟨H.next, by simp, by rw [alloc_next]; omega, ?_⟩⟩ ((Fr.refl H).alloc _) fun b hb => .inr (by rw [hb.2]; exact Nat.le_refl _)
      rw [AHeap.get_alloc, if_pos rfl]; simp
  · by_cases hk0 : k = 0
    · subst hk0
      simp at hlen; subst hlen
      simp only [appendV, Nat.beq, cond_true, Nat.zero_add, ble_true (Nat.le_refl n), BI2]
      refine hk _ _ ⟨by simpa using hl, .inr ⟨b, rfl, h1, by simpa using h2⟩⟩ (Fr.refl H) fun b hb => .inl hb
    · have h0 : Nat.beq k 0 = false := beq_false hk0
      have h3 : Nat.ble (0 + n + k) n = false := by cases hq : Nat.ble (0 + n + k) n with | false => rfl | true => rw [Nat.ble_eq] at hq; omega
      simp only [appendV, h0, cond_false, e1, Nat.zero_add, ble_true (Nat.le_refl n), hs', Bool.and_self, cond_true] at h3 ⊢
      simp only [h3, cond_false, hfit, cond_true, h2, e1, Bool.and_self, Nat.beq, ble_true (Nat.zero_le (n * size)), grownV, BI2]
      refine hk _ _ ⟨by simp [hl, hlen, Nat.add_mul], .inr ⟨H.next, by simp [kill_next], by rw [alloc_next, kill_next]; omega, ?_⟩⟩ (((Fr.refl H).kill (.inl ⟨by simp, rfl⟩)).alloc _) fun b hb => .inr (by rw [hb.2]; exact Nat.le_refl _)
      rw [AHeap.get_alloc, kill_next, if_pos rfl, appL_eq]

/-- a new row of one element -/
theorem o_build1 (e n : Nat) (zero : List AV) (v : AV) (hz : zero.length = n) (hv : v.cells.length = n) : Op.buildSlice e 1 zero [(0, n)] [v] = some (.row v.cells e (0, 0) true, Op.sliceTo 1 1) := by
  have e1 : ∀ n, Nat.beq n n = true := fun n => by simp
  simp only [Op.buildSlice, repl, appL_eq, List.append_nil, fillAt, lenL_eq, hv, e1, cond_true, putAt_eq, Nat.zero_add, hz, if_pos (Nat.le_refl n), List.take_zero, List.nil_append, Option.bind_some]
  rw [List.drop_eq_nil_of_le (by omega)]; simp
theorem sl_new {H : AHeap} {size e : Nat} {cells : List AV} (hc : cells.length = size) : Sl (H.alloc (.row cells e (0, 0) true)) size (Op.sliceTo 1 1 H.next) 1 cells := by
  refine ⟨by simp [hc], rfl, Nat.le_refl 1, .inr ⟨by rw [alloc_next]; omega, cells, cellsAt_row (by rw [AHeap.get_alloc, if_pos rfl]), ?_⟩⟩
  rw [takeAt_eq, if_pos (by simp [hc])]; simp [← hc]
/-- append of one element -/
theorem append1 {H : AHeap} {e size bytes : Nat} {v : AV} {n : Nat} {cells : List AV} (h : Own H e size v n cells) {zero : List AV} {x : AV} (hz : zero.length = size) (hx : x.cells.length = size) (hnew : allOne x.cells = true) (hs : 0 < size)
    (hf : (n + 1) * bytes ≤ 140737488355328) (hf' : n + 1 ≤ 140737488355328) {K : AObj → (Nat → AV) → Bool → AV → AHeap → Prop} {m : Bool}
    (hk : ∀ v' H', Own H' e size v' (n + 1) (cells ++ x.cells) → Fr (OnS v) H H' → (∀ b, OnS v' b → OnS v b ∨ H.next ≤ b) → K (.row x.cells e (0, 0) true) (Op.sliceTo 1 1) dirty v' H') :
    BI2 m (Op.buildSlice e 1 zero [(0, size)] [x]) fun g o mk => BI2 g (Op.append e size bytes [v, mk H.next] (H.alloc o)) (K o mk) := by
  rw [o_build1 e size zero x hz hx]
  have hfr : Fr Em H (H.alloc (.row x.cells e (0, 0) true)) := (Fr.refl H).alloc _
  refine BI2.intro rfl ?_
  refine append_own (m := dirty) (h.em hfr) (sl_new hx) hnew hs hf hf' fun v' H' h1 h2 h3 => hk v' H' h1 ?_ fun b hb => ?_
  · exact ⟨Nat.le_trans hfr.next h2.next, fun b hb hw => by rw [h2.keep b (Nat.lt_of_lt_of_le hb hfr.next) hw, hfr.keep b hb (fun q => q)]⟩
  · exact (h3 b hb).imp id fun q => Nat.le_trans hfr.next q

/-! ### loops -/
/-- a loop whose head is told by what is left to do -/
theorem LOOP.intro {W : St → Post → Prop} {keep : Option (List Nat)} {st : St} {Q : Post} (I : Nat → St → Prop) (n : Nat) (h0 : I n st)
    (h : ∀ n st, I n st → W (keepT keep st) fun e st' => match e with
      | .normal => ∃ m, m < n ∧ I m st'
      | e => Q e st') : LOOP W keep st Q := ⟨I, ⟨n, h0⟩, h⟩
end Go.Am
