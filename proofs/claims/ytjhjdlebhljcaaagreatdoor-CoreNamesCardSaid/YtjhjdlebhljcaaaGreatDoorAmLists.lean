/- THE MACHINE's LISTS AND TRIES: what they are in plain words. -/
import Derived.Test.YtjhjdlebhljcaaaGreatDoorAmComp
namespace Go.Am

/-! ### tries -/
namespace T
variable {α : Type}

theorem go_eq (f : Nat) : ∀ (g i : Nat), i ≤ f → i ≤ g → path.go f i = path.go g i := by
  induction f with
  | zero => intro g i hf hg; obtain rfl : i = 0 := by omega
            cases g <;> simp [path.go]
  | succ f ih =>
    intro g i hf hg
    cases i with
    | zero => cases g <;> simp [path.go]
    | succ n =>
      cases g with
      | zero => omega
      | succ g =>
        simp only [path.go]
        have h : n / 2 ≤ n := Nat.div_le_self n 2
        congr 1
        exact ih g (n / 2) (by omega) (by omega)

theorem path_zero : path 0 = [] := rfl
theorem path_succ (n : Nat) : path (n + 1) = Nat.beq (n % 2) 0 :: path (n / 2) := by
  show path.go (n + 1) (n + 1) = _
  simp only [path.go]
  have h : n / 2 ≤ n := Nat.div_le_self n 2
  exact congrArg (Nat.beq (n % 2) 0 :: ·) (go_eq n (n / 2) (n / 2) h (Nat.le_refl _))

theorem path_inj : ∀ (i j : Nat), path i = path j → i = j := by
  intro i
  induction i using Nat.strongRecOn with
  | _ i ih =>
    intro j h
    cases i with
    | zero => cases j with
      | zero => rfl
      | succ m => rw [path_zero, path_succ] at h; cases h
    | succ n => cases j with
      | zero => rw [path_zero, path_succ] at h; cases h
      | succ m =>
        rw [path_succ, path_succ] at h
        injection h with h1 h2
        have h3 := ih (n / 2) (by have := Nat.div_le_self n 2; omega) (m / 2) h2
        have h4 : n % 2 = m % 2 := by
          rcases Nat.mod_two_eq_zero_or_one n with a | a <;> rcases Nat.mod_two_eq_zero_or_one m with b | b <;> simp_all
        omega

theorem getP_nil (p : List Bool) : getP p (.nil : T α) = none := by
  induction p with
  | nil => rfl
  | cons b p ih => cases b <;> exact ih

theorem getP_putP_same (v : Option α) : ∀ (p : List Bool) (t : T α), getP p (putP v p t) = v := by
  intro p
  induction p with
  | nil => intro t; rfl
  | cons b p ih => intro t; cases b <;> exact ih _

theorem getP_putP_ne (v : Option α) : ∀ (p q : List Bool) (t : T α), p ≠ q → getP q (putP v p t) = getP q t := by
  intro p
  induction p with
  | nil =>
    intro q t h
    cases q with
    | nil => exact absurd rfl h
    | cons b q => cases b <;> rfl
  | cons b p ih =>
    intro q t h
    cases q with
    | nil => cases b <;> rfl
    | cons c q =>
      cases b <;> cases c
      · exact ih q _ (fun e => h (by rw [e]))
      · rfl
      · rfl
      · exact ih q _ (fun e => h (by rw [e]))

theorem get_put (t : T α) (i j : Nat) (v : Option α) : (t.put i v).get j = if i = j then v else t.get j := by
  unfold get put
  by_cases h : i = j
  · subst h; simp [getP_putP_same]
  · simp only [h, if_false]; exact getP_putP_ne v _ _ t (fun e => h (path_inj i j e))
theorem get_set (t : T α) (i j : Nat) (v : α) : (t.set i v).get j = if i = j then some v else t.get j := get_put t i j (some v)
theorem get_nil (j : Nat) : (T.nil : T α).get j = none := getP_nil _

theorem getC_run (p : List Bool) (t : T α) : (getC p).run t = getP p t := by
  induction p generalizing t with
  | nil => rfl
  | cons b p ih => cases b <;> exact ih _
theorem putC_run (v : Option α) (p : List Bool) (t : T α) : (putC p).run v t = putP v p t := by
  induction p generalizing t with
  | nil => rfl
  | cons b p ih =>
    cases b
    · show T.node t.l t.val ((putC p).run v t.r) = T.node t.l t.val (putP v p t.r); rw [ih]
    · show T.node ((putC p).run v t.l) t.val t.r = T.node (putP v p t.l) t.val t.r; rw [ih]
end T

/-! ### lists -/
section
variable {α : Type}
theorem nth_eq (l : List α) (i : Nat) : nth l i = l[i]? := by
  induction l generalizing i with
  | nil => rfl
  | cons x l ih => cases i with
    | zero => rfl
    | succ n => exact ih n
theorem appL_eq (a b : List α) : appL a b = a ++ b := by
  induction a with
  | nil => rfl
  | cons x a ih => exact congrArg (x :: ·) ih
theorem lenL_eq (l : List α) : lenL l = l.length := by
  induction l with
  | nil => rfl
  | cons x l ih => exact congrArg (· + 1) ih
theorem dropL_eq (n : Nat) (l : List α) : dropL n l = l.drop n := by
  induction n generalizing l with
  | zero => rfl
  | succ n ih => cases l with
    | nil => exact (ih []).trans (by simp)
    | cons x l => exact ih l
theorem takeO_eq (n : Nat) (l : List α) : takeO n l = if n ≤ l.length then some (l.take n) else none := by
  induction n generalizing l with
  | zero => rfl
  | succ n ih => cases l with
    | nil => rfl
    | cons x l =>
      show (takeO n l).bind (fun r => some (x :: r)) = _
      rw [ih]
      by_cases h : n ≤ l.length <;> simp [h]
theorem overL_eq (new l : List α) : overL new l = if new.length ≤ l.length then some (new ++ l.drop new.length) else none := by
  induction new generalizing l with
  | nil => rfl
  | cons x new ih => cases l with
    | nil => rfl
    | cons y l =>
      show (overL new l).bind (fun r => some (x :: r)) = _
      rw [ih]
      by_cases h : new.length ≤ l.length <;> simp [h]
theorem putAt_eq (o : Nat) (new l : List α) : putAt o new l = if o + new.length ≤ l.length then some (l.take o ++ new ++ l.drop (o + new.length)) else none := by
  induction o generalizing l with
  | zero => show overL new l = _; rw [overL_eq]; simp
  | succ o ih => cases l with
    | nil =>
      show none = _
      rw [if_neg (by simp only [List.length_nil]; omega)]
    | cons x l =>
      show (putAt o new l).bind (fun r => some (x :: r)) = _
      rw [ih]
      by_cases h : o + new.length ≤ l.length
      · rw [if_pos h, if_pos (by simp; omega)]
        simp [show o + 1 + new.length = (o + new.length) + 1 from by omega]
      · rw [if_neg h, if_neg (by simp; omega)]; rfl
theorem takeAt_eq (l : List α) (o n : Nat) : takeAt l o n = if n ≤ l.length - o then some ((l.drop o).take n) else none := by
  unfold takeAt; rw [takeO_eq, dropL_eq, List.length_drop]
end

theorem leI_eq (a b : Int) : leI a b = decide (a ≤ b) := by
  cases a <;> cases b <;> rw [Bool.eq_iff_iff] <;> simp [leI, Nat.ble_eq] <;> try omega
theorem ltI_eq (a b : Int) : ltI a b = decide (a < b) := by
  unfold ltI; rw [leI_eq]; rw [Bool.eq_iff_iff]; simp
theorem eqI_eq (a b : Int) : eqI a b = (a == b) := by
  rw [Bool.eq_iff_iff, beq_iff_eq]
  cases a <;> cases b <;> simp [eqI] <;> omega
theorem eqK_eq (a b : IntKind) : eqK a b = decide (a = b) := by cases a <;> cases b <;> rfl
theorem eqB_eq (a b : UInt8) : eqB a b = (a == b) := by
  unfold eqB; rw [Bool.eq_iff_iff]; simp only [Nat.beq_eq, beq_iff_eq]; exact ⟨fun h => UInt8.toNat_inj.1 h, fun h => by rw [h]⟩
theorem eqS_eq (a b : List UInt8) : eqS a b = (a == b) := by
  induction a generalizing b with
  | nil => cases b <;> rfl
  | cons x a ih => cases b with
    | nil => rfl
    | cons y b =>
      show cond (eqB x y) (eqS a b) false = _
      rw [ih, eqB_eq]
      cases h : (x == y) <;> simp [h]

end Go.Am
