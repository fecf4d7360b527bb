/- MERGING, PLAINLY. -/
import Derived.Test.YtkfheegmlgfdoaaTAmSim
namespace Go.Am
/-- the time of a list's first event -/
def headT (xss : List (List Evt)) (j : Nat) : Int := match xss[j]? with
  | some (x :: _) => x.time
  | _ => 0
/-- of the first lists: the first one whose first event is earliest -/
def bestU (xss : List (List Evt)) : Nat → Option Nat
  | 0 => none
  | i + 1 => match xss[i]? with
    | some (x :: _) => match bestU xss i with
      | none => some i
      | some j => if x.time < headT xss j then some i else some j
    | _ => bestU xss i
def mergeN : Nat → List (List Evt) → List Evt
  | 0, _ => []
  | n + 1, xss => match bestU xss xss.length with
    | none => []
    | some j => match xss[j]? with
      | some (x :: t) => x :: mergeN n (xss.set j t)
      | _ => []
def total (xss : List (List Evt)) : Nat := (xss.map List.length).sum
def merge (xss : List (List Evt)) : List Evt := mergeN (total xss) xss

theorem bestU_some {xss : List (List Evt)} : ∀ {i j : Nat}, bestU xss i = some j → j < i ∧ ∃ x t, xss[j]? = some (x :: t)
  | 0, j, h => by cases h
  | i + 1, j, h => by
    rw [bestU] at h
    split at h
    · rename_i x t hx
      split at h
      · injection h with h; subst h; exact ⟨Nat.lt_succ_self _, x, t, hx⟩
      · rename_i k hk
        split at h
        · injection h with h; subst h; exact ⟨Nat.lt_succ_self _, x, t, hx⟩
        · injection h with h; subst h
          obtain ⟨h1, h2⟩ := bestU_some hk
          exact ⟨Nat.lt_succ_of_lt h1, h2⟩
    · obtain ⟨h1, h2⟩ := bestU_some h
      exact ⟨Nat.lt_succ_of_lt h1, h2⟩
theorem bestU_none {xss : List (List Evt)} : ∀ {i : Nat}, bestU xss i = none → ∀ j, j < i → ∀ x t, xss[j]? ≠ some (x :: t)
  | 0, h, j, hj => by omega
  | i + 1, h, j, hj => by
    intro x t hx
    rw [bestU] at h
    split at h
    · split at h
      · cases h
      · split at h <;> cases h
    · rename_i hn
      rcases Nat.lt_succ_iff_lt_or_eq.1 hj with q | rfl
      · exact bestU_none h j q x t hx
      · exact hn x t hx
theorem sum_set {l : List Nat} : ∀ {j a b : Nat}, l[j]? = some (a + b) → (l.set j a).sum + b = l.sum := by
  induction l with
  | nil => intro j a b h; simp at h
  | cons c l ih =>
    intro j a b h
    cases j with
    | zero => simp at h; subst h; simp; omega
    | succ j => simp only [List.getElem?_cons_succ] at h; have := ih h; simp only [List.set_cons_succ, List.sum_cons]; omega
theorem total_set {xss : List (List Evt)} {j : Nat} {x : Evt} {t : List Evt} (h : xss[j]? = some (x :: t)) : total (xss.set j t) + 1 = total xss := by
  unfold total
  rw [List.map_set]
  exact sum_set (by rw [List.getElem?_map, h]; rfl)
theorem sum_zero {l : List Nat} (h : l.sum = 0) : ∀ (j a : Nat), l[j]? = some a → a = 0 := by
  induction l with
  | nil => intro j a h; simp at h
  | cons c l ih =>
    intro j a h'
    simp at h
    cases j with
    | zero => simp at h'; omega
    | succ j => exact ih h.2 j a (by simpa using h')
theorem best_none_total {xss : List (List Evt)} : bestU xss xss.length = none ↔ total xss = 0 := by
  constructor
  · intro h
    have := bestU_none h
    unfold total
    have hall : ∀ l ∈ xss, l = [] := by
      intro l hl
      obtain ⟨j, hj, rfl⟩ := List.mem_iff_getElem.1 hl
      cases hc : xss[j] with
      | nil => rfl
      | cons x t => exact (this j hj x t (by rw [List.getElem?_eq_getElem hj, hc])).elim
    clear this h
    induction xss with
    | nil => rfl
    | cons a l ih => simp [hall a (by simp), ih (fun l hl => hall l (by simp [hl]))]
  · intro h
    cases hb : bestU xss xss.length with
    | none => rfl
    | some j =>
      obtain ⟨_, x, t, hx⟩ := bestU_some hb
      have := sum_zero h j (x :: t).length (by rw [List.getElem?_map, hx]; rfl)
      simp at this
theorem merge_step {xss : List (List Evt)} {j : Nat} {x : Evt} {t : List Evt} (hb : bestU xss xss.length = some j) (hx : xss[j]? = some (x :: t)) : merge xss = x :: merge (xss.set j t) := by
  unfold merge
  rw [← total_set hx, mergeN, hb]
  simp only [hx]
theorem merge_end {xss : List (List Evt)} (hb : bestU xss xss.length = none) : merge xss = [] := by
  unfold merge
  rw [best_none_total.1 hb]; rfl
theorem mergeN_len : ∀ (n : Nat) (xss : List (List Evt)), (mergeN n xss).length ≤ n
  | 0, _ => Nat.le_refl 0
  | n + 1, xss => by
    rw [mergeN]
    split
    · exact Nat.zero_le _
    · split
      · rw [List.length_cons]; exact Nat.succ_le_succ (mergeN_len n _)
      · exact Nat.zero_le _
theorem merge_len (xss : List (List Evt)) : (merge xss).length ≤ total xss := mergeN_len _ _
end Go.Am
