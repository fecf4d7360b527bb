/- CmX: DecP TraceX TraceY TraceZ Strs NumP. -/
import Derived.Test.YtkfheegmlgfdoaaAmB4
namespace Go.Am
set_option linter.unusedVariables false
set_option linter.unusedSimpArgs false
namespace Lang
def dec (n : Nat) : List UInt8 := if h : n < 10 then [UInt8.ofNat (48 + n)] else dec (n / 10) ++ [UInt8.ofNat (48 + n % 10)]
termination_by n
decreasing_by omega
theorem dec_lt {n : Nat} (h : n < 10) : dec n = [UInt8.ofNat (48 + n)] := by rw [dec]; simp [h]
theorem dec_ge {n : Nat} (h : 10 ≤ n) : dec n = dec (n / 10) ++ [UInt8.ofNat (48 + n % 10)] := by rw [dec]; simp [show ¬ n < 10 by omega]
theorem dec_ne (n : Nat) : dec n ≠ [] := by
  rw [dec]; split <;> simp
theorem dec_len : ∀ (k n : Nat), n < 10 ^ (k + 1) → (dec n).length ≤ k + 1
  | 0, n, h => by rw [dec_lt (by simpa using h)]; simp
  | k + 1, n, h => by
    by_cases h1 : n < 10
    · rw [dec_lt h1]; simp
    · rw [dec_ge (by omega), List.length_append]
      have := dec_len k (n / 10) (by rw [Nat.pow_succ] at h; omega)
      simp; omega
theorem dec_len20 {n : Nat} (h : n < 18446744073709551616) : (dec n).length ≤ 20 := dec_len 19 n (Nat.lt_of_lt_of_le h (by decide))
end Lang
end Go.Am
namespace Go.Am
set_option linter.unusedVariables false
set_option linter.unusedSimpArgs false
namespace Tr
open Lang (dec)
abbrev B := List UInt8
def named (k : Int) : B := if k = 1 then [98, 116, 108] else if k = 2 ∨ k = 3 then [98, 116, 97, 118] else if k = 4 ∨ k = 5 then [98, 116] else if k = 6 then [98, 116, 99] else if k = 7 ∨ k = 8 then [97, 118] else []
def kword (k : Int) : B := if k = 1 then [98, 101, 103, 105, 110] else if k = 2 then [108, 111, 97, 100] else if k = 3 then [115, 116, 111, 114, 101] else if k = 4 then [112, 111, 105, 110, 116] else if k = 5 then [99, 111, 109, 109, 105, 116] else if k = 6 then [97, 98, 111, 114, 116] else if k = 7 then [112, 108, 97, 105, 110] else if k = 8 then [119, 114, 105, 116, 101] else []
def wordsOf (l : UInt8) : List B := if l = 108 then [[], [102, 97, 115, 116], [115, 108, 111, 119], [115, 111, 102, 116], [115, 101, 114, 105, 97, 108]] else if l = 99 then [[], [99, 111, 110, 102, 108, 105, 99, 116], [115, 117, 98], [99, 97, 112, 97, 99, 105, 116, 121], [101, 118, 105, 99, 116], [115, 112, 117, 114, 105, 111, 117, 115], [98, 117, 115, 121], [105, 108, 108, 101, 103, 97, 108], [115, 111, 102, 116]] else []
def getN (x : Evt) (l : UInt8) : Int := if l = 118 then x.value else if l = 98 then x.block else if l = 116 then x.try' else if l = 108 then x.lane else if l = 97 then x.addr else x.code
def setN (x : Evt) (l : UInt8) (n : Int) : Evt := if l = 118 then { x with value := n } else if l = 98 then { x with block := n } else if l = 116 then { x with try' := n } else if l = 108 then { x with lane := n } else if l = 97 then { x with addr := n } else { x with code := n }
def mayN (l : UInt8) (n : Int) : Bool := if l = 118 then true else decide (0 ≤ n ∧ ((wordsOf l).length = 0 ∨ 1 ≤ n ∧ n < (wordsOf l).length))
def fresh (k c t : Int) : Evt := ⟨k, t, c, if 7 ≤ k then -1 else 0, 0, 0, 0, 0, 0⟩
def goSet (x : Evt) : B → Evt → Option Evt
  | [], y => some y
  | l :: r, y => if mayN l (getN x l) then goSet x r (setN y l (getN x l)) else none
def fineB (x : Evt) : Bool := decide (1 ≤ x.kind ∧ x.kind ≤ 8 ∧ 0 ≤ x.core ∧ x.core < 4 ∧ 0 ≤ x.time) && decide (goSet x (named x.kind) (fresh x.kind x.core x.time) = some x)
def putB (n : Nat) : B := if h : n < 128 then [UInt8.ofNat n] else UInt8.ofNat (n % 128 + 128) :: putB (n / 128)
termination_by n
decreasing_by omega
theorem putB_lt {n : Nat} (h : n < 128) : putB n = [UInt8.ofNat n] := by rw [putB]; simp [h]
theorem putB_ge {n : Nat} (h : 128 ≤ n) : putB n = UInt8.ofNat (n % 128 + 128) :: putB (n / 128) := by rw [putB]; simp [show ¬ n < 128 by omega]
theorem putB_len : ∀ (k n : Nat), n < 128 ^ (k + 1) → (putB n).length ≤ k + 1
  | 0, n, h => by rw [putB_lt (by simpa using h)]; simp
  | k + 1, n, h => by
    by_cases h1 : n < 128
    · rw [putB_lt h1]; simp
    · rw [putB_ge (by omega), List.length_cons]
      have := putB_len k (n / 128) (by rw [Nat.pow_succ] at h; omega)
      omega
def numB (x : Evt) (l : UInt8) : Nat := (getN x l).toNat
def encE (x : Evt) : B := UInt8.ofNat x.kind.toNat :: (putB x.core.toNat ++ (putB x.time.toNat ++ (named x.kind).flatMap fun l => putB (numB x l)))
def wordB (x : Evt) (l : UInt8) : B := match (wordsOf l)[numB x l]? with
  | some w => w
  | none => dec (numB x l)
def lineB (x : Evt) : B := dec x.time.toNat ++ ([32] ++ (dec x.core.toNat ++ ([32] ++ (kword x.kind ++ (named x.kind).flatMap fun l => 32 :: wordB x l))))
def allB (one : Evt → B) (h : List Evt) : Option B := if h.all fineB then some (h.flatMap one) else none
def takeGo : Nat → Nat → B → Option (Nat × B)
  | _, _, [] => none
  | k, v, c :: r => if k = 10 ∨ k = 9 ∧ 1 < c.toNat then none else if c.toNat < 128 then (if k = 0 ∨ 0 < c.toNat then some (v + c.toNat % 128 * 128 ^ k, r) else none) else takeGo (k + 1) (v + c.toNat % 128 * 128 ^ k) r
def takeB (b : B) : Option (Nat × B) := takeGo 0 0 b
def goTake : B → Evt → B → Option (Evt × B)
  | [], y, b => some (y, b)
  | l :: r, y, b => match takeB b with
    | none => none
    | some (v, b') => if (l = 118 ∨ v < 9223372036854775808) ∧ mayN l v then goTake r (setN y l v) b' else none
def oneB : B → Option (Evt × B)
  | [] => none
  | k :: b => if 1 ≤ k.toNat ∧ k.toNat ≤ 8 then
      match takeB b with
      | none => none
      | some (c, b1) => match takeB b1 with
        | none => none
        | some (t, b2) => if c < 4 ∧ t < 9223372036854775808 then goTake (named k.toNat) (fresh k.toNat c t) b2 else none
    else none
def decB : Nat → B → Option (List Evt)
  | _, [] => some []
  | 0, _ :: _ => none
  | n + 1, b => match oneB b with
    | none => none
    | some (x, r) => match decB n r with
      | none => none
      | some l => some (x :: l)
end Tr
end Go.Am
namespace Go.Am
set_option linter.unusedVariables false
set_option linter.unusedSimpArgs false
namespace Tr
theorem ofNat_lt {n : Nat} (h : n < 256) : (UInt8.ofNat n).toNat = n := by simp [UInt8.toNat_ofNat']; omega
theorem toNat_ofNat (c : UInt8) : UInt8.ofNat c.toNat = c := by simp
theorem pow_le9 {k : Nat} (h : 128 ^ k < 18446744073709551616) : k ≤ 9 := by
  rcases Nat.lt_or_ge k 10 with h1 | h1
  · omega
  · have : 128 ^ 10 ≤ 128 ^ k := Nat.pow_le_pow_right (by decide) h1
    have : (128 : Nat) ^ 10 = 1180591620717411303424 := by decide
    omega
theorem split_mul (n p : Nat) : n % 128 * p + n / 128 * (p * 128) = n * p := by
  have h : n / 128 * (p * 128) = 128 * (n / 128) * p := by rw [Nat.mul_comm p 128, ← Nat.mul_assoc, Nat.mul_comm (n / 128) 128]
  rw [h, ← Nat.add_mul, Nat.add_comm, Nat.div_add_mod]
theorem take_put (r : B) : ∀ (n k v : Nat), n * 128 ^ k < 18446744073709551616 → (k = 0 ∨ 0 < n) → k ≤ 9 → takeGo k v (putB n ++ r) = some (v + n * 128 ^ k, r) := by
  intro n
  induction n using Nat.strongRecOn with
  | _ n ih =>
    intro k v hn h0 hk
    have hk9 : k = 9 → n ≤ 1 := fun h => by
      subst h
      have : (128 : Nat) ^ 9 = 9223372036854775808 := by decide
      rw [this] at hn; omega
    by_cases h : n < 128
    · rw [putB_lt h, List.singleton_append, takeGo]
      have e : (UInt8.ofNat n).toNat = n := ofNat_lt (by omega)
      rw [e, if_neg (by omega), if_pos h, if_pos (by omega), Nat.mod_eq_of_lt h]
    · rw [putB_ge (by omega), List.cons_append, takeGo]
      have e : (UInt8.ofNat (n % 128 + 128)).toNat = n % 128 + 128 := ofNat_lt (by omega)
      rw [e, if_neg (by omega), if_neg (by omega)]
      have hle : 128 ^ k * 128 ≤ n * 128 ^ k := by rw [Nat.mul_comm]; exact Nat.mul_le_mul_right _ (by omega)
      have hs := split_mul n (128 ^ k)
      have hk' : k + 1 ≤ 9 := pow_le9 (by rw [Nat.pow_succ]; omega)
      rw [ih (n / 128) (by omega) (k + 1) _ (by rw [Nat.pow_succ]; omega) (.inr (by omega)) hk']
      rw [Nat.pow_succ, show (n % 128 + 128) % 128 = n % 128 by omega, Nat.add_assoc, hs]
theorem put_take : ∀ (b : B) (k v w : Nat) (r : B), k ≤ 10 → takeGo k v b = some (w, r) → ∃ n, w = v + n * 128 ^ k ∧ b = putB n ++ r ∧ n * 128 ^ k < 18446744073709551616 ∧ (k = 0 ∨ 0 < n)
  | [], k, v, w, r, _, h => by cases h
  | c :: b, k, v, w, r, hk, h => by
    rw [takeGo] at h
    split at h
    · cases h
    · rename_i h1
      have hc := c.toNat_lt
      have hp : 128 ^ k ≤ 9223372036854775808 := by
        have : 128 ^ k ≤ 128 ^ 9 := Nat.pow_le_pow_right (by decide) (by omega)
        exact Nat.le_trans this (by decide)
      have hp8 : k ≠ 9 → 128 ^ k ≤ 72057594037927936 := fun h => by
        have : 128 ^ k ≤ 128 ^ 8 := Nat.pow_le_pow_right (by decide) (by omega)
        exact Nat.le_trans this (by decide)
      split at h
      · rename_i h2
        split at h
        · rename_i h3
          injection h with h; injection h with h4 h5
          subst h4; subst h5
          refine ⟨c.toNat, by rw [Nat.mod_eq_of_lt h2], by rw [putB_lt h2, toNat_ofNat]; rfl, ?_, h3⟩
          by_cases h9 : k = 9
          · have : c.toNat ≤ 1 := by omega
            have : c.toNat * 128 ^ k ≤ 1 * 9223372036854775808 := Nat.mul_le_mul this hp
            omega
          · have : c.toNat * 128 ^ k ≤ 127 * 72057594037927936 := Nat.mul_le_mul (by omega) (hp8 h9)
            omega
        · cases h
      · rename_i h2
        obtain ⟨n, h3, h4, h5, h6⟩ := put_take b (k + 1) _ w r (by omega) h
        have hs := split_mul (c.toNat % 128 + 128 * n) (128 ^ k)
        rw [show (c.toNat % 128 + 128 * n) % 128 = c.toNat % 128 by omega, show (c.toNat % 128 + 128 * n) / 128 = n by omega] at hs
        rw [Nat.pow_succ] at h3 h5
        have hn : 0 < n := by omega
        refine ⟨c.toNat % 128 + 128 * n, by omega, ?_, ?_, .inr (by omega)⟩
        · rw [putB_ge (by omega), show (c.toNat % 128 + 128 * n) % 128 + 128 = c.toNat by omega, show (c.toNat % 128 + 128 * n) / 128 = n by omega, toNat_ofNat, h4]; rfl
        · rw [← hs]
          have hk9 : k ≤ 8 := by
            have : 128 ^ k * 128 < 18446744073709551616 := Nat.lt_of_le_of_lt (Nat.le_mul_of_pos_left _ hn) h5
            have := pow_le9 (k := k + 1) (by rw [Nat.pow_succ]; exact this)
            omega
          have h8 := hp8 (by omega)
          have hq : 128 ^ k * 128 ≤ 9223372036854775808 := by omega
          -- n * q < 2^64, q a power of two that divides 2^64
          have hm : c.toNat % 128 * 128 ^ k < 128 ^ k * 128 := by rw [Nat.mul_comm]; exact Nat.mul_lt_mul_of_pos_left (by omega) (Nat.pow_pos (by decide))
          have hdvd : ∃ m, 18446744073709551616 = m * (128 ^ k * 128) := by
            have : ∀ k, k ≤ 8 → ∃ m, 18446744073709551616 = m * (128 ^ k * 128) := fun k hk => ⟨18446744073709551616 / (128 ^ k * 128), by
              have : ∀ k, k ≤ 8 → 18446744073709551616 = 18446744073709551616 / (128 ^ k * 128) * (128 ^ k * 128) := by decide
              exact this k hk⟩
            exact this k hk9
          obtain ⟨m, hm'⟩ := hdvd
          rw [hm'] at h5 ⊢
          have : n < m := Nat.lt_of_mul_lt_mul_right h5
          have : (n + 1) * (128 ^ k * 128) ≤ m * (128 ^ k * 128) := Nat.mul_le_mul_right _ this
          rw [Nat.add_mul] at this
          omega
theorem takeB_put {n : Nat} (h : n < 18446744073709551616) (r : B) : takeB (putB n ++ r) = some (n, r) := by
  have := take_put r n 0 0 (by simpa using h) (.inl rfl) (by decide)
  simpa [takeB] using this
theorem takeB_some {b r : B} {n : Nat} (h : takeB b = some (n, r)) : b = putB n ++ r ∧ n < 18446744073709551616 := by
  obtain ⟨m, h1, h2, h3, _⟩ := put_take b 0 0 n r (by decide) h
  simp at h1 h3; subst h1; exact ⟨h2, h3⟩
def isL (l : UInt8) : Prop := l = 118 ∨ l = 98 ∨ l = 116 ∨ l = 108 ∨ l = 97 ∨ l = 99
instance (l : UInt8) : Decidable (isL l) := by unfold isL; infer_instance
theorem get_set {y : Evt} {l l' : UInt8} {n : Int} (hl : isL l) (hl' : isL l') : getN (setN y l n) l' = if l = l' then n else getN y l' := by
  rcases hl with rfl | rfl | rfl | rfl | rfl | rfl <;> rcases hl' with rfl | rfl | rfl | rfl | rfl | rfl <;> rfl
theorem set_head {y : Evt} {l : UInt8} {n : Int} : (setN y l n).kind = y.kind ∧ (setN y l n).core = y.core ∧ (setN y l n).time = y.time := by
  unfold setN; split; · exact ⟨rfl, rfl, rfl⟩
  split; · exact ⟨rfl, rfl, rfl⟩
  split; · exact ⟨rfl, rfl, rfl⟩
  split; · exact ⟨rfl, rfl, rfl⟩
  split <;> exact ⟨rfl, rfl, rfl⟩
theorem named_ok (k : Int) : (∀ l ∈ named k, isL l) ∧ (named k).Nodup := by
  unfold named isL
  split; · decide
  split; · decide
  split; · decide
  split; · decide
  split <;> decide
structure EvR (x : Evt) : Prop where
  v0 : 0 ≤ x.value
  v : x.value < 18446744073709551616
  core : x.core < 9223372036854775808
  time : x.time < 9223372036854775808
  kind : x.kind < 9223372036854775808
  block : x.block < 9223372036854775808
  tr : x.try' < 9223372036854775808
  lane : x.lane < 9223372036854775808
  addr : x.addr < 9223372036854775808
  code : x.code < 9223372036854775808
theorem EvR.get {x : Evt} (h : EvR x) {l : UInt8} (hl : isL l) (hm : mayN l (getN x l) = true) : 0 ≤ getN x l ∧ getN x l < 18446744073709551616 ∧ (l = 118 ∨ getN x l < 9223372036854775808) := by
  obtain ⟨h1, h2, h3, h4, h5, h6, h7, h8, h9, h10⟩ := h
  rcases hl with rfl | rfl | rfl | rfl | rfl | rfl
  · exact ⟨h1, h2, .inl rfl⟩
  all_goals
    unfold mayN at hm; rw [if_neg (by decide)] at hm
    have := (of_decide_eq_true hm).1
    refine ⟨this, ?_, .inr ?_⟩ <;> simp only [getN] at * <;> (first | omega | (simp at *; omega))
theorem goTake_put {x : Evt} (hx : EvR x) (r : B) : ∀ (ls : B) (y z : Evt), (∀ l ∈ ls, isL l) → goSet x ls y = some z → goTake ls y ((ls.flatMap fun l => putB (numB x l)) ++ r) = some (z, r)
  | [], y, z, _, h => by injection h with h; subst h; rfl
  | l :: ls, y, z, hl, h => by
    rw [goSet] at h
    split at h
    · rename_i hm
      obtain ⟨h1, h2, h3⟩ := hx.get (hl l (List.mem_cons_self ..)) hm
      have en : ((numB x l : Nat) : Int) = getN x l := by unfold numB; omega
      rw [List.flatMap_cons, List.append_assoc, goTake, takeB_put (by unfold numB; omega)]
      simp only
      rw [if_pos ⟨h3.imp id fun q => by unfold numB; omega, by rw [en]; exact hm⟩, en]
      exact goTake_put hx r ls _ z (fun l' h' => hl l' (List.mem_cons_of_mem _ h')) h
    · cases h
theorem goTake_some : ∀ (ls : B) (y z : Evt) (b r : B), (∀ l ∈ ls, isL l) → ls.Nodup → goTake ls y b = some (z, r) →
    (b = (ls.flatMap fun l => putB (numB z l)) ++ r) ∧ goSet z ls y = some z ∧ (∀ l, isL l → l ∉ ls → getN z l = getN y l) ∧ z.kind = y.kind ∧ z.core = y.core ∧ z.time = y.time ∧ ∀ l ∈ ls, 0 ≤ getN z l ∧ getN z l < 18446744073709551616 ∧ (l = 118 ∨ getN z l < 9223372036854775808)
  | [], y, z, b, r, _, _, h => by
    injection h with h; injection h with h1 h2; subst h1; subst h2
    exact ⟨rfl, rfl, fun _ _ _ => rfl, rfl, rfl, rfl, fun l h => by cases h⟩
  | l :: ls, y, z, b, r, hl, hn, h => by
    rw [goTake] at h
    split at h
    · cases h
    · rename_i v b' hb
      split at h
      · rename_i hm
        obtain ⟨hnl, hn'⟩ := List.nodup_cons.1 hn
        have hl0 := hl l (List.mem_cons_self ..)
        obtain ⟨h1, h2, h3, h4, h5, h6, h7⟩ := goTake_some ls _ z b' r (fun l' h' => hl l' (List.mem_cons_of_mem _ h')) hn' h
        have hg : getN z l = v := by rw [h3 l hl0 hnl, get_set hl0 hl0, if_pos rfl]
        have hv : numB z l = v := by unfold numB; rw [hg]; rfl
        obtain ⟨e1, e2⟩ := takeB_some hb
        obtain ⟨s1, s2, s3⟩ := set_head (y := y) (l := l) (n := v)
        refine ⟨?_, ?_, ?_, h4.trans s1, h5.trans s2, h6.trans s3, ?_⟩
        · rw [List.flatMap_cons, hv, List.append_assoc, ← h1, e1]
        · rw [goSet, hg, if_pos hm.2]; exact h2
        · intro l' hl' hm'
          rw [h3 l' hl' (fun q => hm' (List.mem_cons_of_mem _ q)), get_set hl0 hl', if_neg (fun (q : l = l') => hm' (by rw [← q]; exact List.mem_cons_self ..))]
        · intro l' hl'
          rcases List.mem_cons.1 hl' with rfl | hl'
          · rw [hg]; exact ⟨by omega, by omega, hm.1.imp id fun q => by omega⟩
          · exact h7 l' hl'
      · cases h
theorem fine_parts {x : Evt} (h : fineB x = true) : (1 ≤ x.kind ∧ x.kind ≤ 8 ∧ 0 ≤ x.core ∧ x.core < 4 ∧ 0 ≤ x.time) ∧ goSet x (named x.kind) (fresh x.kind x.core x.time) = some x := by
  simp only [fineB, Bool.and_eq_true, decide_eq_true_eq] at h; exact h
theorem one_enc {x : Evt} (hx : EvR x) (hf : fineB x = true) (r : B) : oneB (encE x ++ r) = some (x, r) := by
  obtain ⟨⟨h1, h2, h3, h4, h5⟩, h6⟩ := fine_parts hf
  obtain ⟨hl, _⟩ := named_ok x.kind
  rw [encE, List.cons_append, oneB, ofNat_lt (by omega), if_pos (by omega), List.append_assoc, takeB_put (by omega)]
  simp only
  rw [List.append_assoc, takeB_put (by have := hx.time; omega)]
  simp only
  rw [if_pos ⟨by omega, by have := hx.time; omega⟩]
  have e1 : ((x.kind.toNat : Nat) : Int) = x.kind := by omega
  have e2 : ((x.core.toNat : Nat) : Int) = x.core := by omega
  have e3 : ((x.time.toNat : Nat) : Int) = x.time := by omega
  rw [e1, e2, e3]
  exact goTake_put hx r _ _ _ hl h6
theorem get_fresh {k c t : Int} {l : UInt8} (hl : isL l) : getN (fresh k c t) l < 9223372036854775808 ∧ (l = 118 → getN (fresh k c t) l = 0) := by
  unfold fresh
  rcases hl with rfl | rfl | rfl | rfl | rfl | rfl <;> simp [getN] <;> split <;> omega
theorem one_some {b r : B} {x : Evt} (h : oneB b = some (x, r)) : b = encE x ++ r ∧ fineB x = true ∧ EvR x := by
  cases b with
  | nil => cases h
  | cons k b =>
    rw [oneB] at h
    split at h
    · rename_i hk
      split at h
      · cases h
      · rename_i c b1 hc
        split at h
        · cases h
        · rename_i t b2 ht
          split at h
          · rename_i hct
            obtain ⟨hl, hn⟩ := named_ok (k.toNat : Nat)
            obtain ⟨h1, h2, h3, h4, h5, h6, h7⟩ := goTake_some _ _ _ _ _ hl hn h
            obtain ⟨q1, q2⟩ := takeB_some hc
            obtain ⟨q3, q4⟩ := takeB_some ht
            have e1 : x.kind = (k.toNat : Nat) := h4
            have e2 : x.core = (c : Nat) := h5
            have e3 : x.time = (t : Nat) := h6
            have hr : ∀ l, isL l → getN x l < 18446744073709551616 ∧ (l = 118 → 0 ≤ getN x l) ∧ (l = 118 ∨ getN x l < 9223372036854775808) := fun l hq => by
              by_cases hm : l ∈ named (k.toNat : Nat)
              · obtain ⟨a, b, c⟩ := h7 l hm; exact ⟨b, fun _ => a, c⟩
              · rw [h3 l hq hm]
                obtain ⟨a, b⟩ := get_fresh (k := (k.toNat : Nat)) (c := c) (t := t) hq
                exact ⟨by omega, fun q => by rw [b q]; decide, .inr a⟩
            have hr' : ∀ l, isL l → l ≠ 118 → getN x l < 9223372036854775808 := fun l hq hn => (hr l hq).2.2.resolve_left hn
            refine ⟨?_, ?_, ?_⟩
            · rw [encE, e1, e2, e3, Int.toNat_natCast, Int.toNat_natCast, Int.toNat_natCast, toNat_ofNat, q1, q3, h1]
              simp [List.append_assoc]
            · simp only [fineB, Bool.and_eq_true, decide_eq_true_eq]
              rw [e1, e2, e3]
              exact ⟨⟨by omega, by omega, by omega, by omega, by omega⟩, h2⟩
            · refine ⟨(hr 118 (.inl rfl)).2.1 rfl, (hr 118 (.inl rfl)).1, by omega, by omega, by have := k.toNat_lt; omega, hr' 98 (by decide) (by decide), hr' 116 (by decide) (by decide), hr' 108 (by decide) (by decide), hr' 97 (by decide) (by decide), hr' 99 (by decide) (by decide)⟩
          · cases h
    · cases h
theorem encE_ne (x : Evt) : encE x ≠ [] := by simp [encE]
theorem dec_enc : ∀ (h : List Evt) (n : Nat), h.length ≤ n → (∀ x ∈ h, EvR x ∧ fineB x = true) → decB n (h.flatMap encE) = some h
  | [], n, _, _ => by cases n <;> rfl
  | x :: h, 0, hl, _ => by simp at hl
  | x :: h, n + 1, hl, hx => by
    obtain ⟨h1, h2⟩ := hx x (List.mem_cons_self ..)
    rw [List.flatMap_cons]
    have e : decB (n + 1) (encE x ++ h.flatMap encE) = match oneB (encE x ++ h.flatMap encE) with
      | none => none
      | some (x, r) => match decB n r with
        | none => none
        | some l => some (x :: l) := by
      cases hq : encE x ++ h.flatMap encE with
      | nil => simp [encE] at hq
      | cons c q => rfl
    rw [e, one_enc h1 h2]
    simp only
    rw [dec_enc h n (by simpa using hl) fun y hy => hx y (List.mem_cons_of_mem _ hy)]
theorem enc_dec : ∀ (n : Nat) (b : B) (h : List Evt), decB n b = some h → b = h.flatMap encE ∧ ∀ x ∈ h, EvR x ∧ fineB x = true
  | n, [], h, hd => by
    have : decB n [] = some [] := by cases n <;> rfl
    rw [this] at hd; injection hd with hd; subst hd
    exact ⟨rfl, fun x hx => by cases hx⟩
  | 0, _ :: _, h, hd => by cases hd
  | n + 1, c :: b, h, hd => by
    rw [decB] at hd
    split at hd
    · cases hd
    · rename_i x r hx
      split at hd
      · cases hd
      · rename_i l hl
        injection hd with hd; subst hd
        obtain ⟨h1, h2⟩ := enc_dec n r l hl
        obtain ⟨q1, q2, q3⟩ := one_some hx
        refine ⟨by rw [q1, List.flatMap_cons, h1], fun y hy => ?_⟩
        rcases List.mem_cons.1 hy with rfl | hy
        · exact ⟨q3, q2⟩
        · exact h2 y hy
    · simp
end Tr
end Go.Am
namespace Go.Am
set_option linter.unusedVariables false
set_option linter.unusedSimpArgs false
namespace Tr
open Lang (dec dec_lt dec_ge dec_ne)
def valOf (s : B) : Nat := s.foldl (fun a c => a * 10 + (c.toNat - 48)) 0
theorem valOf_app (s : B) (c : UInt8) : valOf (s ++ [c]) = valOf s * 10 + (c.toNat - 48) := by simp [valOf]
theorem valOf_dec (n : Nat) : valOf (dec n) = n := by
  induction n using Nat.strongRecOn with
  | _ n ih =>
    by_cases h : n < 10
    · rw [dec_lt h]
      show 0 * 10 + ((UInt8.ofNat (48 + n)).toNat - 48) = n
      rw [ofNat_lt (by omega)]; omega
    · rw [dec_ge (by omega), valOf_app, ih _ (by omega), ofNat_lt (by omega)]; omega
def numS (s : B) : Option Nat := if s = dec (valOf s) ∧ valOf s < 18446744073709551616 then some (valOf s) else none
theorem numS_some {s : B} {n : Nat} : numS s = some n ↔ s = dec n ∧ n < 18446744073709551616 := by
  unfold numS
  constructor
  · intro h
    split at h
    · rename_i q; injection h with h; subst h; exact q
    · cases h
  · rintro ⟨rfl, h⟩
    rw [valOf_dec, if_pos ⟨rfl, h⟩]
def splitB (c : UInt8) : B → List B
  | [] => [[]]
  | d :: s => if d = c then [] :: splitB c s else match splitB c s with
    | [] => [[d]]
    | w :: ws => (d :: w) :: ws
def joinB (c : UInt8) : List B → B
  | [] => []
  | [w] => w
  | w :: w' :: ws => w ++ c :: joinB c (w' :: ws)
theorem splitB_ne (c : UInt8) (s : B) : splitB c s ≠ [] := by
  cases s with
  | nil => simp [splitB]
  | cons d s => rw [splitB]; split <;> (try split) <;> simp
theorem split_app (c : UInt8) (s : B) : ∀ (w : B), c ∉ w → splitB c (w ++ c :: s) = w :: splitB c s
  | [], _ => by simp [splitB]
  | d :: w, h => by
    have h1 : d ≠ c := fun e => h (by simp [e])
    rw [List.cons_append, splitB, if_neg h1, split_app c s w fun q => h (List.mem_cons_of_mem _ q)]
theorem split_one (c : UInt8) : ∀ (w : B), c ∉ w → splitB c w = [w]
  | [], _ => rfl
  | d :: w, h => by
    have h1 : d ≠ c := fun e => h (by simp [e])
    rw [splitB, if_neg h1, split_one c w fun q => h (List.mem_cons_of_mem _ q)]
theorem join_split (c : UInt8) : ∀ (s : B), joinB c (splitB c s) = s
  | [] => rfl
  | d :: s => by
    have ih := join_split c s
    rw [splitB]
    split
    · rename_i h; subst h
      cases hq : splitB d s with
      | nil => exact absurd hq (splitB_ne d s)
      | cons w ws => rw [hq] at ih; rw [joinB, List.nil_append, ih]
    · cases hq : splitB c s with
      | nil => exact absurd hq (splitB_ne c s)
      | cons w ws =>
        rw [hq] at ih
        cases ws with
        | nil => simp only [joinB] at ih ⊢; rw [ih]
        | cons w' ws => simp only [joinB, List.cons_append] at ih ⊢; rw [ih]
theorem split_flat (c : UInt8) {α : Type} (f : α → B) : ∀ (l : List α) (w : B), c ∉ w → (∀ x ∈ l, c ∉ f x) → splitB c (w ++ l.flatMap fun x => c :: f x) = w :: l.map f
  | [], w, hw, _ => by simpa using split_one c w hw
  | x :: l, w, hw, h => by
    rw [List.flatMap_cons, List.map_cons, List.cons_append, split_app c _ w hw, split_flat c f l (f x) (h x (List.mem_cons_self ..)) fun y hy => h y (List.mem_cons_of_mem _ hy)]
theorem join_flat (c : UInt8) {α : Type} (f : α → B) : ∀ (l : List α) (w : B), joinB c (w :: l.map f) = w ++ l.flatMap fun x => c :: f x
  | [], w => by simp [joinB]
  | x :: l, w => by rw [List.map_cons, joinB, join_flat c f l, List.flatMap_cons, List.cons_append]
def fldB (l : UInt8) (w : B) : Option Nat := if (wordsOf l).length = 0 then numS w else (let k := (wordsOf l).idxOf w; if 0 < k ∧ k < (wordsOf l).length then some k else none)
def goRead : B → List B → Evt → Option Evt
  | [], [], y => some y
  | l :: ls, w :: ws, y => match fldB l w with
    | none => none
    | some v => if (l = 118 ∨ v < 9223372036854775808) ∧ mayN l v then goRead ls ws (setN y l v) else none
  | _, _, _ => none
def kindB (w : B) : Nat := if w = kword 1 then 1 else if w = kword 2 then 2 else if w = kword 3 then 3 else if w = kword 4 then 4 else if w = kword 5 then 5 else if w = kword 6 then 6 else if w = kword 7 then 7 else if w = kword 8 then 8 else 0
def readW : List B → Option Evt
  | t :: c :: k :: ws => if kindB k = 0 then none else match numS t with
    | none => none
    | some t => match numS c with
      | none => none
      | some c => if c < 4 ∧ t < 9223372036854775808 then goRead (named (kindB k)) ws (fresh (kindB k) c t) else none
  | _ => none
def readB (s : B) : Option Evt := readW (splitB 32 s)
def parseGo : Nat → List B → Except Nat (List Evt)
  | _, [] => .ok []
  | n, [s] => if s = [] then .ok [] else .error (n + 1)
  | n, s :: s' :: r => match readB s with
    | none => .error (n + 1)
    | some x => match parseGo (n + 1) (s' :: r) with
      | .ok l => .ok (x :: l)
      | .error k => .error k
def parseB (s : B) : Except Nat (List Evt) := parseGo 0 (splitB 10 s)
def textB (h : List Evt) : B := h.flatMap fun x => lineB x ++ [10]
theorem kindB_word {k : Int} (h1 : 1 ≤ k) (h2 : k ≤ 8) : kindB (kword k) = k.toNat := by
  have : k = 1 ∨ k = 2 ∨ k = 3 ∨ k = 4 ∨ k = 5 ∨ k = 6 ∨ k = 7 ∨ k = 8 := by omega
  rcases this with rfl | rfl | rfl | rfl | rfl | rfl | rfl | rfl <;> decide
theorem kindB_some {w : B} (h : kindB w ≠ 0) : 1 ≤ kindB w ∧ kindB w ≤ 8 ∧ w = kword (kindB w : Nat) := by
  unfold kindB at *
  repeat' split at h
  all_goals first | exact absurd rfl h | skip
  all_goals simp_all
theorem dec_digit (n : Nat) : ∀ c ∈ dec n, 48 ≤ c.toNat ∧ c.toNat ≤ 57 := by
  induction n using Nat.strongRecOn with
  | _ n ih =>
    intro c hc
    by_cases h : n < 10
    · rw [dec_lt h] at hc; have hc := List.mem_singleton.1 hc; subst hc; rw [ofNat_lt (by omega)]; omega
    · rw [dec_ge (by omega)] at hc
      rcases List.mem_append.1 hc with hc | hc
      · exact ih _ (by omega) c hc
      · have hc := List.mem_singleton.1 hc; subst hc; rw [ofNat_lt (by omega)]; omega
theorem dec_no (n : Nat) {c : UInt8} (h : c.toNat < 48) : c ∉ dec n := fun hc => by have := dec_digit n c hc; omega
theorem kword_no {k : Int} {c : UInt8} (h : c.toNat < 48) : c ∉ kword k := by
  have : ∀ d ∈ kword k, 48 ≤ d.toNat := by
    unfold kword
    repeat' split
    all_goals decide
  exact fun hc => by have := this c hc; omega
theorem words_no {l : UInt8} {w : B} (hw : w ∈ wordsOf l) {c : UInt8} (h : c.toNat < 48) : c ∉ w := by
  have : ∀ w ∈ wordsOf l, ∀ d ∈ w, 48 ≤ d.toNat := by
    unfold wordsOf
    repeat' split
    all_goals decide
  exact fun hc => by have := this w hw c hc; omega
theorem word_no {x : Evt} {l : UInt8} {c : UInt8} (h : c.toNat < 48) : c ∉ wordB x l := by
  unfold wordB
  split
  · rename_i w hw; exact words_no (List.mem_of_getElem? hw) h
  · exact dec_no _ h
theorem words_len (l : UInt8) : (wordsOf l).length = 0 ∨ (wordsOf l).Nodup ∧ 1 < (wordsOf l).length := by
  unfold wordsOf
  repeat' split
  · exact .inr (by decide)
  · exact .inr (by decide)
  · exact .inl rfl
theorem fld_word {x : Evt} {l : UInt8} (hv : numB x l < 18446744073709551616) (h0 : l = 118 ∨ 0 ≤ getN x l) (hm : mayN l (getN x l) = true) : fldB l (wordB x l) = some (numB x l) := by
  have hq : (wordsOf l).length = 0 ∨ 1 ≤ numB x l ∧ numB x l < (wordsOf l).length := by
    unfold mayN at hm
    split at hm
    · rename_i h; subst h; exact .inl rfl
    · rename_i h
      have := (of_decide_eq_true hm).2
      have h0 := h0.resolve_left h
      unfold numB
      omega
  unfold fldB wordB
  rcases hq with hq | ⟨h1, h2⟩
  · rw [if_pos hq, List.getElem?_eq_none (by omega)]
    exact numS_some.2 ⟨rfl, hv⟩
  · rw [if_neg (by omega), List.getElem?_eq_getElem h2]
    have hn := (words_len l).resolve_left (by omega)
    simp only
    rw [hn.1.idxOf_getElem _ h2, if_pos ⟨by omega, h2⟩]
theorem word_fld {x : Evt} {l : UInt8} {w : B} {v : Nat} (h : fldB l w = some v) (hx : getN x l = v) : wordB x l = w ∧ v < 18446744073709551616 := by
  have hv : numB x l = v := by unfold numB; omega
  unfold fldB at h
  unfold wordB
  rw [hv]
  split at h
  · rename_i hq
    obtain ⟨h1, h2⟩ := numS_some.1 h
    rw [List.getElem?_eq_none (by omega)]
    exact ⟨h1.symm, h2⟩
  · simp only at h
    split at h
    · rename_i hk
      injection h with h; subst h
      rw [List.getElem?_eq_getElem hk.2]
      refine ⟨List.getElem_idxOf hk.2, ?_⟩
      have : (wordsOf l).length ≤ 9 := by
        unfold wordsOf
        repeat' split
        all_goals decide
      omega
    · cases h
theorem goRead_put {x : Evt} (hx : EvR x) : ∀ (ls : B) (y z : Evt), (∀ l ∈ ls, isL l) → goSet x ls y = some z → goRead ls (ls.map (wordB x)) y = some z
  | [], y, z, _, h => by injection h with h; subst h; rfl
  | l :: ls, y, z, hl, h => by
    rw [goSet] at h
    split at h
    · rename_i hm
      obtain ⟨h1, h2, h3⟩ := hx.get (hl l (List.mem_cons_self ..)) hm
      have en : ((numB x l : Nat) : Int) = getN x l := by unfold numB; omega
      rw [List.map_cons, goRead, fld_word (by unfold numB; omega) (.inr h1) hm]
      simp only
      rw [if_pos ⟨h3.imp id fun q => by unfold numB; omega, by rw [en]; exact hm⟩, en]
      exact goRead_put hx ls _ z (fun l' h' => hl l' (List.mem_cons_of_mem _ h')) h
    · cases h
theorem goRead_some : ∀ (ls : B) (ws : List B) (y z : Evt), (∀ l ∈ ls, isL l) → ls.Nodup → goRead ls ws y = some z →
    ws = ls.map (wordB z) ∧ goSet z ls y = some z ∧ (∀ l, isL l → l ∉ ls → getN z l = getN y l) ∧ z.kind = y.kind ∧ z.core = y.core ∧ z.time = y.time ∧ ∀ l ∈ ls, 0 ≤ getN z l ∧ getN z l < 18446744073709551616 ∧ (l = 118 ∨ getN z l < 9223372036854775808)
  | [], [], y, z, _, _, h => by
    injection h with h; subst h
    exact ⟨rfl, rfl, fun _ _ _ => rfl, rfl, rfl, rfl, fun l h => by cases h⟩
  | [], _ :: _, y, z, _, _, h => by cases h
  | _ :: _, [], y, z, _, _, h => by cases h
  | l :: ls, w :: ws, y, z, hl, hn, h => by
    rw [goRead] at h
    split at h
    · cases h
    · rename_i v hb
      split at h
      · rename_i hm
        obtain ⟨hnl, hn'⟩ := List.nodup_cons.1 hn
        have hl0 := hl l (List.mem_cons_self ..)
        obtain ⟨h1, h2, h3, h4, h5, h6, h7⟩ := goRead_some ls ws _ z (fun l' h' => hl l' (List.mem_cons_of_mem _ h')) hn' h
        have hg : getN z l = v := by rw [h3 l hl0 hnl, get_set hl0 hl0, if_pos rfl]
        obtain ⟨e1, e2⟩ := word_fld hb hg
        obtain ⟨s1, s2, s3⟩ := set_head (y := y) (l := l) (n := v)
        refine ⟨by rw [List.map_cons, e1, ← h1], ?_, ?_, h4.trans s1, h5.trans s2, h6.trans s3, ?_⟩
        · rw [goSet, hg, if_pos hm.2]; exact h2
        · intro l' hl' hm'
          rw [h3 l' hl' (fun q => hm' (List.mem_cons_of_mem _ q)), get_set hl0 hl', if_neg (fun (q : l = l') => hm' (by rw [← q]; exact List.mem_cons_self ..))]
        · intro l' hl'
          rcases List.mem_cons.1 hl' with rfl | hl'
          · rw [hg]; exact ⟨by omega, by omega, hm.1.imp id fun q => by omega⟩
          · exact h7 l' hl'
      · cases h
theorem line_words (x : Evt) : splitB 32 (lineB x) = dec x.time.toNat :: dec x.core.toNat :: kword x.kind :: (named x.kind).map (wordB x) := by
  unfold lineB
  rw [List.singleton_append, split_app _ _ _ (dec_no _ (by decide)), List.singleton_append, split_app _ _ _ (dec_no _ (by decide)), split_flat _ _ _ _ (kword_no (by decide)) fun l _ => word_no (by decide)]
theorem read_line {x : Evt} (hx : EvR x) (hf : fineB x = true) : readB (lineB x) = some x := by
  obtain ⟨⟨h1, h2, h3, h4, h5⟩, h6⟩ := fine_parts hf
  obtain ⟨hl, _⟩ := named_ok x.kind
  have ht := hx.time
  have n1 : numS (dec x.time.toNat) = some x.time.toNat := numS_some.2 ⟨rfl, by omega⟩
  have n2 : numS (dec x.core.toNat) = some x.core.toNat := numS_some.2 ⟨rfl, by omega⟩
  have e1 : ((x.kind.toNat : Nat) : Int) = x.kind := by omega
  have e2 : ((x.core.toNat : Nat) : Int) = x.core := by omega
  have e3 : ((x.time.toNat : Nat) : Int) = x.time := by omega
  rw [readB, line_words, readW, kindB_word h1 h2, if_neg (by omega), n1]
  simp only [n2]
  rw [if_pos ⟨by omega, by omega⟩, e1, e2, e3]
  exact goRead_put hx _ _ _ hl h6
theorem read_some {s : B} {x : Evt} (h : readB s = some x) : s = lineB x ∧ fineB x = true ∧ EvR x := by
  have hj := join_split 32 s
  rw [readB] at h
  generalize splitB 32 s = q at h hj
  revert h hj
  cases q with
  | nil => intro h _; cases h
  | cons t q =>
    cases q with
    | nil => intro h _; cases h
    | cons c q =>
      cases q with
      | nil => intro h _; cases h
      | cons k ws =>
        intro h hj
        rw [readW] at h
        split at h
        · cases h
        · rename_i hk
          split at h
          · cases h
          · rename_i tn ht
            split at h
            · cases h
            · rename_i cn hc
              split at h
              · rename_i hct
                obtain ⟨k1, k2, k3⟩ := kindB_some hk
                obtain ⟨hl, hn⟩ := named_ok (kindB k : Nat)
                obtain ⟨h1, h2, h3, h4, h5, h6, h7⟩ := goRead_some _ _ _ _ hl hn h
                obtain ⟨q1, q2⟩ := numS_some.1 ht
                obtain ⟨q3, q4⟩ := numS_some.1 hc
                have e1 : x.kind = (kindB k : Nat) := h4
                have e2 : x.core = (cn : Nat) := h5
                have e3 : x.time = (tn : Nat) := h6
                have hr : ∀ l, isL l → getN x l < 18446744073709551616 ∧ (l = 118 → 0 ≤ getN x l) ∧ (l = 118 ∨ getN x l < 9223372036854775808) := fun l hq => by
                  by_cases hm : l ∈ named (kindB k : Nat)
                  · obtain ⟨a, b, c⟩ := h7 l hm; exact ⟨b, fun _ => a, c⟩
                  · rw [h3 l hq hm]
                    obtain ⟨a, b⟩ := get_fresh (k := (kindB k : Nat)) (c := cn) (t := tn) hq
                    exact ⟨by omega, fun q => by rw [b q]; decide, .inr a⟩
                have hr' : ∀ l, isL l → l ≠ 118 → getN x l < 9223372036854775808 := fun l hq hn => (hr l hq).2.2.resolve_left hn
                refine ⟨?_, ?_, ?_⟩
                · rw [← hj, joinB, joinB, h1, join_flat, q1, q3, lineB, e1, e2, e3, Int.toNat_natCast, Int.toNat_natCast, ← k3]
                  simp
                · simp only [fineB, Bool.and_eq_true, decide_eq_true_eq]
                  rw [e1, e2, e3]
                  exact ⟨⟨by omega, by omega, by omega, by omega, by omega⟩, h2⟩
                · exact ⟨(hr 118 (.inl rfl)).2.1 rfl, (hr 118 (.inl rfl)).1, by omega, by omega, by omega, hr' 98 (by decide) (by decide), hr' 116 (by decide) (by decide), hr' 108 (by decide) (by decide), hr' 97 (by decide) (by decide), hr' 99 (by decide) (by decide)⟩
              · cases h
theorem line_no (x : Evt) : (10 : UInt8) ∉ lineB x := by
  unfold lineB
  simp only [List.mem_append, List.mem_flatMap, List.mem_cons, List.mem_nil_iff, not_or, or_false]
  refine ⟨dec_no _ (by decide), by decide, dec_no _ (by decide), by decide, kword_no (by decide), ?_⟩
  rintro ⟨l, _, h | h⟩
  · exact absurd h (by decide)
  · exact word_no (by decide) h
theorem text_lines (h : List Evt) : splitB 10 (textB h) = h.map lineB ++ [[]] := by
  induction h with
  | nil => rfl
  | cons x h ih =>
    have e : textB (x :: h) = lineB x ++ 10 :: textB h := by simp [textB]
    rw [e, split_app _ _ _ (line_no x), ih]; rfl
theorem parseGo_text : ∀ (h : List Evt) (n : Nat), (∀ x ∈ h, EvR x ∧ fineB x = true) → parseGo n (h.map lineB ++ [[]]) = .ok h
  | [], n, _ => rfl
  | x :: h, n, hx => by
    obtain ⟨h1, h2⟩ := hx x (List.mem_cons_self ..)
    have ih := parseGo_text h (n + 1) fun y hy => hx y (List.mem_cons_of_mem _ hy)
    rw [List.map_cons, List.cons_append]
    cases hq : h.map lineB ++ [[]] with
    | nil => simp at hq
    | cons a r => rw [hq] at ih; rw [parseGo, read_line h1 h2]; simp only [ih]
theorem parse_text {h : List Evt} (hx : ∀ x ∈ h, EvR x ∧ fineB x = true) : parseB (textB h) = .ok h := by rw [parseB, text_lines]; exact parseGo_text h 0 hx
theorem parseGo_ok : ∀ (l : List B) (n : Nat) (h : List Evt), l ≠ [] → parseGo n l = .ok h → joinB 10 l = textB h ∧ ∀ x ∈ h, EvR x ∧ fineB x = true
  | [], n, h, hl, _ => absurd rfl hl
  | [s], n, h, _, hp => by
    rw [parseGo] at hp
    split at hp
    · rename_i hs; injection hp with hp; subst hp; subst hs; exact ⟨rfl, fun x hx => by cases hx⟩
    · cases hp
  | s :: s' :: r, n, h, _, hp => by
    rw [parseGo] at hp
    split at hp
    · cases hp
    · rename_i x hx
      split at hp
      · rename_i l hl
        injection hp with hp; subst hp
        obtain ⟨h1, h2⟩ := parseGo_ok (s' :: r) (n + 1) l (by simp) hl
        obtain ⟨q1, q2, q3⟩ := read_some hx
        refine ⟨?_, fun y hy => ?_⟩
        · rw [joinB, h1, q1]; simp [textB]
        · rcases List.mem_cons.1 hy with rfl | hy
          · exact ⟨q3, q2⟩
          · exact h2 y hy
      · cases hp
theorem parse_ok {s : B} {h : List Evt} (hp : parseB s = .ok h) : s = textB h ∧ ∀ x ∈ h, EvR x ∧ fineB x = true := by
  obtain ⟨h1, h2⟩ := parseGo_ok _ 0 h (splitB_ne 10 s) hp
  rw [join_split] at h1
  exact ⟨h1, h2⟩
end Tr
end Go.Am
namespace Go.Am
set_option linter.unusedVariables false
set_option linter.unusedSimpArgs false
theorem set_set (H : AHeap) (b : Nat) (o o' : AObj) : (H.set b o).set b o' = H.set b o' := by simp only [AHeap.set, T.set, T.put, T.put_put]
theorem rangeStr_eq (s : List UInt8) : Op.rangeStr [.str s] = some (.strIter s 0, Op.ptrTo) := rfl
theorem next_some {H : AHeap} {b p : Nat} {s : List UInt8} {c : UInt8} (h : H.get b = some (.strIter s p)) (hc : s[p]? = some c) (h1 : c.toNat < 128) :
    Op.nextStr [.ptr b 0] H = some (.tuple [.bool true, .int .i64 p, .int .i32 c.toNat], H.set b (.strIter s (p + 1))) := by
  have e : Nat.blt c.toNat 128 = true := blt_true h1
  simp only [Op.nextStr, h, nth_eq, hc, e, cond_true, goIntV]
theorem next_none {H : AHeap} {b p : Nat} {s : List UInt8} (h : H.get b = some (.strIter s p)) (hc : s.length ≤ p) : Op.nextStr [.ptr b 0] H = some (.tuple [.bool false], H) := by
  simp only [Op.nextStr, h, nth_eq, List.getElem?_eq_none hc]
theorem o_indexArr {len size b o : Nat} {k : IntKind} {j : Int} {i : Nat} (hj : j = i) (hi : i < len) : Op.indexArr len size [.ptr b o, .int k j] = some (.ptr b (o + i * size)) := by
  simp only [Op.indexArr, within_nat hj hi, Option.bind_some]
theorem o_indexStr {s : List UInt8} {k : IntKind} {j : Int} {i : Nat} {c : UInt8} (hj : j = i) (hc : s[i]? = some c) : Op.indexStr [.str s, .int k j] = some (.int .u8 c.toNat) := by
  have hi : i < s.length := (List.getElem?_eq_some_iff.1 hc).1
  simp only [Op.indexStr, within_nat hj hi, Option.bind_some, nth_eq, hc]
theorem o_shr (k k' : IntKind) (a : Int) (n : Nat) : Op.bin .shr [.int k a, .int k' n] = some (.int k (a.fdiv (2 ^ (min n k.bits)))) := by
  have e : ltI (n : Int) 0 = false := by rw [ltI_eq]; simp
  simp only [Op.bin, binV, isShift, cond_true, shiftV, e, cond_false, Int.toNat_natCast]
theorem o_shl (k k' : IntKind) (a : Int) (n : Nat) : Op.bin .shl [.int k a, .int k' n] = some (.int k (wrapI k (a * 2 ^ (min n k.bits)))) := by
  have e : ltI (n : Int) 0 = false := by rw [ltI_eq]; simp
  simp only [Op.bin, binV, isShift, cond_true, shiftV, e, cond_false, Int.toNat_natCast]
theorem sl_row (H : AHeap) (c : List AV) (e : Nat) (fz : Nat × Nat) (ow : Bool) : Sl (H.alloc (.row c e fz ow)) 1 (.slice H.next 0 c.length c.length) c.length c := by
  refine ⟨by omega, rfl, Nat.le_refl _, .inr ⟨by rw [alloc_next]; omega, c, cellsAt_row (get_alloc_new H _), ?_⟩⟩
  rw [takeAt_eq, if_pos (by omega)]; simp
def encS (s : List UInt8) : List AV := [.str s]
theorem encS_len (s : List UInt8) : (encS s).length = 1 := rfl
theorem encS_flat (l : List (List UInt8)) : l.flatMap encS = l.map AV.str := by
  induction l with
  | nil => rfl
  | cons a l ih => rw [List.flatMap_cons, ih]; rfl
def encB (c : UInt8) : List AV := [.int .u8 c.toNat]
theorem encB_len (c : UInt8) : (encB c).length = 1 := rfl
theorem encB_one (c : UInt8) : allOne (encB c) = true := rfl
theorem encB_flat (l : List UInt8) : l.flatMap encB = l.map fun c => AV.int .u8 c.toNat := by
  induction l with
  | nil => rfl
  | cons a l ih => rw [List.flatMap_cons, ih]; rfl
theorem words_row (H : AHeap) (ws : List (List UInt8)) (e n : Nat) (fz : Nat × Nat) (ow : Bool) (hn : ws.length = n) : SlT encS 1 (H.alloc (.row (ws.map AV.str) e fz ow)) (.slice H.next 0 n n) ws := by
  have := sl_row H (ws.map AV.str) e fz ow
  rw [List.length_map, hn] at this
  unfold SlT; rw [encS_flat, hn]; exact this
theorem or128 {n : Nat} (h : n < 256) : Op.bin .or [.int .u8 (n : Int), .int .u8 128] = some (.int .u8 ((n % 128 + 128 : Nat) : Int)) := by
  have key : ∀ n : Fin 256, wrapI .u8 ((BitVec.ofInt 8 ((n.1 : Nat) : Int) ||| BitVec.ofInt 8 128).toNat : Int) = ((n.1 % 128 + 128 : Nat) : Int) := by decide +kernel
  have := key ⟨n, h⟩
  show some (AV.int .u8 (wrapI .u8 ((BitVec.ofInt 8 ((n : Nat) : Int) ||| BitVec.ofInt 8 128).toNat : Int))) = _
  rw [this]
theorem append_ownG {H : AHeap} {e size bytes : Nat} {v : AV} {n : Nat} {cells : List AV} (h : Own H e size v n cells) {x : AV} {k : Nat} {new : List AV} (hxl : lenV x = some k) (hxf : firstCells H size k x = some new) (hlen : new.length = k * size) (hnew : allOne new = true) (hs : 0 < size)
    (hf : (n + k) * bytes ≤ 140737488355328) (hf' : n + k ≤ 140737488355328) {K : Bool → AV → AHeap → Prop} {m : Bool}
    (hk : ∀ v' H', Own H' e size v' (n + k) (cells ++ new) → Fr (OnS v) H H' → (∀ b, OnS v' b → OnS v b ∨ H.next ≤ b) → K dirty v' H') : BI2 m (Op.append e size bytes [v, x] H) K := by
  have hfit := fits_of hf hf'
  have hs' := blt_true hs
  have e1 : ∀ n, Nat.beq n n = true := fun n => by simp
  simp only [Op.append, hxl, hxf, Option.bind_some, hnew, cond_true]
  obtain ⟨hl, ⟨rfl, rfl | ⟨b, rfl, hb⟩⟩ | ⟨b, rfl, h1, h2⟩⟩ := h
  · simp only [Nat.zero_mul, List.length_eq_zero_iff] at hl
    subst hl
    by_cases hk0 : k = 0
    · subst hk0
      simp at hlen; subst hlen
      exact hk .nils H (Own.nil H e size) (Fr.refl H) fun b hb => .inl hb
    · have h0 : Nat.beq k 0 = false := beq_false hk0
      simp only [appendV, h0, cond_false, Nat.zero_add] at hfit ⊢
      simp only [hfit, hs', Bool.and_self, cond_true, grownV, BI2]
      refine hk _ _ ⟨by simpa using hlen, .inr ⟨H.next, by simp, by rw [alloc_next]; omega, ?_⟩⟩ ((Fr.refl H).alloc _) fun b hb => .inr (by rw [hb.2]; exact Nat.le_refl _)
      rw [AHeap.get_alloc, if_pos rfl]; simp
  · simp only [Nat.zero_mul, List.length_eq_zero_iff] at hl
    subst hl
    by_cases hk0 : k = 0
    · subst hk0
      simp at hlen; subst hlen
      simp only [appendV, Nat.add_zero, ble_true (Nat.le_refl 0), cond_true, e1, BI2]
      exact hk _ H ⟨by simp, .inl ⟨rfl, .inr ⟨b, rfl, hb⟩⟩⟩ (Fr.refl H) fun b hb => .inl hb
    · have h0 : Nat.beq k 0 = false := beq_false hk0
      have h3 : Nat.ble k 0 = false := by cases hq : Nat.ble k 0 with | false => rfl | true => rw [Nat.ble_eq] at hq; omega
      have h4 : firstCells H size 0 (.slice b 0 0 0) = some [] := rfl
      simp only [appendV, Nat.zero_add, h3, cond_false] at hfit ⊢
      simp only [hfit, ble_true (Nat.zero_le k), hs', Bool.and_self, cond_true, h4, Option.bind_some, appL_eq, List.nil_append, grownV, BI2]
      refine hk _ _ ⟨by simpa using hlen, .inr ⟨H.next, by simp, by rw [alloc_next]; omega, ?_⟩⟩ ((Fr.refl H).alloc _) fun b hb => .inr (by rw [hb.2]; exact Nat.le_refl _)
      rw [AHeap.get_alloc, if_pos rfl]; simp
  · by_cases hk0 : k = 0
    · subst hk0
      simp at hlen; subst hlen
      simp only [appendV, Nat.beq, cond_true, Nat.zero_add, ble_true (Nat.le_refl n), BI2]
      refine hk _ _ ⟨by simpa using hl, .inr ⟨b, rfl, h1, by simpa using h2⟩⟩ (Fr.refl H) fun b hb => .inl hb
    · have h0 : Nat.beq k 0 = false := beq_false hk0
      have h3 : Nat.ble (0 + n + k) n = false := by cases hq : Nat.ble (0 + n + k) n with | false => rfl | true => rw [Nat.ble_eq] at hq; omega
      simp only [appendV, h0, cond_false, e1, Nat.zero_add, ble_true (Nat.le_refl n), hs', Bool.and_self, cond_true] at h3 ⊢
      simp only [h3, cond_false, hfit, cond_true, h2, e1, Bool.and_self, Nat.beq, ble_true (Nat.zero_le (n * size)), grownV, BI2]
      refine hk _ _ ⟨by simp [hl, hlen, Nat.add_mul], .inr ⟨H.next, by simp [kill_next], by rw [alloc_next, kill_next]; omega, ?_⟩⟩ (((Fr.refl H).kill (.inl ⟨by simp, rfl⟩)).alloc _) fun b hb => .inr (by rw [hb.2]; exact Nat.le_refl _)
      rw [AHeap.get_alloc, kill_next, if_pos rfl, appL_eq]
structure Aft (a : AV) (H : AHeap) (v : AV) (H' : AHeap) : Prop where
  fr : Fr (OnS a) H H'
  on : ∀ b, OnS v b → OnS a b ∨ H.next ≤ b
theorem Aft.refl (a : AV) (H : AHeap) : Aft a H a H := ⟨Fr.refl _, fun b h => .inl h⟩
theorem Aft.trans {a v w : AV} {H H1 H2 : AHeap} (h : Aft a H v H1) (h' : Aft v H1 w H2) : Aft a H w H2 :=
  ⟨h.fr.trans h'.fr h.on, fun b hb => (h'.on b hb).elim (h.on b) fun q => .inr (Nat.le_trans h.fr.next q)⟩
theorem Aft.em {a v : AV} {H H1 H2 : AHeap} (h : Aft a H v H1) (f : Fr Em H1 H2) : Aft a H v H2 := ⟨h.fr.em f, h.on⟩
theorem Aft.pre {a v : AV} {H H1 H2 : AHeap} (f : Fr Em H H1) (h : Aft a H1 v H2) : Aft a H v H2 := (Aft.refl a H).em f |>.trans h
theorem Aft.get {a v : AV} {H H' : AHeap} (h : Aft a H v H') {b : Nat} (hb : b < H.next) (hn : ¬ OnS a b) : H'.get b = H.get b ∧ b < H'.next ∧ ¬ OnS v b :=
  ⟨h.fr.keep b hb hn, Nat.lt_of_lt_of_le hb h.fr.next, fun q => (h.on b q).elim hn fun r => by omega⟩
theorem New.app4 {α : Type} {enc : α → List AV} {e size : Nat} {H0 H : AHeap} {v : AV} {xs : List α} (h : New enc e size H0 H v xs) {bytes : Nat} {zero : List AV} {x : AV} {a : α} (hx : x.cells = enc a) (hs : (enc a).length = size) (hz : zero.length = size) (h1 : allOne (enc a) = true) (h0 : 0 < size)
    (hf : (xs.length + 1) * bytes ≤ 140737488355328) (hf' : xs.length + 1 ≤ 140737488355328) {K : AObj → (Nat → AV) → Bool → AV → AHeap → Prop} {m : Bool}
    (hk : ∀ v' H', New enc e size H0 H' v' (xs ++ [a]) → Aft v H v' H' → K (.row x.cells e (0, 0) true) (Op.sliceTo 1 1) m v' H') :
    B32 m (Op.buildSlice e 1 zero [(0, size)] [x]) fun g o mk => B32 g (Op.append e size bytes [v, mk H.next] (H.alloc o)) (K o mk) :=
  h.app3 hx hs hz h1 h0 hf hf' fun v' H' h1 h2 h3 => hk v' H' h1 ⟨h2, h3⟩
theorem New.apartR {α : Type} {enc : α → List AV} {e size : Nat} {H0 H : AHeap} {v : AV} {xs : List α} (h : New enc e size H0 H v xs) {b : Nat} (hb : H.next ≤ b) : ¬ OnS v b := fun q => by have := Own.lt h.own _ q; omega
theorem New.setOff {α : Type} {enc : α → List AV} {e size : Nat} {H0 H : AHeap} {v : AV} {xs : List α} (h : New enc e size H0 H v xs) {b : Nat} (hb : H0.next ≤ b) (hn : ¬ OnS v b) (o : AObj) : New enc e size H0 (H.set b o) v xs :=
  ⟨Own.fr h.own ((Fr.refl H).set (W := On b) (.inl rfl) o) fun x hx (q : x = b) => hn (by rw [← q]; exact hx), h.fr.set (.inr hb) _, h.fresh⟩
theorem Aft.setOff {a v : AV} {H H' : AHeap} (h : Aft a H v H') {b : Nat} (hb : H.next ≤ b) (o : AObj) : Aft a H v (H'.set b o) := ⟨h.fr.set (.inr hb) _, h.on⟩
theorem first_str (H : AHeap) (s : List UInt8) : firstCells H 1 s.length (.str s) = some (s.map fun c => AV.int .u8 c.toNat) := by
  show cond (Nat.beq 1 1) (some ((s.take s.length).map fun c => AV.int .u8 c.toNat)) none = _
  rw [List.take_length]; rfl
theorem lenV_str (s : List UInt8) : lenV (.str s) = some s.length := by show some (lenL s) = _; rw [lenL_eq]
theorem append_str {H0 H : AHeap} {e : Nat} {v : AV} {xs s : List UInt8} (h : New encB e 1 H0 H v xs) (hf : xs.length + s.length ≤ 140737488355328) {K : Bool → AV → AHeap → Prop} {m : Bool}
    (hk : ∀ v' H', New encB e 1 H0 H' v' (xs ++ s) → Fr (OnS v) H H' → (∀ b, OnS v' b → OnS v b ∨ H.next ≤ b) → K m v' H') : B32 m (Op.append e 1 1 [v, .str s] H) K := by
  refine BI2.to3 (m := m) (append_ownG h.own (lenV_str s) (first_str H s) (by simp) ?_ (by decide) (by omega) (by omega) fun v' H' h1 h2 h3 => hk v' H' (h.step ?_ h2 h3) h2 h3)
  · rw [allOne_eq]; simp [oneCell]
  · unfold OwnT; rw [List.length_append, List.flatMap_append, encB_flat s]; exact h1
end Go.Am
namespace Go.Am
set_option linter.unusedVariables false
set_option linter.unusedSimpArgs false
open Lang (dec)
theorem wrap_nat {k : IntKind} {n : Nat} (h : n < 2 ^ (k.bits - 1)) : wrapI k (n : Int) = n := by
  cases k <;> simp only [IntKind.bits] at h
  all_goals first
    | (rw [wrapI_i64]; omega)
    | (rw [wrapI_u64]; omega)
    | (rw [wrapI_u8]; omega)
    | (rw [wrapI_i32]; omega)
    | (rw [wrapI_u32]; omega)
    | (rw [wrapI_u16]; omega)
    | (simp [wrapI, IntKind.wrap, IntKind.bits, IntKind.signed]; omega)
    | (simp [wrapI, IntKind.wrap, IntKind.bits, IntKind.signed]; split <;> omega)
theorem n_rem {k : IntKind} {a : Nat} {b : Int} (hb : 0 < b) : Op.bin .rem [.int k (a : Int), .int k b] = some (.int k ((a % b.toNat : Nat) : Int)) := by
  rw [o_rem k _ _ (by omega), Int.tmod_eq_emod_of_nonneg (by omega)]
  congr 2
  rw [Int.natCast_emod]; congr 1; omega
theorem n_quo64 {a : Nat} {b : Int} (hb : 0 < b) (ha : a < 18446744073709551616) : Op.bin .quo [.int .u64 (a : Int), .int .u64 b] = some (.int .u64 ((a / b.toNat : Nat) : Int)) := by
  rw [o_quo .u64 _ _ (by omega), Int.tdiv_eq_ediv_of_nonneg (by omega)]
  have e : (a : Int) / b = ((a / b.toNat : Nat) : Int) := by rw [Int.natCast_ediv]; congr 1; omega
  have h1 : a / b.toNat ≤ a := Nat.div_le_self ..
  rw [e]; generalize a / b.toNat = q at h1 ⊢
  rw [wrap_u64 (by omega) (by omega)]
theorem n_quo32 {a : Nat} {b : Int} (hb : 0 < b) (ha : a < 4294967296) : Op.bin .quo [.int .u32 (a : Int), .int .u32 b] = some (.int .u32 ((a / b.toNat : Nat) : Int)) := by
  rw [o_quo .u32 _ _ (by omega), Int.tdiv_eq_ediv_of_nonneg (by omega)]
  have e : (a : Int) / b = ((a / b.toNat : Nat) : Int) := by rw [Int.natCast_ediv]; congr 1; omega
  have h1 : a / b.toNat ≤ a := Nat.div_le_self ..
  rw [e]; generalize a / b.toNat = q at h1 ⊢
  rw [wrapI_u32]; congr 2; omega
theorem n_mul2 {a : Nat} (ha : a < 100) : Op.bin .mul [.int .u32 (a : Int), .int .u32 2] = some (.int .u32 ((a * 2 : Nat) : Int)) := by
  rw [o_mul, wrapI_u32]; congr 2; omega
theorem n_add1 {a : Nat} (ha : a < 1000) : Op.bin .add [.int .u32 (a : Int), .int .u32 1] = some (.int .u32 ((a + 1 : Nat) : Int)) := by
  rw [o_add, wrapI_u32]; congr 2; omega
theorem n_sub {a : Nat} {b : Int} (hb : 0 ≤ b) (h : b.toNat ≤ a) (ha : a < 1000000000) : Op.bin .sub [.int .i64 (a : Int), .int .i64 b] = some (.int .i64 ((a - b.toNat : Nat) : Int)) := by
  rw [o_sub, wrap_i64 (by omega) (by omega)]; congr 2; omega
theorem n_wrap32 {k : IntKind} {a : Nat} (ha : a < 4294967296) : Op.wrap .u32 [.int k (a : Int)] = some (.int .u32 (a : Int)) := by
  rw [o_wrap, wrapI_u32]; congr 2; omega
theorem n_wrap64 {k : IntKind} {a : Nat} (ha : a < 18446744073709551616) : Op.wrap .u64 [.int k (a : Int)] = some (.int .u64 (a : Int)) := by
  rw [o_wrap, wrapI_u64]; congr 2; omega
theorem n_wrapI {k : IntKind} {a : Nat} (ha : a < 9223372036854775808) : Op.wrap .i64 [.int k (a : Int)] = some (.int .i64 (a : Int)) := by
  rw [o_wrap, wrap_i64 (by omega) (by omega)]
theorem n_wrap8 {k : IntKind} {a : Nat} (ha : a < 256) : Op.wrap .u8 [.int k (a : Int)] = some (.int .u8 (a : Int)) := by
  rw [o_wrap, wrapI_u8]; congr 2; omega
theorem n_shr {k k' : IntKind} {a n : Nat} (h : n ≤ k.bits) : Op.bin .shr [.int k (a : Int), .int k' (n : Int)] = some (.int k ((a / 2 ^ n : Nat) : Int)) := by
  rw [o_shr, Nat.min_eq_left h, Int.fdiv_eq_ediv_of_nonneg _ (by exact_mod_cast Nat.le_of_lt (Nat.pow_pos (by decide)))]
  simp
theorem w_u32 {n : Nat} (h : n < 4294967296) : wrapI .u32 (n : Int) = n := by rw [wrapI_u32]; omega
theorem w_i64 {n : Nat} (h : n < 9223372036854775808) : wrapI .i64 (n : Int) = n := by rw [wrapI_i64]; omega
theorem w_u64 {n : Nat} (h : n < 18446744073709551616) : wrapI .u64 (n : Int) = n := by rw [wrapI_u64]; omega
theorem w_u8 {n : Nat} (h : n < 256) : wrapI .u8 (n : Int) = n := by rw [wrapI_u8]; omega
theorem w_mul32 {n : Nat} (h : n < 100) : wrapI .u32 ((n : Int) * 2) = ((n * 2 : Nat) : Int) := by rw [wrapI_u32]; omega
theorem w_add32 {n : Nat} (h : n < 1000) : wrapI .u32 ((n : Int) + 1) = ((n + 1 : Nat) : Int) := by rw [wrapI_u32]; omega
theorem w_48 {n : Nat} (h : n < 100) : wrapI .u32 (48 + (n : Int)) = ((48 + n : Nat) : Int) := by rw [wrapI_u32]; omega
theorem w_add64 {a b : Nat} (h : a + b < 9223372036854775808) : wrapI .i64 ((a : Int) + (b : Int)) = ((a + b : Nat) : Int) := by rw [wrapI_i64]; omega
theorem w_inc64 {a : Nat} (h : a < 9223372036854775807) : wrapI .i64 ((a : Int) + 1) = ((a + 1 : Nat) : Int) := by rw [wrapI_i64]; omega
theorem w_sub64 {n : Nat} {c : Int} (h0 : 0 ≤ c) (h1 : c.toNat ≤ n) (h : n < 9223372036854775808) : wrapI .i64 ((n : Int) - c) = ((n - c.toNat : Nat) : Int) := by rw [wrapI_i64]; omega
theorem bound_n {k : IntKind} {a d mx : Nat} (h : a ≤ mx) : bound (some (.int k (a : Int))) d mx = some a := by
  show cond (Nat.ble a mx) (some a) none = _
  rw [ble_true h]; rfl
theorem o_sliceStr2 {s : List UInt8} {k k' : IntKind} {a b : Nat} (h1 : a ≤ b) (h2 : b ≤ s.length) : Op.sliceStr [some 0, some 1] [.str s, .int k (a : Int), .int k' (b : Int)] = some (.str ((s.take b).drop a)) := by
  show (bound (some (.int k' (b : Int))) s.length s.length).bind _ = _
  rw [bound_n h2, Option.bind_some]
  show (bound (some (.int k (a : Int))) 0 b).bind _ = _
  rw [bound_n h1]; rfl
theorem o_sliceStrF {s : List UInt8} {k : IntKind} {a : Nat} (h : a ≤ s.length) : Op.sliceStr [some 0, none] [.str s, .int k (a : Int)] = some (.str (s.drop a)) := by
  show (bound (some (.int k (a : Int))) 0 s.length).bind _ = _
  rw [bound_n h, Option.bind_some, List.take_length]
theorem o_sliceStrT {s : List UInt8} {k : IntKind} {b : Nat} (h : b ≤ s.length) : Op.sliceStr [none, some 0] [.str s, .int k (b : Int)] = some (.str (s.take b)) := by
  show (bound (some (.int k (b : Int))) s.length s.length).bind _ = _
  rw [bound_n h]; rfl
theorem o_sliceArrT {n p b : Nat} {k : IntKind} (h : b ≤ n) (hn : 0 < n) : Op.sliceArr n 1 [none, some 0, none] [.ptr p 0, .int k (b : Int)] = some (.slice p 0 b n) := by
  have e : Nat.beq n 0 = false := beq_false (by omega)
  have e1 : bound none n n = some n := rfl
  have e2 : bound none 0 b = some 0 := rfl
  simp only [Op.sliceArr, arg, nth_0, Option.bind_some, sliceV, bound_n h, e1, e2, e, cond_false, Nat.sub_zero, Nat.zero_mul, Nat.add_zero]
theorem o_sliceArrM {n p a b : Nat} {k k' : IntKind} (h : b ≤ n) (h0 : a ≤ b) (hn : a < n) : Op.sliceArr n 1 [some 0, some 1, none] [.ptr p 0, .int k (a : Int), .int k' (b : Int)] = some (.slice p a (b - a) (n - a)) := by
  have e : Nat.beq n a = false := beq_false (by omega)
  have e1 : nth [AV.int k (a : Int), .int k' (b : Int)] 1 = some (.int k' (b : Int)) := rfl
  have e2 : bound none n n = some n := rfl
  simp only [Op.sliceArr, arg, nth_0, e1, Option.bind_some, sliceV, bound_n h, bound_n h0, e2, e, cond_false, Nat.mul_one, Nat.zero_add]
theorem bytesOf_map (l : List UInt8) : bytesOf (l.map fun c => AV.int .u8 c.toNat) = some l := by
  induction l with
  | nil => rfl
  | cons a l ih =>
    show (byteOf (.int .u8 a.toNat)).bind (fun b => (bytesOf (l.map fun c => AV.int .u8 c.toNat)).bind fun r => some (b :: r)) = _
    rw [ih]; simp [byteOf]
def dig (n i : Nat) : Nat := 48 + n / 10 ^ i % 10
theorem dec_size : ∀ (d n : Nat), n < 10 ^ (d + 1) → (d = 0 ∨ 10 ^ d ≤ n) → (dec n).length = d + 1
  | 0, n, h, _ => by rw [Lang.dec_lt (by simpa using h)]; rfl
  | d + 1, n, h, h' => by
    have h' : 10 ^ (d + 1) ≤ n := h'.resolve_left (by omega)
    have hp : 0 < 10 ^ d := Nat.pow_pos (by decide)
    have h10 : 10 ≤ n := by rw [Nat.pow_succ] at h'; omega
    rw [Lang.dec_ge h10, List.length_append, List.length_singleton, dec_size d (n / 10) (by rw [Nat.pow_succ] at h; omega) (.inr (by rw [Nat.pow_succ] at h'; omega))]
theorem dec_get : ∀ (d n : Nat), n < 10 ^ (d + 1) → (d = 0 ∨ 10 ^ d ≤ n) → ∀ j, j ≤ d → (dec n)[j]? = some (UInt8.ofNat (dig n (d - j)))
  | 0, n, h, _, j, hj => by
    have hn : n < 10 := by simpa using h
    obtain rfl : j = 0 := by omega
    rw [Lang.dec_lt hn]; simp [dig, Nat.mod_eq_of_lt hn]
  | d + 1, n, h, h', j, hj => by
    have h' : 10 ^ (d + 1) ≤ n := h'.resolve_left (by omega)
    have hp : 0 < 10 ^ d := Nat.pow_pos (by decide)
    have h10 : 10 ≤ n := by rw [Nat.pow_succ] at h'; omega
    have q1 : n / 10 < 10 ^ (d + 1) := by rw [Nat.pow_succ] at h; omega
    have q2 : d = 0 ∨ 10 ^ d ≤ n / 10 := .inr (by rw [Nat.pow_succ] at h'; omega)
    have hl := dec_size d (n / 10) q1 q2
    rw [Lang.dec_ge h10]
    by_cases e : j = d + 1
    · subst e
      rw [List.getElem?_append_right (by omega), hl]; simp [dig]
    · rw [List.getElem?_append_left (by omega), dec_get d (n / 10) q1 q2 j (by omega)]
      have : d + 1 - j = (d - j) + 1 := by omega
      rw [dig, dig, this, Nat.pow_succ, Nat.mul_comm (10 ^ (d - j)) 10, Nat.div_div_eq_div_mul]
theorem dig_div (n i j : Nat) : dig (n / 10 ^ i) j = dig n (i + j) := by rw [dig, dig, Nat.div_div_eq_div_mul, ← Nat.pow_add]
end Go.Am
