/- TrR0: DecP TraceX TraceY TraceZ Strs NumP Iter3. -/
import Derived.Test.YtkfheegmlgfdoaaDoorAmRB4
set_option linter.unusedVariables false
set_option linter.unusedSimpArgs false
namespace Go.Am
namespace Lang
def dec (n : Nat) : List UInt8 := if h : n < 10 then [UInt8.ofNat (48 + n)] else dec (n / 10) ++ [UInt8.ofNat (48 + n % 10)]
termination_by n
decreasing_by omega
theorem dec_lt {n : Nat} (h : n < 10) : dec n = [UInt8.ofNat (48 + n)] := by rw [dec]; simp [h]
theorem dec_ge {n : Nat} (h : 10 ≤ n) : dec n = dec (n / 10) ++ [UInt8.ofNat (48 + n % 10)] := by rw [dec]; simp [show ¬ n < 10 by omega]
theorem dec_ne (n : Nat) : dec n ≠ [] := by
  rw [dec]; split <;> simp
theorem q2j : ∀ (k n : Nat), n < 10 ^ (k + 1) → (dec n).length ≤ k + 1
  | 0, n, h => by rw [dec_lt (by simpa using h)]; simp
  | k + 1, n, h => by
    by_cases h1 : n < 10
    · rw [dec_lt h1]; simp
    · rw [dec_ge (by omega), List.length_append]
      have := q2j k (n / 10) (by rw [Nat.pow_succ] at h; omega)
      simp; omega
theorem dec_len20 {n : Nat} (h : n < 18446744073709551616) : (dec n).length ≤ 20 := q2j 19 n (Nat.lt_of_lt_of_le h (by decide))
end Lang
end Go.Am
namespace Go.Am
namespace Tr
open Lang (dec)
abbrev B := List UInt8
def named (k : Int) : B := if k = 1 then [98, 116, 108] else if k = 2 ∨ k = 3 then [98, 116, 97, 118] else if k = 4 ∨ k = 5 then [98, 116] else if k = 6 then [98, 116, 99] else if k = 7 ∨ k = 8 then [97, 118] else []
def kword (k : Int) : B := if k = 1 then [98, 101, 103, 105, 110] else if k = 2 then [108, 111, 97, 100] else if k = 3 then [115, 116, 111, 114, 101] else if k = 4 then [112, 111, 105, 110, 116] else if k = 5 then [99, 111, 109, 109, 105, 116] else if k = 6 then [97, 98, 111, 114, 116] else if k = 7 then [112, 108, 97, 105, 110] else if k = 8 then [119, 114, 105, 116, 101] else []
def wordsOf (l : UInt8) : List B := if l = 108 then [[], [102, 97, 115, 116], [115, 108, 111, 119], [115, 111, 102, 116], [115, 101, 114, 105, 97, 108]] else if l = 99 then [[], [99, 111, 110, 102, 108, 105, 99, 116], [115, 117, 98], [99, 97, 112, 97, 99, 105, 116, 121], [101, 118, 105, 99, 116], [115, 112, 117, 114, 105, 111, 117, 115], [98, 117, 115, 121], [105, 108, 108, 101, 103, 97, 108], [115, 111, 102, 116]] else []
def getN (x : Evt) (l : UInt8) : Int := if l = 118 then x.value else if l = 98 then x.block else if l = 116 then x.try' else if l = 108 then x.lane else if l = 97 then x.addr else x.code
def setN (x : Evt) (l : UInt8) (n : Int) : Evt := if l = 118 then { x with value := n } else if l = 98 then { x with block := n } else if l = 116 then { x with try' := n } else if l = 108 then { x with lane := n } else if l = 97 then { x with addr := n } else { x with code := n }
def mayN (l : UInt8) (n : Int) : Bool := if l = 118 then true else decide (0 ≤ n ∧ ((wordsOf l).length = 0 ∨ 1 ≤ n ∧ n < (wordsOf l).length))
def fresh (k c t : Int) : Evt := ⟨k, t, c, if 7 ≤ k then -1 else 0, 0, 0, 0, 0, 0⟩
def goSet (x : Evt) : B → Evt → Option Evt
  | [], y => some y
  | l :: r, y => if mayN l (getN x l) then goSet x r (setN y l (getN x l)) else none
def fineB (x : Evt) : Bool := decide (1 ≤ x.kind ∧ x.kind ≤ 8 ∧ 0 ≤ x.core ∧ x.core < 4 ∧ 0 ≤ x.time) && decide (goSet x (named x.kind) (fresh x.kind x.core x.time) = some x)
def putB (n : Nat) : B := if h : n < 128 then [UInt8.ofNat n] else UInt8.ofNat (n % 128 + 128) :: putB (n / 128)
termination_by n
decreasing_by omega
theorem putB_lt {n : Nat} (h : n < 128) : putB n = [UInt8.ofNat n] := by rw [putB]; simp [h]
theorem putB_ge {n : Nat} (h : 128 ≤ n) : putB n = UInt8.ofNat (n % 128 + 128) :: putB (n / 128) := by rw [putB]; simp [show ¬ n < 128 by omega]
def numB (x : Evt) (l : UInt8) : Nat := (getN x l).toNat
def encE (x : Evt) : B := UInt8.ofNat x.kind.toNat :: (putB x.core.toNat ++ (putB x.time.toNat ++ (named x.kind).flatMap fun l => putB (numB x l)))
def wordB (x : Evt) (l : UInt8) : B := match (wordsOf l)[numB x l]? with
  | some w => w
  | none => dec (numB x l)
def lineB (x : Evt) : B := dec x.time.toNat ++ ([32] ++ (dec x.core.toNat ++ ([32] ++ (kword x.kind ++ (named x.kind).flatMap fun l => 32 :: wordB x l))))
def allB (one : Evt → B) (h : List Evt) : Option B := if h.all fineB then some (h.flatMap one) else none
def takeGo : Nat → Nat → B → Option (Nat × B)
  | _, _, [] => none
  | k, v, c :: r => if k = 10 ∨ k = 9 ∧ 1 < c.toNat then none else if c.toNat < 128 then (if k = 0 ∨ 0 < c.toNat then some (v + c.toNat % 128 * 128 ^ k, r) else none) else takeGo (k + 1) (v + c.toNat % 128 * 128 ^ k) r
def takeB (b : B) : Option (Nat × B) := takeGo 0 0 b
def goTake : B → Evt → B → Option (Evt × B)
  | [], y, b => some (y, b)
  | l :: r, y, b => match takeB b with
    | none => none
    | some (v, b') => if (l = 118 ∨ v < 9223372036854775808) ∧ mayN l v then goTake r (setN y l v) b' else none
def oneB : B → Option (Evt × B)
  | [] => none
  | k :: b => if 1 ≤ k.toNat ∧ k.toNat ≤ 8 then
      match takeB b with
      | none => none
      | some (c, b1) => match takeB b1 with
        | none => none
        | some (t, b2) => if c < 4 ∧ t < 9223372036854775808 then goTake (named k.toNat) (fresh k.toNat c t) b2 else none
    else none
def decB : Nat → B → Option (List Evt)
  | _, [] => some []
  | 0, _ :: _ => none
  | n + 1, b => match oneB b with
    | none => none
    | some (x, r) => match decB n r with
      | none => none
      | some l => some (x :: l)
end Tr
end Go.Am
namespace Go.Am
namespace Tr
theorem ofNat_lt {n : Nat} (h : n < 256) : (UInt8.ofNat n).toNat = n := by simp [UInt8.toNat_ofNat']; omega
theorem qi9 (c : UInt8) : UInt8.ofNat c.toNat = c := by simp
theorem pow_le9 {k : Nat} (h : 128 ^ k < 18446744073709551616) : k ≤ 9 := by
  rcases Nat.lt_or_ge k 10 with h1 | h1
  · omega
  · have : 128 ^ 10 ≤ 128 ^ k := Nat.pow_le_pow_right (by decide) h1
    have : (128 : Nat) ^ 10 = 1180591620717411303424 := by decide
    omega
theorem q1k (n p : Nat) : n % 128 * p + n / 128 * (p * 128) = n * p := by
  have h : n / 128 * (p * 128) = 128 * (n / 128) * p := by rw [Nat.mul_comm p 128, ← Nat.mul_assoc, Nat.mul_comm (n / 128) 128]
  rw [h, ← Nat.add_mul, Nat.add_comm, Nat.div_add_mod]
theorem qzd : ∀ (b : B) (k v w : Nat) (r : B), k ≤ 10 → takeGo k v b = some (w, r) → ∃ n, w = v + n * 128 ^ k ∧ b = putB n ++ r ∧ n * 128 ^ k < 18446744073709551616 ∧ (k = 0 ∨ 0 < n)
  | [], k, v, w, r, _, h => by cases h
  | c :: b, k, v, w, r, hk, h => by
    rw [takeGo] at h
    split at h
    · cases h
    · rename_i h1
      have hc := c.toNat_lt
      have hp : 128 ^ k ≤ 9223372036854775808 := by
        have : 128 ^ k ≤ 128 ^ 9 := Nat.pow_le_pow_right (by decide) (by omega)
        exact Nat.le_trans this (by decide)
      have hp8 : k ≠ 9 → 128 ^ k ≤ 72057594037927936 := fun h => by
        have : 128 ^ k ≤ 128 ^ 8 := Nat.pow_le_pow_right (by decide) (by omega)
        exact Nat.le_trans this (by decide)
      split at h
      · rename_i h2
        split at h
        · rename_i h3
          injection h with h; injection h with h4 h5
          subst h4; subst h5
          refine ⟨c.toNat, by rw [Nat.mod_eq_of_lt h2], by rw [putB_lt h2, qi9]; rfl, ?_, h3⟩
          by_cases h9 : k = 9
          · have : c.toNat ≤ 1 := by omega
            have : c.toNat * 128 ^ k ≤ 1 * 9223372036854775808 := Nat.mul_le_mul this hp
            omega
          · have : c.toNat * 128 ^ k ≤ 127 * 72057594037927936 := Nat.mul_le_mul (by omega) (hp8 h9)
            omega
        · cases h
      · rename_i h2
        obtain ⟨n, h3, h4, h5, h6⟩ := qzd b (k + 1) _ w r (by omega) h
        have hs := q1k (c.toNat % 128 + 128 * n) (128 ^ k)
        rw [show (c.toNat % 128 + 128 * n) % 128 = c.toNat % 128 by omega, show (c.toNat % 128 + 128 * n) / 128 = n by omega] at hs
        rw [Nat.pow_succ] at h3 h5
        have hn : 0 < n := by omega
        refine ⟨c.toNat % 128 + 128 * n, by omega, ?_, ?_, .inr (by omega)⟩
        · rw [putB_ge (by omega), show (c.toNat % 128 + 128 * n) % 128 + 128 = c.toNat by omega, show (c.toNat % 128 + 128 * n) / 128 = n by omega, qi9, h4]; rfl
        · rw [← hs]
          have hk9 : k ≤ 8 := by
            have : 128 ^ k * 128 < 18446744073709551616 := Nat.lt_of_le_of_lt (Nat.le_mul_of_pos_left _ hn) h5
            have := pow_le9 (k := k + 1) (by rw [Nat.pow_succ]; exact this)
            omega
          have h8 := hp8 (by omega)
          have hq : 128 ^ k * 128 ≤ 9223372036854775808 := by omega
          -- n * q < 2^64, q a power of two that divides 2^64
          have hm : c.toNat % 128 * 128 ^ k < 128 ^ k * 128 := by rw [Nat.mul_comm]; exact Nat.mul_lt_mul_of_pos_left (by omega) (Nat.pow_pos (by decide))
          have hdvd : ∃ m, 18446744073709551616 = m * (128 ^ k * 128) := by
            have : ∀ k, k ≤ 8 → ∃ m, 18446744073709551616 = m * (128 ^ k * 128) := fun k hk => ⟨18446744073709551616 / (128 ^ k * 128), by
              have : ∀ k, k ≤ 8 → 18446744073709551616 = 18446744073709551616 / (128 ^ k * 128) * (128 ^ k * 128) := by decide
              exact this k hk⟩
            exact this k hk9
          obtain ⟨m, hm'⟩ := hdvd
          rw [hm'] at h5 ⊢
          have : n < m := Nat.lt_of_mul_lt_mul_right h5
          have : (n + 1) * (128 ^ k * 128) ≤ m * (128 ^ k * 128) := Nat.mul_le_mul_right _ this
          rw [Nat.add_mul] at this
          omega
theorem qlg {b r : B} {n : Nat} (h : takeB b = some (n, r)) : b = putB n ++ r ∧ n < 18446744073709551616 := by
  obtain ⟨m, h1, h2, h3, _⟩ := qzd b 0 0 n r (by decide) h
  simp at h1 h3; subst h1; exact ⟨h2, h3⟩
def isL (l : UInt8) : Prop := l = 118 ∨ l = 98 ∨ l = 116 ∨ l = 108 ∨ l = 97 ∨ l = 99
instance (l : UInt8) : Decidable (isL l) := by unfold isL; infer_instance
theorem get_set {y : Evt} {l l' : UInt8} {n : Int} (hl : isL l) (hl' : isL l') : getN (setN y l n) l' = if l = l' then n else getN y l' := by
  rcases hl with rfl | rfl | rfl | rfl | rfl | rfl <;> rcases hl' with rfl | rfl | rfl | rfl | rfl | rfl <;> rfl
theorem qy9 {y : Evt} {l : UInt8} {n : Int} : (setN y l n).kind = y.kind ∧ (setN y l n).core = y.core ∧ (setN y l n).time = y.time := by
  unfold setN; split; · exact ⟨rfl, rfl, rfl⟩
  split; · exact ⟨rfl, rfl, rfl⟩
  split; · exact ⟨rfl, rfl, rfl⟩
  split; · exact ⟨rfl, rfl, rfl⟩
  split <;> exact ⟨rfl, rfl, rfl⟩
theorem qtc (k : Int) : (∀ l ∈ named k, isL l) ∧ (named k).Nodup := by
  unfold named isL
  split; · decide
  split; · decide
  split; · decide
  split; · decide
  split <;> decide
structure EvR (x : Evt) : Prop where
  v0 : 0 ≤ x.value
  v : x.value < 18446744073709551616
  core : x.core < 9223372036854775808
  time : x.time < 9223372036854775808
  kind : x.kind < 9223372036854775808
  block : x.block < 9223372036854775808
  tr : x.try' < 9223372036854775808
  lane : x.lane < 9223372036854775808
  addr : x.addr < 9223372036854775808
  code : x.code < 9223372036854775808
theorem EvR.get {x : Evt} (h : EvR x) {l : UInt8} (hl : isL l) (hm : mayN l (getN x l) = true) : 0 ≤ getN x l ∧ getN x l < 18446744073709551616 ∧ (l = 118 ∨ getN x l < 9223372036854775808) := by
  obtain ⟨h1, h2, h3, h4, h5, h6, h7, h8, h9, h10⟩ := h
  rcases hl with rfl | rfl | rfl | rfl | rfl | rfl
  · exact ⟨h1, h2, .inl rfl⟩
  all_goals
    unfold mayN at hm; rw [if_neg (by decide)] at hm
    have := (of_decide_eq_true hm).1
    refine ⟨this, ?_, .inr ?_⟩ <;> simp only [getN] at * <;> (first | omega | (simp at *; omega))
theorem qop : ∀ (ls : B) (y z : Evt) (b r : B), (∀ l ∈ ls, isL l) → ls.Nodup → goTake ls y b = some (z, r) →
    (b = (ls.flatMap fun l => putB (numB z l)) ++ r) ∧ goSet z ls y = some z ∧ (∀ l, isL l → l ∉ ls → getN z l = getN y l) ∧ z.kind = y.kind ∧ z.core = y.core ∧ z.time = y.time ∧ ∀ l ∈ ls, 0 ≤ getN z l ∧ getN z l < 18446744073709551616 ∧ (l = 118 ∨ getN z l < 9223372036854775808)
  | [], y, z, b, r, _, _, h => by
    injection h with h; injection h with h1 h2; subst h1; subst h2
    exact ⟨rfl, rfl, fun _ _ _ => rfl, rfl, rfl, rfl, fun l h => by cases h⟩
  | l :: ls, y, z, b, r, hl, hn, h => by
    rw [goTake] at h
    split at h
    · cases h
    · rename_i v b' hb
      split at h
      · rename_i hm
        obtain ⟨hnl, hn'⟩ := List.nodup_cons.1 hn
        have hl0 := hl l (List.mem_cons_self ..)
        obtain ⟨h1, h2, h3, h4, h5, h6, h7⟩ := qop ls _ z b' r (fun l' h' => hl l' (List.mem_cons_of_mem _ h')) hn' h
        have hg : getN z l = v := by rw [h3 l hl0 hnl, get_set hl0 hl0, if_pos rfl]
        have hv : numB z l = v := by unfold numB; rw [hg]; rfl
        obtain ⟨e1, e2⟩ := qlg hb
        obtain ⟨s1, s2, s3⟩ := qy9 (y := y) (l := l) (n := v)
        refine ⟨?_, ?_, ?_, h4.trans s1, h5.trans s2, h6.trans s3, ?_⟩
        · rw [List.flatMap_cons, hv, List.append_assoc, ← h1, e1]
        · rw [goSet, hg, if_pos hm.2]; exact h2
        · intro l' hl' hm'
          rw [h3 l' hl' (fun q => hm' (List.mem_cons_of_mem _ q)), get_set hl0 hl', if_neg (fun (q : l = l') => hm' (by rw [← q]; exact List.mem_cons_self ..))]
        · intro l' hl'
          rcases List.mem_cons.1 hl' with rfl | hl'
          · rw [hg]; exact ⟨by omega, by omega, hm.1.imp id fun q => by omega⟩
          · exact h7 l' hl'
      · cases h
theorem qu2 {k c t : Int} {l : UInt8} (hl : isL l) : getN (fresh k c t) l < 9223372036854775808 ∧ (l = 118 → getN (fresh k c t) l = 0) := by
  unfold fresh
  rcases hl with rfl | rfl | rfl | rfl | rfl | rfl <;> simp [getN] <;> split <;> omega
theorem qtr {b r : B} {x : Evt} (h : oneB b = some (x, r)) : b = encE x ++ r ∧ fineB x = true ∧ EvR x := by
  cases b with
  | nil => cases h
  | cons k b =>
    rw [oneB] at h
    split at h
    · rename_i hk
      split at h
      · cases h
      · rename_i c b1 hc
        split at h
        · cases h
        · rename_i t b2 ht
          split at h
          · rename_i hct
            obtain ⟨hl, hn⟩ := qtc (k.toNat : Nat)
            obtain ⟨h1, h2, h3, h4, h5, h6, h7⟩ := qop _ _ _ _ _ hl hn h
            obtain ⟨q1, q2⟩ := qlg hc
            obtain ⟨q3, q4⟩ := qlg ht
            have e1 : x.kind = (k.toNat : Nat) := h4
            have e2 : x.core = (c : Nat) := h5
            have e3 : x.time = (t : Nat) := h6
            have hr : ∀ l, isL l → getN x l < 18446744073709551616 ∧ (l = 118 → 0 ≤ getN x l) ∧ (l = 118 ∨ getN x l < 9223372036854775808) := fun l hq => by
              by_cases hm : l ∈ named (k.toNat : Nat)
              · obtain ⟨a, b, c⟩ := h7 l hm; exact ⟨b, fun _ => a, c⟩
              · rw [h3 l hq hm]
                obtain ⟨a, b⟩ := qu2 (k := (k.toNat : Nat)) (c := c) (t := t) hq
                exact ⟨by omega, fun q => by rw [b q]; decide, .inr a⟩
            have hr' : ∀ l, isL l → l ≠ 118 → getN x l < 9223372036854775808 := fun l hq hn => (hr l hq).2.2.resolve_left hn
            refine ⟨?_, ?_, ?_⟩
            · rw [encE, e1, e2, e3, Int.toNat_natCast, Int.toNat_natCast, Int.toNat_natCast, qi9, q1, q3, h1]
              simp [List.append_assoc]
            · simp only [fineB, Bool.and_eq_true, decide_eq_true_eq]
              rw [e1, e2, e3]
              exact ⟨⟨by omega, by omega, by omega, by omega, by omega⟩, h2⟩
            · refine ⟨(hr 118 (.inl rfl)).2.1 rfl, (hr 118 (.inl rfl)).1, by omega, by omega, by have := k.toNat_lt; omega, hr' 98 (by decide) (by decide), hr' 116 (by decide) (by decide), hr' 108 (by decide) (by decide), hr' 97 (by decide) (by decide), hr' 99 (by decide) (by decide)⟩
          · cases h
    · cases h
theorem qxb (x : Evt) : encE x ≠ [] := by simp [encE]
theorem q1t : ∀ (n : Nat) (b : B) (h : List Evt), decB n b = some h → b = h.flatMap encE ∧ ∀ x ∈ h, EvR x ∧ fineB x = true
  | n, [], h, hd => by
    have : decB n [] = some [] := by cases n <;> rfl
    rw [this] at hd; injection hd with hd; subst hd
    exact ⟨rfl, fun x hx => by cases hx⟩
  | 0, _ :: _, h, hd => by cases hd
  | n + 1, c :: b, h, hd => by
    rw [decB] at hd
    split at hd
    · cases hd
    · rename_i x r hx
      split at hd
      · cases hd
      · rename_i l hl
        injection hd with hd; subst hd
        obtain ⟨h1, h2⟩ := q1t n r l hl
        obtain ⟨q1, q2, q3⟩ := qtr hx
        refine ⟨by rw [q1, List.flatMap_cons, h1], fun y hy => ?_⟩
        rcases List.mem_cons.1 hy with rfl | hy
        · exact ⟨q3, q2⟩
        · exact h2 y hy
    · simp
end Tr
end Go.Am
namespace Go.Am
namespace Tr
open Lang (dec dec_lt dec_ge dec_ne)
def valOf (s : B) : Nat := s.foldl (fun a c => a * 10 + (c.toNat - 48)) 0
theorem qou (s : B) (c : UInt8) : valOf (s ++ [c]) = valOf s * 10 + (c.toNat - 48) := by simp [valOf]
theorem qkv (n : Nat) : valOf (dec n) = n := by
  induction n using Nat.strongRecOn with
  | _ n ih =>
    by_cases h : n < 10
    · rw [dec_lt h]
      show 0 * 10 + ((UInt8.ofNat (48 + n)).toNat - 48) = n
      rw [ofNat_lt (by omega)]; omega
    · rw [dec_ge (by omega), qou, ih _ (by omega), ofNat_lt (by omega)]; omega
def numS (s : B) : Option Nat := if s = dec (valOf s) ∧ valOf s < 18446744073709551616 then some (valOf s) else none
theorem qbh {s : B} {n : Nat} : numS s = some n ↔ s = dec n ∧ n < 18446744073709551616 := by
  unfold numS
  constructor
  · intro h
    split at h
    · rename_i q; injection h with h; subst h; exact q
    · cases h
  · rintro ⟨rfl, h⟩
    rw [qkv, if_pos ⟨rfl, h⟩]
def splitB (c : UInt8) : B → List B
  | [] => [[]]
  | d :: s => if d = c then [] :: splitB c s else match splitB c s with
    | [] => [[d]]
    | w :: ws => (d :: w) :: ws
def joinB (c : UInt8) : List B → B
  | [] => []
  | [w] => w
  | w :: w' :: ws => w ++ c :: joinB c (w' :: ws)
theorem qfn (c : UInt8) (s : B) : splitB c s ≠ [] := by
  cases s with
  | nil => simp [splitB]
  | cons d s => rw [splitB]; split <;> (try split) <;> simp
theorem qeb (c : UInt8) (s : B) : ∀ (w : B), c ∉ w → splitB c (w ++ c :: s) = w :: splitB c s
  | [], _ => by simp [splitB]
  | d :: w, h => by
    have h1 : d ≠ c := fun e => h (by simp [e])
    rw [List.cons_append, splitB, if_neg h1, qeb c s w fun q => h (List.mem_cons_of_mem _ q)]
theorem qhk (c : UInt8) : ∀ (w : B), c ∉ w → splitB c w = [w]
  | [], _ => rfl
  | d :: w, h => by
    have h1 : d ≠ c := fun e => h (by simp [e])
    rw [splitB, if_neg h1, qhk c w fun q => h (List.mem_cons_of_mem _ q)]
theorem qlc (c : UInt8) : ∀ (s : B), joinB c (splitB c s) = s
  | [] => rfl
  | d :: s => by
    have ih := qlc c s
    rw [splitB]
    split
    · rename_i h; subst h
      cases hq : splitB d s with
      | nil => exact absurd hq (qfn d s)
      | cons w ws => rw [hq] at ih; rw [joinB, List.nil_append, ih]
    · cases hq : splitB c s with
      | nil => exact absurd hq (qfn c s)
      | cons w ws =>
        rw [hq] at ih
        cases ws with
        | nil => simp only [joinB] at ih ⊢; rw [ih]
        | cons w' ws => simp only [joinB, List.cons_append] at ih ⊢; rw [ih]
theorem qwc (c : UInt8) {α : Type} (f : α → B) : ∀ (l : List α) (w : B), joinB c (w :: l.map f) = w ++ l.flatMap fun x => c :: f x
  | [], w => by simp [joinB]
  | x :: l, w => by rw [List.map_cons, joinB, qwc c f l, List.flatMap_cons, List.cons_append]
def fldB (l : UInt8) (w : B) : Option Nat := if (wordsOf l).length = 0 then numS w else (let k := (wordsOf l).idxOf w; if 0 < k ∧ k < (wordsOf l).length then some k else none)
def goRead : B → List B → Evt → Option Evt
  | [], [], y => some y
  | l :: ls, w :: ws, y => match fldB l w with
    | none => none
    | some v => if (l = 118 ∨ v < 9223372036854775808) ∧ mayN l v then goRead ls ws (setN y l v) else none
  | _, _, _ => none
def kindB (w : B) : Nat := if w = kword 1 then 1 else if w = kword 2 then 2 else if w = kword 3 then 3 else if w = kword 4 then 4 else if w = kword 5 then 5 else if w = kword 6 then 6 else if w = kword 7 then 7 else if w = kword 8 then 8 else 0
def readW : List B → Option Evt
  | t :: c :: k :: ws => if kindB k = 0 then none else match numS t with
    | none => none
    | some t => match numS c with
      | none => none
      | some c => if c < 4 ∧ t < 9223372036854775808 then goRead (named (kindB k)) ws (fresh (kindB k) c t) else none
  | _ => none
def readB (s : B) : Option Evt := readW (splitB 32 s)
def parseGo : Nat → List B → Except Nat (List Evt)
  | _, [] => .ok []
  | n, [s] => if s = [] then .ok [] else .error (n + 1)
  | n, s :: s' :: r => match readB s with
    | none => .error (n + 1)
    | some x => match parseGo (n + 1) (s' :: r) with
      | .ok l => .ok (x :: l)
      | .error k => .error k
def parseB (s : B) : Except Nat (List Evt) := parseGo 0 (splitB 10 s)
def textB (h : List Evt) : B := h.flatMap fun x => lineB x ++ [10]
theorem q0w {k : Int} (h1 : 1 ≤ k) (h2 : k ≤ 8) : kindB (kword k) = k.toNat := by
  have : k = 1 ∨ k = 2 ∨ k = 3 ∨ k = 4 ∨ k = 5 ∨ k = 6 ∨ k = 7 ∨ k = 8 := by omega
  rcases this with rfl | rfl | rfl | rfl | rfl | rfl | rfl | rfl <;> decide
theorem qrm {w : B} (h : kindB w ≠ 0) : 1 ≤ kindB w ∧ kindB w ≤ 8 ∧ w = kword (kindB w : Nat) := by
  unfold kindB at *
  repeat' split at h
  all_goals first | exact absurd rfl h | skip
  all_goals simp_all
theorem qug (n : Nat) : ∀ c ∈ dec n, 48 ≤ c.toNat ∧ c.toNat ≤ 57 := by
  induction n using Nat.strongRecOn with
  | _ n ih =>
    intro c hc
    by_cases h : n < 10
    · rw [dec_lt h] at hc; have hc := List.mem_singleton.1 hc; subst hc; rw [ofNat_lt (by omega)]; omega
    · rw [dec_ge (by omega)] at hc
      rcases List.mem_append.1 hc with hc | hc
      · exact ih _ (by omega) c hc
      · have hc := List.mem_singleton.1 hc; subst hc; rw [ofNat_lt (by omega)]; omega
theorem word_fld {x : Evt} {l : UInt8} {w : B} {v : Nat} (h : fldB l w = some v) (hx : getN x l = v) : wordB x l = w ∧ v < 18446744073709551616 := by
  have hv : numB x l = v := by unfold numB; omega
  unfold fldB at h
  unfold wordB
  rw [hv]
  split at h
  · rename_i hq
    obtain ⟨h1, h2⟩ := qbh.1 h
    rw [List.getElem?_eq_none (by omega)]
    exact ⟨h1.symm, h2⟩
  · simp only at h
    split at h
    · rename_i hk
      injection h with h; subst h
      rw [List.getElem?_eq_getElem hk.2]
      refine ⟨List.getElem_idxOf hk.2, ?_⟩
      have : (wordsOf l).length ≤ 9 := by
        unfold wordsOf
        repeat' split
        all_goals decide
      omega
    · cases h
theorem qnc : ∀ (ls : B) (ws : List B) (y z : Evt), (∀ l ∈ ls, isL l) → ls.Nodup → goRead ls ws y = some z →
    ws = ls.map (wordB z) ∧ goSet z ls y = some z ∧ (∀ l, isL l → l ∉ ls → getN z l = getN y l) ∧ z.kind = y.kind ∧ z.core = y.core ∧ z.time = y.time ∧ ∀ l ∈ ls, 0 ≤ getN z l ∧ getN z l < 18446744073709551616 ∧ (l = 118 ∨ getN z l < 9223372036854775808)
  | [], [], y, z, _, _, h => by
    injection h with h; subst h
    exact ⟨rfl, rfl, fun _ _ _ => rfl, rfl, rfl, rfl, fun l h => by cases h⟩
  | [], _ :: _, y, z, _, _, h => by cases h
  | _ :: _, [], y, z, _, _, h => by cases h
  | l :: ls, w :: ws, y, z, hl, hn, h => by
    rw [goRead] at h
    split at h
    · cases h
    · rename_i v hb
      split at h
      · rename_i hm
        obtain ⟨hnl, hn'⟩ := List.nodup_cons.1 hn
        have hl0 := hl l (List.mem_cons_self ..)
        obtain ⟨h1, h2, h3, h4, h5, h6, h7⟩ := qnc ls ws _ z (fun l' h' => hl l' (List.mem_cons_of_mem _ h')) hn' h
        have hg : getN z l = v := by rw [h3 l hl0 hnl, get_set hl0 hl0, if_pos rfl]
        obtain ⟨e1, e2⟩ := word_fld hb hg
        obtain ⟨s1, s2, s3⟩ := qy9 (y := y) (l := l) (n := v)
        refine ⟨by rw [List.map_cons, e1, ← h1], ?_, ?_, h4.trans s1, h5.trans s2, h6.trans s3, ?_⟩
        · rw [goSet, hg, if_pos hm.2]; exact h2
        · intro l' hl' hm'
          rw [h3 l' hl' (fun q => hm' (List.mem_cons_of_mem _ q)), get_set hl0 hl', if_neg (fun (q : l = l') => hm' (by rw [← q]; exact List.mem_cons_self ..))]
        · intro l' hl'
          rcases List.mem_cons.1 hl' with rfl | hl'
          · rw [hg]; exact ⟨by omega, by omega, hm.1.imp id fun q => by omega⟩
          · exact h7 l' hl'
      · cases h
theorem q1b {s : B} {x : Evt} (h : readB s = some x) : s = lineB x ∧ fineB x = true ∧ EvR x := by
  have hj := qlc 32 s
  rw [readB] at h
  generalize splitB 32 s = q at h hj
  revert h hj
  cases q with
  | nil => intro h _; cases h
  | cons t q =>
    cases q with
    | nil => intro h _; cases h
    | cons c q =>
      cases q with
      | nil => intro h _; cases h
      | cons k ws =>
        intro h hj
        rw [readW] at h
        split at h
        · cases h
        · rename_i hk
          split at h
          · cases h
          · rename_i tn ht
            split at h
            · cases h
            · rename_i cn hc
              split at h
              · rename_i hct
                obtain ⟨k1, k2, k3⟩ := qrm hk
                obtain ⟨hl, hn⟩ := qtc (kindB k : Nat)
                obtain ⟨h1, h2, h3, h4, h5, h6, h7⟩ := qnc _ _ _ _ hl hn h
                obtain ⟨q1, q2⟩ := qbh.1 ht
                obtain ⟨q3, q4⟩ := qbh.1 hc
                have e1 : x.kind = (kindB k : Nat) := h4
                have e2 : x.core = (cn : Nat) := h5
                have e3 : x.time = (tn : Nat) := h6
                have hr : ∀ l, isL l → getN x l < 18446744073709551616 ∧ (l = 118 → 0 ≤ getN x l) ∧ (l = 118 ∨ getN x l < 9223372036854775808) := fun l hq => by
                  by_cases hm : l ∈ named (kindB k : Nat)
                  · obtain ⟨a, b, c⟩ := h7 l hm; exact ⟨b, fun _ => a, c⟩
                  · rw [h3 l hq hm]
                    obtain ⟨a, b⟩ := qu2 (k := (kindB k : Nat)) (c := cn) (t := tn) hq
                    exact ⟨by omega, fun q => by rw [b q]; decide, .inr a⟩
                have hr' : ∀ l, isL l → l ≠ 118 → getN x l < 9223372036854775808 := fun l hq hn => (hr l hq).2.2.resolve_left hn
                refine ⟨?_, ?_, ?_⟩
                · rw [← hj, joinB, joinB, h1, qwc, q1, q3, lineB, e1, e2, e3, Int.toNat_natCast, Int.toNat_natCast, ← k3]
                  simp
                · simp only [fineB, Bool.and_eq_true, decide_eq_true_eq]
                  rw [e1, e2, e3]
                  exact ⟨⟨by omega, by omega, by omega, by omega, by omega⟩, h2⟩
                · exact ⟨(hr 118 (.inl rfl)).2.1 rfl, (hr 118 (.inl rfl)).1, by omega, by omega, by omega, hr' 98 (by decide) (by decide), hr' 116 (by decide) (by decide), hr' 108 (by decide) (by decide), hr' 97 (by decide) (by decide), hr' 99 (by decide) (by decide)⟩
              · cases h
theorem qq9 : ∀ (l : List B) (n : Nat) (h : List Evt), l ≠ [] → parseGo n l = .ok h → joinB 10 l = textB h ∧ ∀ x ∈ h, EvR x ∧ fineB x = true
  | [], n, h, hl, _ => absurd rfl hl
  | [s], n, h, _, hp => by
    rw [parseGo] at hp
    split at hp
    · rename_i hs; injection hp with hp; subst hp; subst hs; exact ⟨rfl, fun x hx => by cases hx⟩
    · cases hp
  | s :: s' :: r, n, h, _, hp => by
    rw [parseGo] at hp
    split at hp
    · cases hp
    · rename_i x hx
      split at hp
      · rename_i l hl
        injection hp with hp; subst hp
        obtain ⟨h1, h2⟩ := qq9 (s' :: r) (n + 1) l (by simp) hl
        obtain ⟨q1, q2, q3⟩ := q1b hx
        refine ⟨?_, fun y hy => ?_⟩
        · rw [joinB, h1, q1]; simp [textB]
        · rcases List.mem_cons.1 hy with rfl | hy
          · exact ⟨q3, q2⟩
          · exact h2 y hy
      · cases hp
theorem parse_ok {s : B} {h : List Evt} (hp : parseB s = .ok h) : s = textB h ∧ ∀ x ∈ h, EvR x ∧ fineB x = true := by
  obtain ⟨h1, h2⟩ := qq9 _ 0 h (qfn 10 s) hp
  rw [qlc] at h1
  exact ⟨h1, h2⟩
end Tr
end Go.Am
namespace Go.Am
theorem qpc (H : AHeap) (b : Nat) (o o' : AObj) : (H.set b o).set b o' = H.set b o' := by simp only [AHeap.set, T.set, T.put, T.put_put]
theorem qo9 (s : List UInt8) : Op.rangeStr [.str s] = some (.strIter s 0, Op.ptrTo) := rfl
theorem qvk {H : AHeap} {b p : Nat} {s : List UInt8} {c : UInt8} (h : H.get b = some (.strIter s p)) (hc : s[p]? = some c) (h1 : c.toNat < 128) :
    Op.nextStr [.ptr b 0] H = some (.tuple [.bool true, .int .i64 p, .int .i32 c.toNat], H.set b (.strIter s (p + 1))) := by
  have e : Nat.blt c.toNat 128 = true := qdr h1
  simp only [Op.nextStr, h, kc, hc, e, cond_true, goIntV]
theorem qt4 {H : AHeap} {b p : Nat} {s : List UInt8} (h : H.get b = some (.strIter s p)) (hc : s.length ≤ p) : Op.nextStr [.ptr b 0] H = some (.tuple [.bool false], H) := by
  simp only [Op.nextStr, h, kc, List.getElem?_eq_none hc]
theorem qlj {len size b o : Nat} {k : IntKind} {j : Int} {i : Nat} (hj : j = i) (hi : i < len) : Op.indexArr len size [.ptr b o, .int k j] = some (.ptr b (o + i * size)) := by
  simp only [Op.indexArr, qfh hj hi, Option.bind_some]
theorem vv {s : List UInt8} {k : IntKind} {j : Int} {i : Nat} {c : UInt8} (hj : j = i) (hc : s[i]? = some c) : Op.indexStr [.str s, .int k j] = some (.int .u8 c.toNat) := by
  have hi : i < s.length := (List.getElem?_eq_some_iff.1 hc).1
  simp only [Op.indexStr, qfh hj hi, Option.bind_some, kc, hc]
theorem o_shr (k k' : IntKind) (a : Int) (n : Nat) : Op.bin .shr [.int k a, .int k' n] = some (.int k (a.fdiv (2 ^ (min n k.bits)))) := by
  have e : ltI (n : Int) 0 = false := by rw [qfe]; simp
  simp only [Op.bin, binV, isShift, cond_true, shiftV, e, cond_false, Int.toNat_natCast]
theorem o_shl (k k' : IntKind) (a : Int) (n : Nat) : Op.bin .shl [.int k a, .int k' n] = some (.int k (wrapI k (a * 2 ^ (min n k.bits)))) := by
  have e : ltI (n : Int) 0 = false := by rw [qfe]; simp
  simp only [Op.bin, binV, isShift, cond_true, shiftV, e, cond_false, Int.toNat_natCast]
theorem sl_row (H : AHeap) (c : List AV) (e : Nat) (fz : Nat × Nat) (ow : Bool) : Sl (H.alloc (.row c e fz ow)) 1 (.slice H.next 0 c.length c.length) c.length c := by
  refine ⟨by omega, rfl, Nat.le_refl _, .inr ⟨by rw [z6]; omega, c, zo (qn H _), ?_⟩⟩
  rw [jb, if_pos (by omega)]; simp
def encS (s : List UInt8) : List AV := [.str s]
theorem kh (s : List UInt8) : (encS s).length = 1 := rfl
theorem qhe (l : List (List UInt8)) : l.flatMap encS = l.map AV.str := by
  induction l with
  | nil => rfl
  | cons a l ih => rw [List.flatMap_cons, ih]; rfl
def encB (c : UInt8) : List AV := [.int .u8 c.toNat]
theorem qdl (c : UInt8) : (encB c).length = 1 := rfl
theorem encB_one (c : UInt8) : allOne (encB c) = true := rfl
theorem qng (l : List UInt8) : l.flatMap encB = l.map fun c => AV.int .u8 c.toNat := by
  induction l with
  | nil => rfl
  | cons a l ih => rw [List.flatMap_cons, ih]; rfl
theorem qfy (H : AHeap) (ws : List (List UInt8)) (e n : Nat) (fz : Nat × Nat) (ow : Bool) (hn : ws.length = n) : SlT encS 1 (H.alloc (.row (ws.map AV.str) e fz ow)) (.slice H.next 0 n n) ws := by
  have := sl_row H (ws.map AV.str) e fz ow
  rw [List.length_map, hn] at this
  unfold SlT; rw [qhe, hn]; exact this
structure Aft (a : AV) (H : AHeap) (v : AV) (H' : AHeap) : Prop where
  fr : Fr (OnS a) H H'
  on : ∀ b, OnS v b → OnS a b ∨ H.next ≤ b
theorem Aft.refl (a : AV) (H : AHeap) : Aft a H a H := ⟨Fr.refl _, fun b h => .inl h⟩
theorem Aft.trans {a v w : AV} {H H1 H2 : AHeap} (h : Aft a H v H1) (h' : Aft v H1 w H2) : Aft a H w H2 :=
  ⟨h.fr.trans h'.fr h.on, fun b hb => (h'.on b hb).elim (h.on b) fun q => .inr (Nat.le_trans h.fr.next q)⟩
theorem Aft.em {a v : AV} {H H1 H2 : AHeap} (h : Aft a H v H1) (f : Fr Em H1 H2) : Aft a H v H2 := ⟨h.fr.em f, h.on⟩
theorem Aft.pre {a v : AV} {H H1 H2 : AHeap} (f : Fr Em H H1) (h : Aft a H1 v H2) : Aft a H v H2 := (Aft.refl a H).em f |>.trans h
theorem Aft.get {a v : AV} {H H' : AHeap} (h : Aft a H v H') {b : Nat} (hb : b < H.next) (hn : ¬ OnS a b) : H'.get b = H.get b ∧ b < H'.next ∧ ¬ OnS v b :=
  ⟨h.fr.keep b hb hn, Nat.lt_of_lt_of_le hb h.fr.next, fun q => (h.on b q).elim hn fun r => by omega⟩
theorem New.app4 {α : Type} {enc : α → List AV} {e size : Nat} {H0 H : AHeap} {v : AV} {xs : List α} (h : New enc e size H0 H v xs) {bytes : Nat} {zero : List AV} {x : AV} {a : α} (hx : x.cells = enc a) (hs : (enc a).length = size) (hz : zero.length = size) (h1 : allOne (enc a) = true) (h0 : 0 < size)
    (hf : (xs.length + 1) * bytes ≤ 140737488355328) (hf' : xs.length + 1 ≤ 140737488355328) {K : AObj → (Nat → AV) → Bool → AV → AHeap → Prop} {m : Bool}
    (hk : ∀ v' H', New enc e size H0 H' v' (xs ++ [a]) → Aft v H v' H' → K (.row x.cells e (0, 0) true) (Op.sliceTo 1 1) m v' H') :
    B32 m (Op.buildSlice e 1 zero [(0, size)] [x]) fun g o mk => B32 g (Op.append e size bytes [v, mk H.next] (H.alloc o)) (K o mk) :=
  h.app3 hx hs hz h1 h0 hf hf' fun v' H' h1 h2 h3 => hk v' H' h1 ⟨h2, h3⟩
theorem New.setOff {α : Type} {enc : α → List AV} {e size : Nat} {H0 H : AHeap} {v : AV} {xs : List α} (h : New enc e size H0 H v xs) {b : Nat} (hb : H0.next ≤ b) (hn : ¬ OnS v b) (o : AObj) : New enc e size H0 (H.set b o) v xs :=
  ⟨Own.fr h.own ((Fr.refl H).set (W := On b) (.inl rfl) o) fun x hx (q : x = b) => hn (by rw [← q]; exact hx), h.fr.set (.inr hb) _, h.fresh⟩
theorem Aft.setOff {a v : AV} {H H' : AHeap} (h : Aft a H v H') {b : Nat} (hb : H.next ≤ b) (o : AObj) : Aft a H v (H'.set b o) := ⟨h.fr.set (.inr hb) _, h.on⟩
theorem q05 (H : AHeap) (s : List UInt8) : firstCells H 1 s.length (.str s) = some (s.map fun c => AV.int .u8 c.toNat) := by
  show cond (Nat.beq 1 1) (some ((s.take s.length).map fun c => AV.int .u8 c.toNat)) none = _
  rw [List.take_length]; rfl
theorem lenV_str (s : List UInt8) : lenV (.str s) = some s.length := by show some (lenL s) = _; rw [kx]
end Go.Am
namespace Go.Am
open Lang (dec)
theorem n_rem {k : IntKind} {a : Nat} {b : Int} (hb : 0 < b) : Op.bin .rem [.int k (a : Int), .int k b] = some (.int k ((a % b.toNat : Nat) : Int)) := by
  rw [o_rem k _ _ (by omega), Int.tmod_eq_emod_of_nonneg (by omega)]
  congr 2
  rw [Int.natCast_emod]; congr 1; omega
theorem q1n {a : Nat} {b : Int} (hb : 0 < b) (ha : a < 18446744073709551616) : Op.bin .quo [.int .u64 (a : Int), .int .u64 b] = some (.int .u64 ((a / b.toNat : Nat) : Int)) := by
  rw [o_quo .u64 _ _ (by omega), Int.tdiv_eq_ediv_of_nonneg (by omega)]
  have e : (a : Int) / b = ((a / b.toNat : Nat) : Int) := by rw [Int.natCast_ediv]; congr 1; omega
  have h1 : a / b.toNat ≤ a := Nat.div_le_self ..
  rw [e]; generalize a / b.toNat = q at h1 ⊢
  rw [qeo (by omega) (by omega)]
theorem qx7 {a : Nat} {b : Int} (hb : 0 < b) (ha : a < 4294967296) : Op.bin .quo [.int .u32 (a : Int), .int .u32 b] = some (.int .u32 ((a / b.toNat : Nat) : Int)) := by
  rw [o_quo .u32 _ _ (by omega), Int.tdiv_eq_ediv_of_nonneg (by omega)]
  have e : (a : Int) / b = ((a / b.toNat : Nat) : Int) := by rw [Int.natCast_ediv]; congr 1; omega
  have h1 : a / b.toNat ≤ a := Nat.div_le_self ..
  rw [e]; generalize a / b.toNat = q at h1 ⊢
  rw [qhs]; congr 2; omega
theorem n_shr {k k' : IntKind} {a n : Nat} (h : n ≤ k.bits) : Op.bin .shr [.int k (a : Int), .int k' (n : Int)] = some (.int k ((a / 2 ^ n : Nat) : Int)) := by
  rw [o_shr, Nat.min_eq_left h, Int.fdiv_eq_ediv_of_nonneg _ (by exact_mod_cast Nat.le_of_lt (Nat.pow_pos (by decide)))]
  simp
theorem w_u32 {n : Nat} (h : n < 4294967296) : wrapI .u32 (n : Int) = n := by rw [qhs]; omega
theorem w_i64 {n : Nat} (h : n < 9223372036854775808) : wrapI .i64 (n : Int) = n := by rw [qj5]; omega
theorem w_u64 {n : Nat} (h : n < 18446744073709551616) : wrapI .u64 (n : Int) = n := by rw [qo2]; omega
theorem w_u8 {n : Nat} (h : n < 256) : wrapI .u8 (n : Int) = n := by rw [qyq]; omega
theorem qxk {n : Nat} (h : n < 100) : wrapI .u32 ((n : Int) * 2) = ((n * 2 : Nat) : Int) := by rw [qhs]; omega
theorem qx8 {n : Nat} (h : n < 1000) : wrapI .u32 ((n : Int) + 1) = ((n + 1 : Nat) : Int) := by rw [qhs]; omega
theorem w_48 {n : Nat} (h : n < 100) : wrapI .u32 (48 + (n : Int)) = ((48 + n : Nat) : Int) := by rw [qhs]; omega
theorem w_inc64 {a : Nat} (h : a < 9223372036854775807) : wrapI .i64 ((a : Int) + 1) = ((a + 1 : Nat) : Int) := by rw [qj5]; omega
theorem qxj {n : Nat} {c : Int} (h0 : 0 ≤ c) (h1 : c.toNat ≤ n) (h : n < 9223372036854775808) : wrapI .i64 ((n : Int) - c) = ((n - c.toNat : Nat) : Int) := by rw [qj5]; omega
theorem qn7 {k : IntKind} {a d mx : Nat} (h : a ≤ mx) : bound (some (.int k (a : Int))) d mx = some a := by
  show cond (Nat.ble a mx) (some a) none = _
  rw [qam h]; rfl
theorem qjc {s : List UInt8} {k k' : IntKind} {a b : Nat} (h1 : a ≤ b) (h2 : b ≤ s.length) : Op.sliceStr [some 0, some 1] [.str s, .int k (a : Int), .int k' (b : Int)] = some (.str ((s.take b).drop a)) := by
  show (bound (some (.int k' (b : Int))) s.length s.length).bind _ = _
  rw [qn7 h2, Option.bind_some]
  show (bound (some (.int k (a : Int))) 0 b).bind _ = _
  rw [qn7 h1]; rfl
theorem qgk {s : List UInt8} {k : IntKind} {a : Nat} (h : a ≤ s.length) : Op.sliceStr [some 0, none] [.str s, .int k (a : Int)] = some (.str (s.drop a)) := by
  show (bound (some (.int k (a : Int))) 0 s.length).bind _ = _
  rw [qn7 h, Option.bind_some, List.take_length]
theorem qjb {s : List UInt8} {k : IntKind} {b : Nat} (h : b ≤ s.length) : Op.sliceStr [none, some 0] [.str s, .int k (b : Int)] = some (.str (s.take b)) := by
  show (bound (some (.int k (b : Int))) s.length s.length).bind _ = _
  rw [qn7 h]; rfl
theorem qxi {n p b : Nat} {k : IntKind} (h : b ≤ n) (hn : 0 < n) : Op.sliceArr n 1 [none, some 0, none] [.ptr p 0, .int k (b : Int)] = some (.slice p 0 b n) := by
  have e : Nat.beq n 0 = false := vq (by omega)
  have e1 : bound none n n = some n := rfl
  have e2 : bound none 0 b = some 0 := rfl
  simp only [Op.sliceArr, arg, nth_0, Option.bind_some, sliceV, qn7 h, e1, e2, e, cond_false, Nat.sub_zero, Nat.zero_mul, Nat.add_zero]
theorem qi3 (l : List UInt8) : bytesOf (l.map fun c => AV.int .u8 c.toNat) = some l := by
  induction l with
  | nil => rfl
  | cons a l ih =>
    show (byteOf (.int .u8 a.toNat)).bind (fun b => (bytesOf (l.map fun c => AV.int .u8 c.toNat)).bind fun r => some (b :: r)) = _
    rw [ih]; simp [byteOf]
def dig (n i : Nat) : Nat := 48 + n / 10 ^ i % 10
theorem qsn : ∀ (d n : Nat), n < 10 ^ (d + 1) → (d = 0 ∨ 10 ^ d ≤ n) → (dec n).length = d + 1
  | 0, n, h, _ => by rw [Lang.dec_lt (by simpa using h)]; rfl
  | d + 1, n, h, h' => by
    have h' : 10 ^ (d + 1) ≤ n := h'.resolve_left (by omega)
    have hp : 0 < 10 ^ d := Nat.pow_pos (by decide)
    have h10 : 10 ≤ n := by rw [Nat.pow_succ] at h'; omega
    rw [Lang.dec_ge h10, List.length_append, List.length_singleton, qsn d (n / 10) (by rw [Nat.pow_succ] at h; omega) (.inr (by rw [Nat.pow_succ] at h'; omega))]
theorem q3i : ∀ (d n : Nat), n < 10 ^ (d + 1) → (d = 0 ∨ 10 ^ d ≤ n) → ∀ j, j ≤ d → (dec n)[j]? = some (UInt8.ofNat (dig n (d - j)))
  | 0, n, h, _, j, hj => by
    have hn : n < 10 := by simpa using h
    obtain rfl : j = 0 := by omega
    rw [Lang.dec_lt hn]; simp [dig, Nat.mod_eq_of_lt hn]
  | d + 1, n, h, h', j, hj => by
    have h' : 10 ^ (d + 1) ≤ n := h'.resolve_left (by omega)
    have hp : 0 < 10 ^ d := Nat.pow_pos (by decide)
    have h10 : 10 ≤ n := by rw [Nat.pow_succ] at h'; omega
    have q1 : n / 10 < 10 ^ (d + 1) := by rw [Nat.pow_succ] at h; omega
    have q2 : d = 0 ∨ 10 ^ d ≤ n / 10 := .inr (by rw [Nat.pow_succ] at h'; omega)
    have hl := qsn d (n / 10) q1 q2
    rw [Lang.dec_ge h10]
    by_cases e : j = d + 1
    · subst e
      rw [List.getElem?_append_right (by omega), hl]; simp [dig]
    · rw [List.getElem?_append_left (by omega), q3i d (n / 10) q1 q2 j (by omega)]
      have : d + 1 - j = (d - j) + 1 := by omega
      rw [dig, dig, this, Nat.pow_succ, Nat.mul_comm (10 ^ (d - j)) 10, Nat.div_div_eq_div_mul]
theorem q2a (n i j : Nat) : dig (n / 10 ^ i) j = dig n (i + j) := by rw [dig, dig, Nat.div_div_eq_div_mul, ← Nat.pow_add]
end Go.Am
namespace Go.Am
def ITERO (AP : Mac) (g : Nat) (pre cap : List AV) (N O : Nat → Prop) (H0 : AHeap) (xs : List (List AV)) : Prop :=
  ∀ (L : Nat) (R : Nat → (Nat → Prop) → AHeap → Prop) (S : (Nat → Prop) → AHeap → Prop) (W0 : Nat → Prop) (H : AHeap),
    H0.next ≤ H.next → (∀ b, N b ∨ O b → b < H0.next ∧ H.get b = H0.get b ∧ ¬ W0 b) → R 0 W0 H → (∀ b, W0 b → b < H.next) →
    (∀ i W H H', R i W H → (∀ b, W b → H'.get b = H.get b) → H.next ≤ H'.next → R i W H') → (∀ W H H', S W H → (∀ b, W b → H'.get b = H.get b) → H.next ≤ H'.next → S W H') →
    (∀ (i : Nat) x, xs[i]? = some x → ∀ W H', R i W H' → (∀ b, W b → b < H'.next ∧ (W0 b ∨ H.next ≤ b)) → Fr (fun b => W0 b ∨ O b) H H' →
      ∃ bb H'' W', ROUND AP L x H' (.ret (.bool bb)) H'' ∧ Fr W H' H'' ∧ (∀ b, W' b → b < H''.next ∧ (W b ∨ H'.next ≤ b)) ∧ (bb = true → R (i + 1) W' H'') ∧ (bb = false → S W' H'')) →
    ∃ v H' W', CALL AP g (pre ++ (.fn (.yield L) [] [] :: cap)) H (.ret v) H' ∧ Fr (fun b => W0 b ∨ O b) H H' ∧ (∀ b, W' b → b < H'.next ∧ (W0 b ∨ H.next ≤ b)) ∧ (R xs.length W' H' ∨ S W' H')
section
variable {AP : Mac}
theorem q2b {f : Nat} {fn : AFunc} {k : Nat} {lp : ALoop} (hf : AP.func f = some fn) (hk : nth fn.loops k = some lp) {tm : T AV} {dfs : List ADef} {up : Option Chain} {H : AHeap} {Q : Post}
    {g : Nat} {pre cap : List AV} {N O : Nat → Prop} {H0 : AHeap} {xs : List (List AV)} (hit : ITERO AP g pre cap N O H0 xs)
    (P : Nat → (Nat → Prop) → AHeap → Prop) (PS : AExit → (Nat → Prop) → AHeap → Prop) (W0 : Nat → Prop)
    (hn : H0.next ≤ H.next) (hN : ∀ b, N b ∨ O b → b < H0.next ∧ H.get b = H0.get b ∧ ¬ W0 b) (hW0 : ∀ b, W0 b → b < H.next) (h0 : P 0 W0 H)
    (loc : ∀ i W H H', P i W H → (∀ b, W b → H'.get b = H.get b) → H.next ≤ H'.next → P i W H') (locS : ∀ e W H H', PS e W H → (∀ b, W b → H'.get b = H.get b) → H.next ≤ H'.next → PS e W H')
    (hbody : ∀ (L d i : Nat) x, xs[i]? = some x → H.next ≤ L → ∀ W H1, P i W H1 → (∀ b, W b → b < H1.next ∧ (W0 b ∨ H.next ≤ b)) → Fr (fun b => W0 b ∨ O b) H H1 → ¬ W L → L < H1.next → H1.get L = some (.loop .ready none f k tm d) →
      ∃ tm1, qdy tm lp.params x = some tm1 ∧ WP AP ⟨some L, f⟩ lp.assign ⟨tm1, [], none, H1⟩ fun e st1 => e = .normal ∧ st1.H.get L = some (.loop .ready none f k tm d) ∧
        WP AP ⟨some L, f⟩ lp.body ⟨st1.tm, st1.dfs, st1.up, st1.H.set L (.loop .busy none f k tm d)⟩ fun e2 st2 => st2.dfs = [] ∧ st2.H.get L = some (.loop .busy none f k tm d) ∧
          ∃ W' : Nat → Prop, (∀ b, W' b → b < st2.H.next ∧ (W b ∨ H1.next ≤ b)) ∧ Fr (fun b => W b ∨ b = L) H1 st2.H ∧ (e2 = .normal ∧ P (i + 1) W' st2.H ∨ isJump e2 ∧ PS e2 W' st2.H))
    (hend : ∀ d W' H', H.next ≤ d → d < H'.next → H'.get d = some (.deferred (some [])) → Fr (fun b => W0 b ∨ O b) H H' → (∀ b, W' b → b < H'.next ∧ (W0 b ∨ H.next ≤ b) ∧ b ≠ d) → P xs.length W' H' → Q .normal ⟨tm, .coll d :: dfs, up, H'⟩)
    (hstop : ∀ e d W' H', isJump e → H.next ≤ d → d < H'.next → H'.get d = some (.deferred (some [])) → Fr (fun b => W0 b ∨ O b) H H' → (∀ b, W' b → b < H'.next ∧ (W0 b ∨ H.next ≤ b) ∧ b ≠ d) → PS e W' H' → Q e ⟨tm, .coll d :: dfs, up, H'⟩) :
    RNG AP ⟨none, f⟩ k ⟨tm, dfs, up, H⟩ Q (.fn (.func g) pre cap) := by
  let d := H.next
  let L := H.next + 1
  let Hd := H.alloc (.deferred (some []))
  let HL := Hd.alloc (.loop .ready none f k tm d)
  have hHL : HL.next = H.next + 2 := rfl
  have hgL : HL.get L = some (.loop .ready none f k tm d) := qn Hd _
  have hgd : HL.get d = some (.deferred (some [])) := by rw [show HL.get d = Hd.get d from zd (by show H.next < H.next + 1; omega) _]; exact qn H _
  have hfr0 : Fr Em H HL := ((Fr.refl H).alloc _).alloc _
  have hold : ∀ b, b < H.next → HL.get b = H.get b := fun b hb => hfr0.keep b hb (fun q => q)
  obtain ⟨v, H', W', hc, hfr, hW', hres⟩ := hit L
    (fun i W H' => ∃ V : Nat → Prop, (∀ b, V b → W b) ∧ W L ∧ ¬ V L ∧ ¬ W d ∧ (∀ b, W b → V b ∨ b = L) ∧ P i V H' ∧ H'.get L = some (.loop .ready none f k tm d) ∧ L < H'.next)
    (fun W H' => ∃ (V : Nat → Prop) (e : AExit) (j : AJump), (∀ b, V b → W b) ∧ W L ∧ ¬ V L ∧ ¬ W d ∧ (∀ b, W b → V b ∨ b = L) ∧ isJump e ∧ endOf e = some j ∧ PS e V H' ∧ H'.get L = some (.loop .done (some j) f k tm d) ∧ L < H'.next)
    (fun b => W0 b ∨ b = L) HL (by rw [hHL]; omega)
    (fun b hb => by
      obtain ⟨h1, h2, h3⟩ := hN b hb
      exact ⟨h1, by rw [hold b (by omega)]; exact h2, fun q => q.elim h3 fun q => by have : L = H.next + 1 := rfl; omega⟩)
    ⟨W0, fun b hb => .inl hb, .inr rfl, fun q => by have := hW0 _ q; have : L = H.next + 1 := rfl; omega, fun q => q.elim (fun q => by have := hW0 _ q; have : d = H.next := rfl; omega) fun q => by have : d = H.next := rfl; have : L = H.next + 1 := rfl; omega,
      fun b hb => hb, loc 0 W0 H HL h0 (fun b hb => hold b (hW0 b hb)) (by rw [hHL]; omega), hgL, by rw [hHL]; show H.next + 1 < H.next + 2; omega⟩
    (fun b hb => hb.elim (fun q => by have := hW0 b q; rw [hHL]; omega) fun q => by rw [hHL, q]; show H.next + 1 < H.next + 2; omega)
    (fun i W H1 H2 ⟨V, v1, v2, v3, v4, v5, v6, v7, v8⟩ hs hle => ⟨V, v1, v2, v3, v4, v5, loc i V H1 H2 v6 (fun b hb => hs b (v1 b hb)) hle, by rw [hs L v2]; exact v7, Nat.lt_of_lt_of_le v8 hle⟩)
    (fun W H1 H2 ⟨V, e, j, v1, v2, v3, v4, v5, v6, v7, v8, v9, v10⟩ hs hle => ⟨V, e, j, v1, v2, v3, v4, v5, v6, v7, locS e V H1 H2 v8 (fun b hb => hs b (v1 b hb)) hle, by rw [hs L v2]; exact v9, Nat.lt_of_lt_of_le v10 hle⟩)
    (fun i x hx W H1 ⟨V, v1, v2, v3, v4, v5, v6, v7, v8⟩ hb hfrS => by
      have hLn0 : L = H.next + 1 := rfl
      have hfr1 : Fr (fun b => W0 b ∨ O b) H H1 := ⟨Nat.le_trans (by rw [hHL]; omega) hfrS.next, fun b hb hw => by rw [hfrS.keep b (by rw [hHL]; omega) (fun q => q.elim (fun q => q.elim (fun q => hw (.inl q)) fun q => by omega) fun q => hw (.inr q)), hold b hb]⟩
      have hbV : ∀ b, V b → b < H1.next ∧ (W0 b ∨ H.next ≤ b) := fun b q => ⟨(hb b (v1 b q)).1, (hb b (v1 b q)).2.elim (fun r => r.elim .inl fun r => by subst r; exact (v3 q).elim) fun r => .inr (by rw [hHL] at r; omega)⟩
      obtain ⟨tm1, hbp, hw⟩ := hbody L d i x hx (by show H.next ≤ H.next + 1; omega) V H1 v6 hbV hfr1 v3 v8 v7
      obtain ⟨e, H2, hr, bb, rfl, W2, k1, k2, k3, k4⟩ := qx6 (Q := fun e H2 => ∃ bb, e = .ret (.bool bb) ∧ ∃ W2 : Nat → Prop, Fr W H1 H2 ∧ (∀ b, W2 b → b < H2.next ∧ (W b ∨ H1.next ≤ b)) ∧
          (bb = true → ∃ V : Nat → Prop, (∀ b, V b → W2 b) ∧ W2 L ∧ ¬ V L ∧ ¬ W2 d ∧ (∀ b, W2 b → V b ∨ b = L) ∧ P (i + 1) V H2 ∧ H2.get L = some (.loop .ready none f k tm d) ∧ L < H2.next) ∧
          (bb = false → ∃ (V : Nat → Prop) (e : AExit) (j : AJump), (∀ b, V b → W2 b) ∧ W2 L ∧ ¬ V L ∧ ¬ W2 d ∧ (∀ b, W2 b → V b ∨ b = L) ∧ isJump e ∧ endOf e = some j ∧ PS e V H2 ∧ H2.get L = some (.loop .done (some j) f k tm d) ∧ L < H2.next)) v7 hf hk hbp
        (qap hw fun e st1 ⟨he, hgl, hw2⟩ => by
          subst he
          show BIND dirty (beginRound st1.H L) _
          have : beginRound st1.H L = some (st1.H.set L (.loop .busy none f k tm d)) := by unfold beginRound; rw [hgl]
          rw [this]
          refine qap hw2 fun e2 st2 ⟨hd2, hg2, W', w1, w2, w3⟩ => ⟨hd2, ?_⟩
          have hLn : L < st2.H.next := Nat.lt_of_lt_of_le v8 w2.next
          have hd1 : d < H1.next := by have : d = H.next := rfl; have : L = H.next + 1 := rfl; omega
          have fin : ∀ s p, Fr W H1 (st2.H.set L (.loop s p f k tm d)) := fun s p => ⟨w2.next, fun b hb hw => by
            rw [AHeap.get_set, if_neg (by rintro rfl; exact hw v2)]
            exact w2.keep b hb fun q => q.elim (fun q => hw (v1 b q)) fun q => hw (by rw [q]; exact v2)⟩
          have hW'L : ∀ b, (W' b ∧ b ≠ L) → (st2.H.set L (.loop .ready none f k tm d)).get b = st2.H.get b := fun b hb => by rw [AHeap.get_set, if_neg (fun q => hb.2 q.symm)]
          have hnV : ¬ W' L := fun q => by
            rcases (w1 L q).2 with q | q
            · exact v3 q
            · omega
          have hnd : ¬ W' d := fun q => by
            rcases (w1 d q).2 with q | q
            · exact v4 (v1 d q)
            · omega
          have hdL : d ≠ L := by show H.next ≠ H.next + 1; omega
          have bounds : ∀ b, (W' b ∨ b = L) → b < st2.H.next ∧ (W b ∨ H1.next ≤ b) := fun b hb => hb.elim (fun q => ⟨(w1 b q).1, (w1 b q).2.imp (v1 b) id⟩) fun q => by subst q; exact ⟨hLn, .inl v2⟩
          rcases w3 with ⟨rfl, w3⟩ | ⟨hj, w3⟩
          · show BIND dirty (setLoop st2.H L (cond true .ready .done) none) _
            have : setLoop st2.H L .ready none = some (st2.H.set L (.loop .ready none f k tm d)) := by unfold setLoop; rw [hg2]
            rw [cond_true, this]
            refine ⟨true, rfl, fun b => W' b ∨ b = L, fin _ _, bounds, fun _ => ⟨W', fun b hb => .inl hb, .inr rfl, hnV, fun q => q.elim hnd hdL, fun b hb => hb, loc _ _ _ _ w3 (fun b hb => by rw [AHeap.get_set, if_neg (by rintro rfl; exact hnV hb)]) (Nat.le_refl _), ql _ _ _, hLn⟩, fun h => by cases h⟩
          · obtain ⟨j, hj2⟩ : ∃ j, endOf e2 = some j := by cases e2 <;> first | exact hj.elim | exact ⟨_, rfl⟩
            have hnn : qb2 e2 = false := by cases e2 <;> first | exact hj.elim | rfl
            have hmatch : ∀ (A : Prop), (BIND dirty (setLoop st2.H L (cond (qb2 e2) .ready .done) (endOf e2)) fun H => ∃ bb, (AEnd.ret (.bool (qb2 e2)) = .ret (.bool bb)) ∧ ∃ W2 : Nat → Prop, Fr W H1 H ∧ (∀ b, W2 b → b < H.next ∧ (W b ∨ H1.next ≤ b)) ∧
                (bb = true → ∃ V : Nat → Prop, (∀ b, V b → W2 b) ∧ W2 L ∧ ¬ V L ∧ ¬ W2 d ∧ (∀ b, W2 b → V b ∨ b = L) ∧ P (i + 1) V H ∧ H.get L = some (.loop .ready none f k tm d) ∧ L < H.next) ∧
                (bb = false → ∃ (V : Nat → Prop) (e : AExit) (j : AJump), (∀ b, V b → W2 b) ∧ W2 L ∧ ¬ V L ∧ ¬ W2 d ∧ (∀ b, W2 b → V b ∨ b = L) ∧ isJump e ∧ endOf e = some j ∧ PS e V H ∧ H.get L = some (.loop .done (some j) f k tm d) ∧ L < H.next)) := fun _ => by
              have : setLoop st2.H L .done (some j) = some (st2.H.set L (.loop .done (some j) f k tm d)) := by unfold setLoop; rw [hg2]
              rw [hnn, hj2, cond_false, this]
              refine ⟨false, rfl, fun b => W' b ∨ b = L, fin _ _, bounds, fun h => (by cases h), fun _ => ⟨W', e2, j, fun b hb => .inl hb, .inr rfl, hnV, fun q => q.elim hnd hdL, fun b hb => hb, hj, hj2, locS _ _ _ _ w3 (fun b hb => by rw [AHeap.get_set, if_neg (by rintro rfl; exact hnV hb)]) (Nat.le_refl _), ql _ _ _, hLn⟩⟩
            cases e2 with
            | normal => exact hj.elim
            | panic _ => exact hj.elim
            | exit _ => exact hmatch True
            | goto _ => exact hmatch True
            | ret => exact hmatch True)
      exact ⟨bb, H2, W2, hr, k1, k2, k3, k4⟩)
  have hdL : d ≠ L := by show H.next ≠ H.next + 1; omega
  have hdW : ¬ ((W0 d ∨ d = L) ∨ O d) := fun q => q.elim (fun q => q.elim (fun q => by have := hW0 _ q; have : d = H.next := rfl; omega) hdL) fun q => by have := (hN d (.inr q)).1; have : d = H.next := rfl; omega
  have hgd' : H'.get d = some (.deferred (some [])) := by rw [hfr.keep d (by rw [hHL]; show H.next < H.next + 2; omega) hdW]; exact hgd
  have hd' : d < H'.next := Nat.lt_of_lt_of_le (by rw [hHL]; show H.next < H.next + 2; omega) hfr.next
  have hout : ∀ (o : AObj), Fr (fun b => W0 b ∨ O b) H (H'.set L o) := fun o => ⟨Nat.le_trans (by rw [hHL]; omega) hfr.next, fun b hb hw => by
    have : L = H.next + 1 := rfl
    rw [AHeap.get_set, if_neg (by omega), hfr.keep b (by rw [hHL]; omega) (fun q => q.elim (fun q => q.elim (fun q => hw (.inl q)) fun q => by omega) fun q => hw (.inr q)), hold b hb]⟩
  refine ⟨.ret v, H', hc, ?_⟩
  rcases hres with ⟨V, v1, v2, v3, v4, v5, v6, v7, v8⟩ | ⟨V, e, j, v1, v2, v3, v4, v5, v6, v7, v8, v9, v10⟩
  · refine ⟨.ready, none, f, k, tm, d, v7, by simp, ?_⟩
    refine hend d V _ (Nat.le_refl _) hd' (by rw [AHeap.get_set, if_neg (fun q => hdL q.symm)]; exact hgd') (hout _) (fun b hb => ⟨(hW' b (v1 b hb)).1, ?_, fun q => v4 (by rw [← q]; exact v1 b hb)⟩) (loc _ _ _ _ v6 (fun b hb => by rw [AHeap.get_set, if_neg (by rintro rfl; exact v3 hb)]) (Nat.le_refl _))
    rcases (hW' b (v1 b hb)).2 with q | q
    · exact q.imp id fun q => by subst q; exact (v3 hb).elim
    · rw [hHL] at q; exact .inr (by omega)
  · refine ⟨.done, some j, f, k, tm, d, v9, by simp, ?_⟩
    have he : exitOf (some j) = e := by cases e <;> first | exact v6.elim | (injection v7 with v7; subst v7; rfl)
    rw [he]
    refine hstop e d V _ v6 (Nat.le_refl _) hd' (by rw [AHeap.get_set, if_neg (fun q => hdL q.symm)]; exact hgd') (hout _) (fun b hb => ⟨(hW' b (v1 b hb)).1, ?_, fun q => v4 (by rw [← q]; exact v1 b hb)⟩) (locS _ _ _ _ v8 (fun b hb => by rw [AHeap.get_set, if_neg (by rintro rfl; exact v3 hb)]) (Nat.le_refl _))
    rcases (hW' b (v1 b hb)).2 with q | q
    · exact q.imp id fun q => by subst q; exact (v3 hb).elim
    · rw [hHL] at q; exact .inr (by omega)
def bindE : List Nat → List AV → Env → Option Env
  | [], [], E => some E
  | t :: ts, v :: vs, E => bindE ts vs ((t, v) :: E)
  | _, _, _ => none
def AS3 (M : Mac) (ctx : Ctx) (b : Kp × ACode) (L : Nat) (lr lb : AObj) (Q : Post3) : Post3 := fun e E D H => match e with
  | .normal => H.get L = some lr ∧ W M ctx b true Q E D (H.set L lb)
  | _ => False
theorem qrh (M : Mac) (ctx : Ctx) (b : Kp × ACode) (L : Nat) (lr lb : AObj) (Q : Post3) (E : Env) (D : List ADef) (H : AHeap) : AS3 M ctx b L lr lb Q .normal E D H = (H.get L = some lr ∧ W M ctx b true Q E D (H.set L lb)) := propext Iff.rfl
def BD3 (P : (Nat → Prop) → AHeap → Prop) (PS : AExit → (Nat → Prop) → AHeap → Prop) (L : Nat) (lb : AObj) (W : Nat → Prop) (H1 : AHeap) : Post3 := fun e _ D H => D = [] ∧ H.get L = some lb ∧
  ∃ W' : Nat → Prop, (∀ b, W' b → b < H.next ∧ (W b ∨ H1.next ≤ b)) ∧ Fr (fun b => W b ∨ b = L) H1 H ∧ (e = .normal ∧ P W' H ∨ isJump e ∧ PS e W' H)
theorem ESub.cons {ks : List Nat} {E : Env} {tm : T AV} (h : ESub ks E tm) {t : Nat} (v : AV) (ht : memN t ks = true) : ESub ks ((t, v) :: E) (tm.set t v) := fun u x hu => by
  rw [qax] at hu
  split at hu
  · rename_i e; subst e; injection hu with hu; subst hu
    exact ⟨by rw [T.get_set, if_pos rfl], ht⟩
  · rename_i e
    obtain ⟨h1, h2⟩ := h u x hu
    exact ⟨by rw [T.get_set, if_neg e, h1], h2⟩
theorem qyx {ks : List Nat} : ∀ {ts : List Nat} {vs : List AV} {E E1 : Env} {tm : T AV}, ESub ks E tm → (∀ t ∈ ts, memN t ks = true) → bindE ts vs E = some E1 → ∃ tm1, qdy tm ts vs = some tm1 ∧ ESub ks E1 tm1
  | [], [], E, E1, tm, h, ht, hb => by injection hb with hb; subst hb; exact ⟨tm, rfl, h⟩
  | [], _ :: _, _, _, _, _, _, hb => nomatch hb
  | _ :: _, [], _, _, _, _, _, hb => nomatch hb
  | t :: ts, v :: vs, E, E1, tm, h, ht, hb => qyx (ts := ts) (vs := vs) (h.cons v (ht t (List.mem_cons_self ..))) (fun u hu => ht u (List.mem_cons_of_mem _ hu)) hb
theorem RNG3.iter {f : Nat} {fn : AFunc} {k : Nat} {lp : ALoop} (hf : AP.func f = some fn) (hk : nth fn.loops k = some lp) {ks : List Nat} {ts : List Nat} (hp : lp.params = ts) (hts : ∀ t ∈ ts, memN t ks = true) {pa pb : Kp × ACode} (ha : pa.1.keep = ks ∧ pa.2 = lp.assign) (hb : pb.1.keep = ks ∧ pb.2 = lp.body)
    {E : Env} {D : List ADef} {H : AHeap} {Q : Post3} {g : Nat} {pre cap : List AV} {N O : Nat → Prop} {H0 : AHeap} {xs : List (List AV)} (hit : ITERO AP g pre cap N O H0 xs)
    (P : Nat → (Nat → Prop) → AHeap → Prop) (PS : AExit → (Nat → Prop) → AHeap → Prop) (W0 : Nat → Prop)
    (hn : H0.next ≤ H.next) (hN : ∀ b, N b ∨ O b → b < H0.next ∧ H.get b = H0.get b ∧ ¬ W0 b) (hW0 : ∀ b, W0 b → b < H.next) (h0 : P 0 W0 H)
    (loc : ∀ i W H H', P i W H → (∀ b, W b → H'.get b = H.get b) → H.next ≤ H'.next → P i W H') (locS : ∀ e W H H', PS e W H → (∀ b, W b → H'.get b = H.get b) → H.next ≤ H'.next → PS e W H')
    (hbody : ∀ (L i : Nat) (lr lb : AObj) x, xs[i]? = some x → H.next ≤ L → ∀ W' H1, P i W' H1 → (∀ b, W' b → b < H1.next ∧ (W0 b ∨ H.next ≤ b)) → Fr (fun b => W0 b ∨ O b) H H1 → ¬ W' L → L < H1.next → H1.get L = some lr →
      ∃ E1, bindE ts x E = some E1 ∧ W AP ⟨some L, f⟩ pa true (AS3 AP ⟨some L, f⟩ pb L lr lb (BD3 (P (i + 1)) PS L lb W' H1)) E1 [] H1)
    (hend : ∀ d W' H', H.next ≤ d → d < H'.next → H'.get d = some (.deferred (some [])) → Fr (fun b => W0 b ∨ O b) H H' → (∀ b, W' b → b < H'.next ∧ (W0 b ∨ H.next ≤ b) ∧ b ≠ d) → P xs.length W' H' → Q .normal E (.coll d :: D) H')
    (hstop : ∀ e d W' H', isJump e → H.next ≤ d → d < H'.next → H'.get d = some (.deferred (some [])) → Fr (fun b => W0 b ∨ O b) H H' → (∀ b, W' b → b < H'.next ∧ (W0 b ∨ H.next ≤ b) ∧ b ≠ d) → PS e W' H' → Q e E (.coll d :: D) H') :
    RNG3 AP ks ⟨none, f⟩ k E D H Q (.fn (.func g) pre cap) := by
  intro tm up he
  refine q2b hf hk hit P PS W0 hn hN hW0 h0 loc locS ?_ (fun d W' H' h1 h2 h3 h4 h5 h6 => ⟨rfl, rfl, hend d W' H' h1 h2 h3 h4 h5 h6⟩) (fun e d W' H' h0 h1 h2 h3 h4 h5 h6 => ⟨rfl, rfl, hstop e d W' H' h0 h1 h2 h3 h4 h5 h6⟩)
  intro L d i x hx hL W' H1 hP hW hfr hnL hLn hgL
  obtain ⟨E1, hE1, hw⟩ := hbody L i (.loop .ready none f k tm d) (.loop .busy none f k tm d) x hx hL W' H1 hP hW hfr hnL hLn hgL
  obtain ⟨tm1, hb1, he1⟩ := qyx he hts hE1
  refine ⟨tm1, by rw [hp]; exact hb1, ?_⟩
  rw [W_def] at hw
  have := W3.wp _ _ (Nat.le_refl _) (up := none) hw (by rw [ha.1]; exact he1)
  rw [ha.2] at this
  refine qap this fun e st1 ⟨hup, E', hE', hq⟩ => ?_
  cases e with
  | normal =>
    obtain ⟨hg, hw2⟩ := hq
    refine ⟨rfl, hg, ?_⟩
    rw [W_def] at hw2
    have := W3.wp _ _ (Nat.le_refl _) (up := none) hw2 (show ESub pb.1.keep E' st1.tm by rw [hb.1, ← ha.1]; exact hE')
    rw [hb.2] at this
    rw [hup]
    refine qap this fun e2 st2 ⟨hup2, E2, hE2, hd, hg2, W2, k1, k2, k3⟩ => ⟨hd, hg2, W2, k1, k2, k3⟩
  | _ => exact hq.elim
theorem qv4 (rs : List ARes) (Q : AEnd → AHeap → Prop) (E : Env) (d : Nat) (H : AHeap) : FIN3 AP rs Q .ret E [.coll d] H = (H.get d = some (.deferred (some [])) ∧ RES3 E (H.set d (.deferred none)) rs fun l => Q (.ret (tupled l)) (H.set d (.deferred none))) := propext Iff.rfl
end
end Go.Am
