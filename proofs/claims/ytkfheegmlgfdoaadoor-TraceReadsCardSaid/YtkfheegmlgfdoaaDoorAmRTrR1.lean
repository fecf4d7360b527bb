/- TrR1: NmA NmB StA TwA TwB. -/
import Derived.Test.YtkfheegmlgfdoaaDoorAmRCodeR
import Derived.Test.YtkfheegmlgfdoaaDoorAmRTrR0
set_option linter.unusedVariables false
set_option linter.unusedSimpArgs false
set_option maxRecDepth 100000
set_option linter.unusedSectionVars false
namespace Go.Am
open Lang (dec)
variable {M : Mac} [MK M]
abbrev Smalls : List UInt8 := zu
theorem sm0 {k : IntKind} {i : Nat} (h : i < 100) : Op.indexStr [.str zu, .int k ((i * 2 : Nat) : Int)] = some (.int .u8 ((48 + i / 10 : Nat) : Int)) := by
  have key : ∀ i : Fin 100, zu[i.1 * 2]? = some (UInt8.ofNat (48 + i.1 / 10)) := by decide +kernel
  rw [vv rfl (key ⟨i, h⟩), Tr.ofNat_lt (by dsimp; omega)]
theorem sm1 {k : IntKind} {i : Nat} (h : i < 100) : Op.indexStr [.str zu, .int k ((i * 2 + 1 : Nat) : Int)] = some (.int .u8 ((48 + i % 10 : Nat) : Int)) := by
  have key : ∀ i : Fin 100, zu[i.1 * 2 + 1]? = some (UInt8.ofNat (48 + i.1 % 10)) := by decide +kernel
  rw [vv rfl (key ⟨i, h⟩), Tr.ofNat_lt (by dsimp; omega)]
theorem st1 {H : AHeap} {b e : Nat} {c : List AV} {p : Nat} {k : IntKind} {v : Int} (h : p < c.length) : Op.store 1 [.ptr b p, .int k v] (H.set b (OR c e)) = some (.undef, H.set b (OR (c.set p (.int k v)) e)) := by
  rw [qbl (o := p) (n := 1) (v := .int k v) (ql ..) rfl (by omega) rfl, qpc]
  congr 3
  rw [List.set_eq_take_append_cons_drop, if_pos h]
  simp [AV.cells]
theorem st0 {H : AHeap} {b e : Nat} {c : List AV} {p : Nat} {k : IntKind} {v : Int} (hg : H.get b = some (OR c e)) (h : p < c.length) : Op.store 1 [.ptr b p, .int k v] H = some (.undef, H.set b (OR (c.set p (.int k v)) e)) := by
  rw [qbl (o := p) (n := 1) (v := .int k v) hg rfl (by omega) rfl]
  congr 3
  rw [List.set_eq_take_append_cons_drop, if_pos h]
  simp [AV.cells]
theorem ix {b o n c i : Nat} {k : IntKind} (h : i < n) : Op.indexSl 1 [.slice b o n c, .int k (i : Int)] = some (.ptr b (o + i)) := by
  have h1 := qdr h
  simp [Op.indexSl, lenV, qfh (z := (i : Int)) rfl h, elemAt, h1]
def Dg (c : List AV) (o k d n : Nat) : Prop := c.length = 24 ∧ ∀ j, k ≤ j → j ≤ d → c[o + j]? = some (.int .u8 ((dig n (d - j) : Nat) : Int))
theorem Dg.step {c : List AV} {o k d n v : Nat} (h : Dg c o (k + 1) d n) (hv : v = dig n (d - k)) (ho : o + k < 24) : Dg (c.set (o + k) (.int .u8 (v : Int))) o k d n := by
  refine ⟨by rw [List.length_set]; exact h.1, fun j h1 h2 => ?_⟩
  have hl := h.1
  rw [List.getElem?_set]
  by_cases e : k = j
  · subst e; rw [if_pos rfl, if_pos (by omega), hv]
  · rw [if_neg (by omega), h.2 j (by omega) h2]
theorem Dg.steps {c : List AV} {o k d n v : Nat} (h : Dg c o (k + 1) d n) (hv : v = dig n (d - k)) (ho : o + k < 24) {i : Nat} (hi : i = o + k) : Dg (c.set i (.int .u8 (v : Int))) o k d n := by subst hi; exact h.step hv ho
structure Tl (H0 H : AHeap) (b o d e : Nat) (n r u : Nat) (c : List AV) : Prop where
  fu : u = n / 10 ^ (d + 1 - r)
  lt : u < 10 ^ r
  le : r ≤ d + 1
  od : o + d + 1 ≤ 24
  get : H.get b = some (OR c e)
  st : ∀ c2, H.set b (OR c2 e) = H0.set b (OR c2 e)
  dg : Dg c o r d n
def TlQ (H0 : AHeap) (b o d e n : Nat) (v : AV) (H' : AHeap) : Prop := ∃ c', H' = H0.set b (OR c' e) ∧ Dg c' o 0 d n
theorem Tl.dig {H0 H : AHeap} {b o d e n r u : Nat} {c : List AV} (h : Tl H0 H b o d e n r u c) (i : Nat) : Am.dig n (d + 1 - r + i) = 48 + u / 10 ^ i % 10 := by rw [← q2a, ← h.fu]; rfl
theorem Tl.next {H0 H : AHeap} {b o d e n r u k : Nat} {c c2 : List AV} (h : Tl H0 H b o d e n r u c) (hk : k ≤ r) (hd : Dg c2 o (r - k) d n) : Tl H0 (H0.set b (OR c2 e)) b o d e n (r - k) (u / 10 ^ k) c2 := by
  obtain ⟨h1, h2, h3, h4, h5, h6, h7⟩ := h
  refine ⟨?_, ?_, by omega, h4, ql .., fun c2 => qpc .., hd⟩
  · rw [h1, show d + 1 - (r - k) = d + 1 - r + k by omega, Nat.pow_add, Nat.div_div_eq_div_mul]
  · have e1 : 10 ^ r = 10 ^ (r - k) * 10 ^ k := by rw [← Nat.pow_add]; congr 1; omega
    rw [e1] at h2; exact Nat.div_lt_of_lt_mul (by rw [Nat.mul_comm]; exact h2)
theorem tail1 {H0 H : AHeap} {b o d cp e n r u : Nat} {c : List AV} {E : Env} {ctx : Ctx} (h : Tl H0 H b o d e n r u c) (hH : r = 0 → ∃ c', H = H0.set b (OR c' e) ∧ c' = c) (hr : r < 2) (e0 : lk E 0 = some (.slice b o (d + 1) cp)) (e4 : lk E 4 = some (.int .i64 (r : Nat))) (e12 : lk E 12 = some (.int .u32 (u : Nat))) :
    W M ctx (qc 61) true (FIN3 M [] (RT3 (TlQ H0 b o d e n))) E [] H := by
  have hcl := h.dg.1
  have hod := h.od
  by_cases h1 : r = 0
  · subst h1
    obtain ⟨c', rfl, rfl⟩ := hH rfl
    have e5 : ¬ (0 : Int) < ((0 : Nat) : Int) := by omega
    simp (disch := first | omega | (simp only [List.length_set]; omega)) only [↓JN_eq, CTL3, OPS3, cast0, reduceIte, Nat.reduceEqDiff, xf, e4, e5]
    exact ⟨_, rfl, h.dg⟩
  · have hr1 : r = 1 := by omega
    subst hr1
    have e5 : (0 : Int) < ((1 : Nat) : Int) := by omega
    have hu : u < 10 := by simpa using h.lt
    have i0 := ix (b := b) (o := o) (n := d + 1) (c := cp) (i := 0) (k := .i64) (by omega)
    rw [show ((0 : Nat) : Int) = 0 from rfl] at i0
    simp (disch := first | omega | (simp only [List.length_set]; omega)) only [↓JN_eq, CTL3, OPS3, cast0, reduceIte, Nat.reduceEqDiff, xf, e4, e5, e0, e12, w_48, w_u8, i0, st0 h.get, h.st]
    have g0 := h.dig 0
    exact ⟨_, rfl, h.dg.steps (v := 48 + u) (by rw [show d - 0 = d + 1 - 1 + 0 by omega, g0]; simp; omega) (by omega) rfl⟩
theorem tail2 {H0 H : AHeap} {b o d cp e n r u : Nat} {c : List AV} {E : Env} {ctx : Ctx} (h : Tl H0 H b o d e n r u c) (hH : r = 0 → ∃ c', H = H0.set b (OR c' e) ∧ c' = c) (hr : r < 4) (e0 : lk E 0 = some (.slice b o (d + 1) cp)) (e4 : lk E 4 = some (.int .i64 (r : Nat))) (e12 : lk E 12 = some (.int .u32 (u : Nat))) :
    W M ctx (qc 49) true (FIN3 M [] (RT3 (TlQ H0 b o d e n))) E [] H := by
  obtain ⟨-, -, -, -, -, -, w49, -, -, -, -, -, -⟩ := xf M ctx
  have hcl := h.dg.1
  have hod := h.od
  have hle := h.le
  by_cases h1 : 2 ≤ r
  · have e5 : (2 : Int) ≤ (r : Int) := by omega
    have hu : u < 10000 := Nat.lt_of_lt_of_le h.lt (Nat.pow_le_pow_right (by decide) (show r ≤ 4 by omega))
    have g0 := h.dig 0
    have g1 := h.dig 1
    simp only [Nat.reducePow] at g0 g1
    have s1 := (show Dg c o (r - 1 + 1) d n by rw [show r - 1 + 1 = r by omega]; exact h.dg).steps (v := 48 + u % 100 % 10) (by rw [show d - (r - 1) = d + 1 - r + 0 by omega, g0]; omega) (by omega) (i := o + (r - 1)) rfl
    have s2 := (show Dg _ o (r - 2 + 1) d n by rw [show r - 2 + 1 = r - 1 by omega]; exact s1).steps (v := 48 + u % 100 / 10) (by rw [show d - (r - 2) = d + 1 - r + 1 by omega, g1]; omega) (by omega) (i := o + (r - 2)) rfl
    simp (disch := first | omega | (simp only [List.length_set]; omega)) only [↓JN_eq, CTL3, OPS3, cast0, reduceIte, Nat.reduceEqDiff, w49, e4, e5, e0, e12, n_rem, qx7, qxk, qx8, qxj, w_u32, Int.reduceToNat, sm0, sm1, ix, st0 h.get, h.st, st1]
    exact tail1 (cp := cp) (h.next h1 s2) (fun _ => ⟨_, rfl, rfl⟩) (by omega) (by simp only [↓JN_eq, CTL3, OPS3, cast0, reduceIte, Nat.reduceEqDiff, e0]) (by simp only [↓JN_eq, CTL3, OPS3, cast0, reduceIte, Nat.reduceEqDiff]) (by simp only [↓JN_eq, CTL3, OPS3, cast0, reduceIte, Nat.reduceEqDiff])
  · have e5 : ¬ (2 : Int) ≤ (r : Int) := by omega
    simp (disch := first | omega | (simp only [List.length_set]; omega)) only [↓JN_eq, CTL3, OPS3, cast0, reduceIte, Nat.reduceEqDiff, w49, e4, e5]
    exact tail1 h hH (by omega) e0 e4 e12
theorem tail4 {H0 H : AHeap} {b o d cp e n r u : Nat} {c : List AV} {E : Env} {ctx : Ctx} (h : Tl H0 H b o d e n r u c) (hH : r = 0 → ∃ c', H = H0.set b (OR c' e) ∧ c' = c) (hr : r < 8) (e0 : lk E 0 = some (.slice b o (d + 1) cp)) (e4 : lk E 4 = some (.int .i64 (r : Nat))) (e12 : lk E 12 = some (.int .u32 (u : Nat))) :
    W M ctx (qc 33) true (FIN3 M [] (RT3 (TlQ H0 b o d e n))) E [] H := by
  obtain ⟨-, -, -, -, w33, -, -, w39, -, -, w43, -, -⟩ := xf M ctx
  have hcl := h.dg.1
  have hod := h.od
  have hle := h.le
  by_cases h1 : 4 ≤ r
  · have e5 : (4 : Int) ≤ (r : Int) := by omega
    have hu : u < 100000000 := Nat.lt_of_lt_of_le h.lt (Nat.pow_le_pow_right (by decide) (show r ≤ 8 by omega))
    have g0 := h.dig 0
    have g1 := h.dig 1
    have g2 := h.dig 2
    have g3 := h.dig 3
    simp only [Nat.reducePow] at g0 g1 g2 g3
    have s1 := (show Dg c o (r - 1 + 1) d n by rw [show r - 1 + 1 = r by omega]; exact h.dg).steps (v := 48 + u % 10000 % 100 % 10) (by rw [show d - (r - 1) = d + 1 - r + 0 by omega, g0]; omega) (by omega) (i := o + (r - 1)) rfl
    have s2 := (show Dg _ o (r - 2 + 1) d n by rw [show r - 2 + 1 = r - 1 by omega]; exact s1).steps (v := 48 + u % 10000 % 100 / 10) (by rw [show d - (r - 2) = d + 1 - r + 1 by omega, g1]; omega) (by omega) (i := o + (r - 2)) rfl
    have s3 := (show Dg _ o (r - 3 + 1) d n by rw [show r - 3 + 1 = r - 2 by omega]; exact s2).steps (v := 48 + u % 10000 / 100 % 10) (by rw [show d - (r - 3) = d + 1 - r + 2 by omega, g2]; omega) (by omega) (i := o + (r - 3)) rfl
    have s4 := (show Dg _ o (r - 4 + 1) d n by rw [show r - 4 + 1 = r - 3 by omega]; exact s3).steps (v := 48 + u % 10000 / 100 / 10) (by rw [show d - (r - 4) = d + 1 - r + 3 by omega, g3]; omega) (by omega) (i := o + (r - 4)) rfl
    simp (disch := first | omega | (simp only [List.length_set]; omega)) only [↓JN_eq, CTL3, OPS3, cast0, reduceIte, Nat.reduceEqDiff, w33, w39, w43, e4, e5, e0, e12, n_rem, qx7, qxk, qx8, qxj, w_u32, Int.reduceToNat, sm0, sm1, ix, st0 h.get, h.st, st1]
    exact tail2 (cp := cp) (h.next h1 s4) (fun _ => ⟨_, rfl, rfl⟩) (by omega) (by simp only [↓JN_eq, CTL3, OPS3, cast0, reduceIte, Nat.reduceEqDiff, e0]) (by simp only [↓JN_eq, CTL3, OPS3, cast0, reduceIte, Nat.reduceEqDiff]) (by simp only [↓JN_eq, CTL3, OPS3, cast0, reduceIte, Nat.reduceEqDiff])
  · have e5 : ¬ (4 : Int) ≤ (r : Int) := by omega
    simp (disch := first | omega | (simp only [List.length_set]; omega)) only [↓JN_eq, CTL3, OPS3, cast0, reduceIte, Nat.reduceEqDiff, w33, w39, w43, e4, e5]
    exact tail2 h hH (by omega) e0 e4 e12
theorem qxo {H : AHeap} {b o d cp e : Nat} {c : List AV} {n : Nat} (hg : H.get b = some (OR c e)) (hc : c.length = 24) (ho : o + d + 1 ≤ 24) (hn : n < 10 ^ (d + 1)) (hn64 : n < 18446744073709551616) :
    CALLQ M xg [.slice b o (d + 1) cp, .int .u64 (n : Int)] H (TlQ H b o d e n) := by
  refine qbu ?_
  have l1 : Op.lenSl [.slice b o (d + 1) cp] = some (.int .i64 ((d + 1 : Nat) : Int)) := rfl
  simp only [↓JN_eq, CTL3, OPS3, cast0, reduceIte, Nat.reduceEqDiff, xf, l1]
  refine LOOP3.intro (fun r E H' => ∃ k u c', E = [(0, .slice b o (d + 1) cp), (1, .int .u64 (u : Nat)), (4, .int .i64 (k : Nat))] ∧ r = k ∧ k ≤ d + 1 ∧ u = n / 10 ^ (d + 1 - k) ∧ u < 10 ^ k ∧ (H' = H ∧ k = d + 1 ∧ c' = c ∨ H' = H.set b (OR c' e)) ∧ Dg c' o k d n) ?_ ?_
  · exact ⟨_, _, ⟨d + 1, n, c, rfl, rfl, by omega, by simp, hn, .inl ⟨rfl, rfl, rfl⟩, hc, fun j h1 h2 => by omega⟩, by simp only [↓JN_eq, CTL3, OPS3, cast0, reduceIte, Nat.reduceEqDiff]⟩
  rintro r E H' ⟨k, u, c', rfl, rfl, hk, hu, hul, hH, hd⟩
  have hu64 : u < 18446744073709551616 := by rw [hu]; exact Nat.lt_of_le_of_lt (Nat.div_le_self ..) hn64
  have hg' : H'.get b = some (OR c' e) := by
    rcases hH with ⟨rfl, _, rfl⟩ | rfl
    · exact hg
    · exact ql ..
  have hset : ∀ c2, H'.set b (OR c2 e) = H.set b (OR c2 e) := fun c2 => by
    rcases hH with ⟨rfl, _, _⟩ | rfl
    · rfl
    · rw [qpc]
  have hcl := hd.1
  simp only [↓JN_eq, CTL3, OPS3, cast0, reduceIte, Nat.reduceEqDiff, xf]
  refine IF3.dec (fun hge => ?_) (fun hlt => ?_)
  · have hge : 8 ≤ r := by omega
    simp (disch := first | omega | (simp only [List.length_set]; omega)) only [↓JN_eq, CTL3, OPS3, cast0, reduceIte, Nat.reduceEqDiff, xf, n_rem, q1n, qx7, qxk, qx8, qxj, w_u32, Int.reduceToNat, sm0, sm1, ix, st0 hg', hset, st1, List.length_set, hcl]
    have hk8 : r = (r - 8) + 8 := by omega
    refine ⟨_, _, ⟨r - 8, u / 100000000, _, rfl, rfl, by omega, ?_, ?_, .inr rfl, ?_⟩, by simp only [↓JN_eq, CTL3, OPS3, cast0, reduceIte, Nat.reduceEqDiff], by omega⟩
    · have e8 : d + 1 - (r - 8) = (d + 1 - r) + 8 := by omega
      rw [hu, e8, Nat.pow_add, Nat.div_div_eq_div_mul]
    · have : 10 ^ r = 10 ^ (r - 8) * 100000000 := by conv => lhs; rw [hk8, Nat.pow_add]
      rw [this] at hul; exact Nat.div_lt_of_lt_mul (by rw [Nat.mul_comm]; exact hul)
    · have hdg : ∀ i, dig n (d + 1 - r + i) = 48 + u / 10 ^ i % 10 := fun i => by rw [← q2a, ← hu]; rfl
      have g0 := hdg 0
      have g1 := hdg 1
      have g2 := hdg 2
      have g3 := hdg 3
      have g4 := hdg 4
      have g5 := hdg 5
      have g6 := hdg 6
      have g7 := hdg 7
      simp only [Nat.reducePow] at g0 g1 g2 g3 g4 g5 g6 g7
      have s1 := (show Dg c' o (r - 1 + 1) d n by rw [show r - 1 + 1 = r by omega]; exact hd).steps (v := 48 + u % 100000000 % 10000 % 100 % 10) (by rw [show d - (r - 1) = d + 1 - r + 0 by omega, g0]; omega) (by omega) (i := o + (r - 1)) rfl
      have s2 := (show Dg _ o (r - 2 + 1) d n by rw [show r - 2 + 1 = r - 1 by omega]; exact s1).steps (v := 48 + u % 100000000 % 10000 % 100 / 10) (by rw [show d - (r - 2) = d + 1 - r + 1 by omega, g1]; omega) (by omega) (i := o + (r - 2)) rfl
      have s3 := (show Dg _ o (r - 3 + 1) d n by rw [show r - 3 + 1 = r - 2 by omega]; exact s2).steps (v := 48 + u % 100000000 % 10000 / 100 % 10) (by rw [show d - (r - 3) = d + 1 - r + 2 by omega, g2]; omega) (by omega) (i := o + (r - 3)) rfl
      have s4 := (show Dg _ o (r - 4 + 1) d n by rw [show r - 4 + 1 = r - 3 by omega]; exact s3).steps (v := 48 + u % 100000000 % 10000 / 100 / 10) (by rw [show d - (r - 4) = d + 1 - r + 3 by omega, g3]; omega) (by omega) (i := o + (r - 4)) rfl
      have s5 := (show Dg _ o (r - 5 + 1) d n by rw [show r - 5 + 1 = r - 4 by omega]; exact s4).steps (v := 48 + u % 100000000 / 10000 % 100 % 10) (by rw [show d - (r - 5) = d + 1 - r + 4 by omega, g4]; omega) (by omega) (i := o + (r - 5)) rfl
      have s6 := (show Dg _ o (r - 6 + 1) d n by rw [show r - 6 + 1 = r - 5 by omega]; exact s5).steps (v := 48 + u % 100000000 / 10000 % 100 / 10) (by rw [show d - (r - 6) = d + 1 - r + 5 by omega, g5]; omega) (by omega) (i := o + (r - 6)) rfl
      have s7 := (show Dg _ o (r - 7 + 1) d n by rw [show r - 7 + 1 = r - 6 by omega]; exact s6).steps (v := 48 + u % 100000000 / 10000 / 100 % 10) (by rw [show d - (r - 7) = d + 1 - r + 6 by omega, g6]; omega) (by omega) (i := o + (r - 7)) rfl
      have s8 := (show Dg _ o (r - 8 + 1) d n by rw [show r - 8 + 1 = r - 7 by omega]; exact s7).steps (v := 48 + u % 100000000 / 10000 / 100 / 10) (by rw [show d - (r - 8) = d + 1 - r + 7 by omega, g7]; omega) (by omega) (i := o + (r - 8)) rfl
      exact s8
  · have hlt : r < 8 := by omega
    have hu7 : u < 100000000 := Nat.lt_of_lt_of_le hul (Nat.pow_le_pow_right (by decide) (show r ≤ 8 by omega))
    obtain ⟨-, -, w31, -, -, -, -, -, -, -, -, -, -⟩ := xf M ⟨none, xg⟩
    simp only [↓JN_eq, CTL3, OPS3, cast0, reduceIte, Nat.reduceEqDiff, w31, w_u32 (show u < 4294967296 by omega)]
    refine tail4 (cp := cp) ⟨hu, hul, hk, ho, hg', hset, hd⟩ (fun h0 => ?_) hlt (by simp only [↓JN_eq, CTL3, OPS3, cast0, reduceIte, Nat.reduceEqDiff]) (by simp only [↓JN_eq, CTL3, OPS3, cast0, reduceIte, Nat.reduceEqDiff]) (by simp only [↓JN_eq, CTL3, OPS3, cast0, reduceIte, Nat.reduceEqDiff])
    rcases hH with ⟨_, h1, _⟩ | h1
    · omega
    · exact ⟨c', h1, rfl⟩
end Go.Am
namespace Go.Am
open Lang (dec)
variable {M : Mac} [MK M]
def l8 (x : Nat) : Nat := (qju.getD x 0).toNat
theorem l8_ok : ∀ x : Fin 256, qju[x.1]? = some (UInt8.ofNat (l8 x.1)) ∧ l8 x.1 ≤ 8 ∧ (1 ≤ x.1 → 1 ≤ l8 x.1 ∧ 2 ^ (l8 x.1 - 1) ≤ x.1) ∧ x.1 < 2 ^ l8 x.1 := by decide +kernel
theorem l8_ix {k : IntKind} {x : Nat} (h : x < 256) : Op.indexStr [.str qju, .int k (x : Int)] = some (.int .u8 ((l8 x : Nat) : Int)) := by
  obtain ⟨h1, h2, _⟩ := l8_ok ⟨x, h⟩
  rw [vv rfl h1, Tr.ofNat_lt (by dsimp at h2 ⊢; omega)]
def LenQ (n : Nat) (v : AV) : Prop := ∃ L : Nat, v = .int .i64 (L : Nat) ∧ 1 ≤ L ∧ L ≤ 64 ∧ 2 ^ (L - 1) ≤ n ∧ n < 2 ^ L
theorem len_end {base m n : Nat} (h0 : base ≤ 56) (h1 : n / 2 ^ base = m) (h2 : 1 ≤ m) (h3 : m < 256) : LenQ n (.int .i64 ((base : Int) + ((l8 m : Nat) : Int))) := by
  obtain ⟨q1, q2, q3, q4⟩ := l8_ok ⟨m, h3⟩
  obtain ⟨q3, q5⟩ := q3 h2
  dsimp at q2 q3 q4 q5
  refine ⟨base + l8 m, by rw [Int.natCast_add], by omega, by omega, ?_, ?_⟩
  · rw [show base + l8 m - 1 = (l8 m - 1) + base by omega, Nat.pow_add]
    rw [← h1] at q5 ⊢
    exact Nat.le_trans (Nat.mul_le_mul_right _ q5) (Nat.div_mul_le_self ..)
  · rw [Nat.add_comm, Nat.pow_add]
    exact (Nat.div_lt_iff_lt_mul (Nat.pow_pos (by decide))).1 (by rw [h1]; exact q4)
theorem shr32 (a : Nat) : Op.bin .shr [.int .u64 (a : Int), .int .u64 32] = some (.int .u64 ((a / 4294967296 : Nat) : Int)) := n_shr (k := .u64) (k' := .u64) (n := 32) (by decide)
theorem shr16 (a : Nat) : Op.bin .shr [.int .u64 (a : Int), .int .u64 16] = some (.int .u64 ((a / 65536 : Nat) : Int)) := n_shr (k := .u64) (k' := .u64) (n := 16) (by decide)
theorem shr8 (a : Nat) : Op.bin .shr [.int .u64 (a : Int), .int .u64 8] = some (.int .u64 ((a / 256 : Nat) : Int)) := n_shr (k := .u64) (k' := .u64) (n := 8) (by decide)
theorem shr18 (a : Nat) : Op.bin .shr [.int .i64 (a : Int), .int .u64 18] = some (.int .i64 ((a / 262144 : Nat) : Int)) := n_shr (k := .i64) (k' := .u64) (n := 18) (by decide)
theorem q1c {E : Env} {ctx : Ctx} {base m n : Nat} {H : AHeap} {Q : AV → AHeap → Prop} (h0 : base ≤ 56) (h1 : n / 2 ^ base = m) (h2 : 1 ≤ m) (h3 : m < 256) (e2 : lk E 2 = some (.int .i64 (base : Nat))) (e0 : lk E 0 = some (.int .u64 (m : Nat))) (hq : ∀ v, LenQ n v → Q v H) :
    W M ctx (xj 26) true (FIN3 M [.tmp 2] (RT3 Q)) E [] H := by
  have hl := (l8_ok ⟨m, h3⟩).2.1
  dsimp at hl
  simp (disch := first | omega | (simp only [List.length_set]; omega)) only [↓JN_eq, CTL3, OPS3, cast0, reduceIte, Nat.reduceEqDiff, qak, e2, e0, w_u8, l8_ix, w_i64]
  have e : wrapI .i64 ((base : Int) + ((l8 m : Nat) : Int)) = (base : Int) + ((l8 m : Nat) : Int) := xc (by omega) (by omega)
  rw [e]; exact hq _ (len_end h0 h1 h2 h3)
theorem q1z {E : Env} {ctx : Ctx} {base m n : Nat} {H : AHeap} {Q : AV → AHeap → Prop} (h0 : base ≤ 48) (h1 : n / 2 ^ base = m) (h2 : 1 ≤ m) (h3 : m < 65536) (e2 : lk E 2 = some (.int .i64 (base : Nat))) (e0 : lk E 0 = some (.int .u64 (m : Nat))) (hq : ∀ v, LenQ n v → Q v H) :
    W M ctx (xj 18) true (FIN3 M [.tmp 2] (RT3 Q)) E [] H := by
  obtain ⟨-, -, -, w18, -⟩ := qak M ctx
  have e8 : wrapI .i64 ((base : Int) + 8) = ((base + 8 : Nat) : Int) := by rw [xc (by omega) (by omega)]; omega
  by_cases h : 256 ≤ m
  · have e5 : (256 : Int) ≤ (m : Int) := by omega
    simp only [↓JN_eq, CTL3, OPS3, cast0, reduceIte, Nat.reduceEqDiff, w18, e0, e2, e5, shr8, e8]
    exact q1c (n := n) (base := base + 8) (m := m / 256) (by omega) (by rw [Nat.pow_add, ← Nat.div_div_eq_div_mul, h1]) (by omega) (by omega) (by simp only [↓JN_eq, CTL3, OPS3, cast0, reduceIte, Nat.reduceEqDiff]) (by simp only [↓JN_eq, CTL3, OPS3, cast0, reduceIte, Nat.reduceEqDiff]) hq
  · have e5 : ¬ (256 : Int) ≤ (m : Int) := by omega
    simp only [↓JN_eq, CTL3, OPS3, cast0, reduceIte, Nat.reduceEqDiff, w18, e0, e2, e5]
    exact q1c (n := n) (by omega) h1 h2 (by omega) e2 e0 hq
theorem q2f {E : Env} {ctx : Ctx} {base m n : Nat} {H : AHeap} {Q : AV → AHeap → Prop} (h0 : base ≤ 32) (h1 : n / 2 ^ base = m) (h2 : 1 ≤ m) (h3 : m < 4294967296) (e2 : lk E 2 = some (.int .i64 (base : Nat))) (e0 : lk E 0 = some (.int .u64 (m : Nat))) (hq : ∀ v, LenQ n v → Q v H) :
    W M ctx (xj 10) true (FIN3 M [.tmp 2] (RT3 Q)) E [] H := by
  obtain ⟨-, -, w10, -, -⟩ := qak M ctx
  have e8 : wrapI .i64 ((base : Int) + 16) = ((base + 16 : Nat) : Int) := by rw [xc (by omega) (by omega)]; omega
  by_cases h : 65536 ≤ m
  · have e5 : (65536 : Int) ≤ (m : Int) := by omega
    simp only [↓JN_eq, CTL3, OPS3, cast0, reduceIte, Nat.reduceEqDiff, w10, e0, e2, e5, shr16, e8]
    exact q1z (n := n) (base := base + 16) (m := m / 65536) (by omega) (by rw [Nat.pow_add, ← Nat.div_div_eq_div_mul, h1]) (by omega) (by omega) (by simp only [↓JN_eq, CTL3, OPS3, cast0, reduceIte, Nat.reduceEqDiff]) (by simp only [↓JN_eq, CTL3, OPS3, cast0, reduceIte, Nat.reduceEqDiff]) hq
  · have e5 : ¬ (65536 : Int) ≤ (m : Int) := by omega
    simp only [↓JN_eq, CTL3, OPS3, cast0, reduceIte, Nat.reduceEqDiff, w10, e0, e2, e5]
    exact q1z (n := n) (by omega) h1 h2 (by omega) e2 e0 hq
theorem q0m {H : AHeap} {n : Nat} (h1 : 1 ≤ n) (h2 : n < 18446744073709551616) : CALLQ M ji [.int .u64 (n : Int)] H fun v H' => LenQ n v ∧ H' = H := by
  refine qk8 ?_
  obtain ⟨w0, w2, -, -, -⟩ := qak M ⟨none, ji⟩
  by_cases h : 4294967296 ≤ n
  · have e5 : (4294967296 : Int) ≤ (n : Int) := by omega
    simp only [↓JN_eq, CTL3, OPS3, cast0, reduceIte, Nat.reduceEqDiff, w0, w2, e5, shr32]
    exact q2f (n := n) (base := 32) (m := n / 4294967296) (by omega) rfl (by omega) (by omega) rfl rfl fun v hv => ⟨hv, rfl⟩
  · have e5 : ¬ (4294967296 : Int) ≤ (n : Int) := by omega
    simp only [↓JN_eq, CTL3, OPS3, cast0, reduceIte, Nat.reduceEqDiff, w0, w2, e5]
    exact q2f (n := n) (base := 0) (m := n) (by omega) (by simp) h1 (by omega) rfl rfl fun v hv => ⟨hv, rfl⟩
def qL (L : Nat) : Nat := L * 78913 / 262144
theorem qL_ok : ∀ L : Fin 65, 1 ≤ L.1 → qL L.1 ≤ 19 ∧ 2 ^ L.1 ≤ 10 ^ (qL L.1 + 1) ∧ (1 ≤ qL L.1 → 10 ^ (qL L.1 - 1) ≤ 2 ^ (L.1 - 1)) := by decide +kernel
theorem qzk {H : AHeap} {L : Nat} (h : L ≤ 64) : CALLQ M xr [.int .i64 (L : Int)] H fun v H' => v = .int .i64 ((qL L : Nat) : Int) ∧ H' = H := by
  refine qdf ?_
  have e : wrapI .i64 ((L : Int) * 78913) = ((L * 78913 : Nat) : Int) := by rw [xc (by omega) (by omega)]; omega
  simp only [↓JN_eq, CTL3, OPS3, cast0, reduceIte, Nat.reduceEqDiff, qdv, e, shr18]
  rfl
theorem qq2 {H : AHeap} {q : Bool} : CALLQ M xu [.bool q] H fun v H' => v = .int .i64 ((cond q 1 0 : Nat) : Int) ∧ H' = H := by
  refine qdi ?_
  cases q <;> (simp only [↓JN_eq, CTL3, OPS3, cast0, reduceIte, Nat.reduceEqDiff, qdp]; try rfl)
def PowT (H : AHeap) : Prop := H.cellsAt xx = some ((List.range 20).map fun k : Nat => AV.int .u64 ((10 ^ k : Nat) : Int))
theorem PowT.at {H : AHeap} (h : PowT H) {k : Nat} (hk : k ≤ 19) : Op.indexArr 20 1 [.ptr xx 0, .int .i64 (k : Int)] = some (.ptr xx k) ∧ Op.load1 [.ptr xx k] H = some (.int .u64 ((10 ^ k : Nat) : Int)) := by
  have e : 0 + k * 1 = k := by omega
  refine ⟨by rw [qlj rfl (show k < 20 by omega), e], ?_⟩
  rw [yv h, List.getElem?_map, List.getElem?_range (by omega)]; rfl
theorem qp2 {H : AHeap} {n : Nat} (hp : PowT H) (h1 : 1 ≤ n) (h2 : n < 18446744073709551616) : CALLQ M xv [.int .u64 (n : Int)] H fun v H' => ∃ d : Nat, v = .int .i64 ((d + 1 : Nat) : Int) ∧ H' = H ∧ d ≤ 19 ∧ n < 10 ^ (d + 1) ∧ 10 ^ d ≤ n := by
  refine qda ?_
  simp only [↓JN_eq, CTL3, OPS3, cast0, reduceIte, Nat.reduceEqDiff, zi]
  refine C3.q (q0m (M := M) h1 h2) fun v H' ⟨⟨L, hv, l1, l2, l3, l4⟩, hH⟩ => ?_
  subst hv; subst hH
  refine C3.q (qzk (M := M) l2) fun v H' ⟨hv, hH⟩ => ?_
  subst hv; subst hH
  obtain ⟨q1, q2, q3⟩ := qL_ok ⟨L, by omega⟩ l1
  dsimp at q1 q2 q3
  generalize qL L = q at q1 q2 q3
  obtain ⟨n1, n2⟩ := hp.at q1
  have hlt : n < 10 ^ (q + 1) := Nat.lt_of_lt_of_le l4 q2
  by_cases h : 10 ^ q ≤ n
  · have e : ((10 ^ q : Nat) : Int) ≤ (n : Int) := by exact_mod_cast h
    simp only [↓JN_eq, CTL3, OPS3, cast0, reduceIte, Nat.reduceEqDiff, zi, n1, n2, e]
    refine C3.q (qq2 (M := M)) fun v H' ⟨hv, hH⟩ => ?_
    subst hv; subst hH
    have ew : wrapI .i64 ((q : Int) + ((1 : Nat) : Int)) = ((q + 1 : Nat) : Int) := by rw [xc (by omega) (by omega)]; omega
    simp only [↓JN_eq, CTL3, OPS3, cast0, reduceIte, Nat.reduceEqDiff, zi, ew]
    refine ⟨q, rfl, ?_, hlt, h⟩
    have : 10 ^ q < 10 ^ 20 := Nat.lt_of_le_of_lt h (Nat.lt_trans h2 (by decide))
    have := (Nat.pow_lt_pow_iff_right (a := 10) (by decide)).1 this
    omega
  · have e : ¬ ((10 ^ q : Nat) : Int) ≤ (n : Int) := by exact_mod_cast h
    simp only [↓JN_eq, CTL3, OPS3, cast0, reduceIte, Nat.reduceEqDiff, zi, n1, n2, e]
    refine C3.q (qq2 (M := M)) fun v H' ⟨hv, hH⟩ => ?_
    subst hv; subst hH
    have q0 : 1 ≤ q := by
      rcases Nat.eq_zero_or_pos q with rfl | q0
      · simp at h; omega
      · exact q0
    have ew : wrapI .i64 ((q : Int) + 0) = ((q - 1 + 1 : Nat) : Int) := by rw [xc (by omega) (by omega)]; omega
    simp only [↓JN_eq, CTL3, OPS3, cast0, reduceIte, Nat.reduceEqDiff, zi, ew]
    exact ⟨q - 1, rfl, by omega, by rw [show q - 1 + 1 = q by omega]; omega, Nat.le_trans (q3 q0) l3⟩
theorem qze {H : AHeap} {n : Nat} (h : n < 100) : CALLQ M x9 [.int .i64 (n : Int)] H fun v H' => v = .str (dec n) ∧ H' = H := by
  refine qfq ?_
  by_cases h1 : n < 10
  · have e : (n : Int) < 10 := by omega
    have key : ∀ i : Fin 10, ((qnu.take (i.1 + 1)).drop i.1) = [UInt8.ofNat (48 + i.1)] ∧ i.1 + 1 ≤ qnu.length := by decide +kernel
    obtain ⟨k1, k2⟩ := key ⟨n, h1⟩
    dsimp only at k1 k2
    simp (disch := first | omega | (simp only [List.length_set]; omega)) only [↓JN_eq, CTL3, OPS3, cast0, reduceIte, Nat.reduceEqDiff, qa0, e, w_inc64]
    rw [qjc (a := n) (b := n + 1) (by omega) k2, k1]
    simp only [↓JN_eq, CTL3, OPS3, cast0, reduceIte, Nat.reduceEqDiff]
    rw [Lang.dec_lt h1]
  · have e : ¬ (n : Int) < 10 := by omega
    have key : ∀ i : Fin 100, ((zu.take (i.1 * 2 + 2)).drop (i.1 * 2)) = [UInt8.ofNat (48 + i.1 / 10), UInt8.ofNat (48 + i.1 % 10)] ∧ i.1 * 2 + 2 ≤ zu.length := by decide +kernel
    obtain ⟨k1, k2⟩ := key ⟨n, h⟩
    dsimp only at k1 k2
    have e2 : wrapI .i64 ((n : Int) * 2) = ((n * 2 : Nat) : Int) := by rw [xc (by omega) (by omega)]; omega
    have e3 : wrapI .i64 (((n * 2 : Nat) : Int) + 2) = ((n * 2 + 2 : Nat) : Int) := by rw [xc (by omega) (by omega)]; omega
    simp only [↓JN_eq, CTL3, OPS3, cast0, reduceIte, Nat.reduceEqDiff, qa0, e, e2, e3]
    rw [qjc (a := n * 2) (b := n * 2 + 2) (by omega) k2, k1]
    simp only [↓JN_eq, CTL3, OPS3, cast0, reduceIte, Nat.reduceEqDiff]
    rw [Lang.dec_ge (by omega), Lang.dec_lt (show n / 10 < 10 by omega)]; rfl
theorem q2y {H : AHeap} {b o d cp e n : Nat} {c : List AV} (hg : H.get b = some (OR c e)) (hd : Dg c o 0 d n) (hn : n < 10 ^ (d + 1)) (hn' : d = 0 ∨ 10 ^ d ≤ n) (ho : o + d + 1 ≤ 24) : Op.strOfBytes [.slice b o (d + 1) cp] H = some (.str (dec n)) := by
  have hl := qsn d n hn hn'
  have hc := hd.1
  have key : (c.drop o).take (d + 1) = (dec n).map fun c => AV.int .u8 c.toNat := by
    refine List.ext_getElem? fun j => ?_
    by_cases hj : j ≤ d
    · rw [List.getElem?_take, if_pos (by omega), List.getElem?_drop, hd.2 j (Nat.zero_le _) hj, List.getElem?_map, q3i d n hn hn' j hj]
      show _ = some (AV.int .u8 (((UInt8.ofNat (dig n (d - j))).toNat : Nat) : Int))
      rw [Tr.ofNat_lt (by unfold dig; omega)]
    · rw [List.getElem?_eq_none (by rw [List.length_take]; omega), List.getElem?_eq_none (by rw [List.length_map]; omega)]
  have hs : firstCells H 1 (d + 1) (.slice b o (d + 1) cp) = some ((dec n).map fun c => AV.int .u8 c.toNat) := by
    have : Nat.beq (d + 1) 0 = false := vq (by omega)
    simp only [firstCells, this, cond_false, Nat.mul_one]
    rw [qtl (zo hg) (by omega), key]
  have hv : lenV (.slice b o (d + 1) cp) = some (d + 1) := rfl
  simp only [Op.strOfBytes, hv, Option.bind_some, hs, qi3]
theorem qv1 {H : AHeap} {n : Nat} (hp : PowT H) (hl : xx < H.next) (hn : n < 18446744073709551616) : CALLQ M xp [.int .u64 (n : Int), .int .i64 10] H fun v H' => v = .str (dec n) ∧ Fr Em H H' := by
  refine qcj ?_
  by_cases h1 : n < 100
  · have e : (n : Int) < 100 := by omega
    simp (maxSteps := 4000000) (disch := first | (simp only [qd, qe]; done) | (simp only [qd, qe]; omega) | omega) only [↓JN_eq, CTL3, OPS3, MEM3, List.length_cons, List.length_nil, List.take_zero, List.take_succ_cons, List.drop_zero, List.drop_succ_cons, List.take_nil, List.drop_nil, Nat.reduceAdd, Nat.reduceSub, Nat.reduceLeDiff, Int.reduceLT, Int.reduceLE, Int.reduceEq, cast0, reduceIte, Nat.reduceEqDiff, jc, e]
    simp (disch := first | omega | (simp only [List.length_set]; omega)) only [↓JN_eq, CTL3, OPS3, cast0, reduceIte, Nat.reduceEqDiff, w_i64]
    refine C3.q (qze (M := M) h1) fun v H' ⟨hv, hH⟩ => ?_
    subst hv; subst hH
    simp only [↓JN_eq, CTL3, OPS3, cast0, reduceIte, Nat.reduceEqDiff]
    exact Fr.refl _
  · have e : ¬ (n : Int) < 100 := by omega
    simp (maxSteps := 4000000) (disch := first | (simp only [qd, qe]; done) | (simp only [qd, qe]; omega) | omega) only [↓JN_eq, CTL3, OPS3, MEM3, List.length_cons, List.length_nil, List.take_zero, List.take_succ_cons, List.drop_zero, List.drop_succ_cons, List.take_nil, List.drop_nil, Nat.reduceAdd, Nat.reduceSub, Nat.reduceLeDiff, Int.reduceLT, Int.reduceLE, Int.reduceEq, cast0, reduceIte, Nat.reduceEqDiff, jc, e]
    have hf1 : Fr Em H (H.alloc (.row (List.replicate 24 (.int .u8 0)) T__97 (0, 0) true)) := (Fr.refl H).alloc _
    have hp1 : PowT (H.alloc (.row (List.replicate 24 (.int .u8 0)) T__97 (0, 0) true)) := (hf1.cells hl (fun h => h)).trans hp
    refine C3.q (qp2 (M := M) hp1 (by omega) hn) fun v H' ⟨d, hv, hH, d1, d2, d3⟩ => ?_
    subst hv; subst hH
    have e1 : Op.sliceArr 24 1 [none, some 0, none] [.ptr H.next 0, .int .i64 ((d + 1 : Nat) : Int)] = some (.slice H.next 0 (d + 1) 24) := qxi (by omega) (by decide)
    simp only [↓JN_eq, CTL3, OPS3, cast0, reduceIte, Nat.reduceEqDiff, jc, e1]
    refine C3.q (qxo (M := M) (qn ..) (by simp) (by omega) d2 hn) fun v H' ⟨c', hH, hd⟩ => ?_
    subst hH
    simp only [↓JN_eq, CTL3, OPS3, cast0, reduceIte, Nat.reduceEqDiff, jc, e1, q2y (ql ..) hd d2 (.inr d3) (by omega)]
    first | exact ⟨rfl, hf1.set (.inr (Nat.le_refl _)) _⟩ | exact hf1.set (.inr (Nat.le_refl _)) _
theorem qow {H : AHeap} {n : Nat} (hp : PowT H) (hl : xx < H.next) (hn : n < 18446744073709551616) : CALLQ M zg [.int .u64 (n : Int), .int .i64 10] H fun v H' => v = .str (dec n) ∧ Fr Em H H' := by
  refine qii ?_
  simp only [↓JN_eq, CTL3, OPS3, cast0, reduceIte, Nat.reduceEqDiff, qcw]
  refine C3.q (qv1 (M := M) hp hl hn) fun v H' ⟨hv, hf⟩ => ?_
  subst hv
  simp only [↓JN_eq, CTL3, OPS3, cast0, reduceIte, Nat.reduceEqDiff, qcw]
  exact hf
theorem qr4 {H : AHeap} {t : Int} (hp : PowT H) (hl : xx < H.next) (h0 : 0 ≤ t) (h1 : t < 18446744073709551616) : CALLQ M zg [.int .u64 t, .int .i64 10] H fun v H' => v = .str (dec t.toNat) ∧ Fr Em H H' := by
  have := qow (M := M) (n := t.toNat) hp hl (by omega)
  rwa [show ((t.toNat : Nat) : Int) = t by omega] at this
end Go.Am
namespace Go.Am
open Go.Proofs
variable {M : Mac} [MK M]
abbrev NewB := New encB j6 1
structure BS (H0 H : AHeap) (b : Nat) (xs : List UInt8) : Prop where
  row : ∃ p buf, H.get b = some (OR [p, buf] qla) ∧ (p = .nilp ∨ p = .ptr b 0) ∧ NewB H0 H buf xs ∧ ¬ OnS buf b
  lo : H0.next ≤ b
  hi : b < H.next
theorem BS.fr {H0 H H' : AHeap} {b : Nat} {xs : List UInt8} (h : BS H0 H b xs) (f : Fr Em H H') : BS H0 H' b xs := by
  obtain ⟨⟨p, buf, h1, h2, h3, h4⟩, lo, hi⟩ := h
  exact ⟨⟨p, buf, by rw [f.keep b hi id, h1], h2, h3.em f, h4⟩, lo, Nat.lt_of_lt_of_le hi f.next⟩
def joinS (sep : List UInt8) : List (List UInt8) → List UInt8
  | [] => []
  | w :: ws => w ++ ws.flatMap fun x => sep ++ x
def totL (ws : List (List UInt8)) : Nat := (ws.flatMap fun x => x).length
end Go.Am
namespace Go.Am
open Tr
variable {M : Mac} [MK M]
theorem ev9 (x : Evt) : x.enc.length = 9 := rfl
theorem evt9 (x : Evt) : x.enc.take 9 = x.enc := rfl
abbrev cI (l : UInt8) : AV := .int .i32 l.toNat
def offL (l : UInt8) : Nat := if l = 98 then 3 else if l = 116 then 4 else if l = 108 then 5 else if l = 97 then 6 else if l = 118 then 7 else 8
theorem offL_get {x : Evt} {l : UInt8} (hl : isL l) (h : l ≠ 118) : x.enc[offL l]? = some (.int .i64 (getN x l)) := by
  rcases hl with rfl | rfl | rfl | rfl | rfl | rfl <;> first | rfl | exact absurd rfl h
theorem may_spec {H : AHeap} {n : Int} {w : AV} {ws : List B} (hw : SlT encS 1 H w ws) : CALLQ M qaw [.int .i64 n, w] H fun v H' => v = .bool (decide (0 ≤ n ∧ (ws.length = 0 ∨ 1 ≤ n ∧ n < ws.length))) ∧ H' = H := by
  refine qxq ?_
  by_cases h1 : 0 ≤ n
  · by_cases h2 : ws.length = 0
    · have e : ((ws.length : Nat) : Int) = 0 := by omega
      simp (maxSteps := 4000000) (disch := first | (simp only [qd, qe]; done) | (simp only [qd, qe]; omega) | omega) only [↓JN_eq, CTL3, OPS3, MEM3, List.length_cons, List.length_nil, List.take_zero, List.take_succ_cons, List.drop_zero, List.drop_succ_cons, List.take_nil, List.drop_nil, Nat.reduceAdd, Nat.reduceSub, Nat.reduceLeDiff, Int.reduceLT, Int.reduceLE, Int.reduceEq, cast0, reduceIte, Nat.reduceEqDiff, qd4, h1, hw.len, h2]
      try simp
    · have e : ¬ ((ws.length : Nat) : Int) = 0 := by omega
      by_cases h3 : 1 ≤ n
      · by_cases h4 : n < (ws.length : Nat)
        · simp (maxSteps := 4000000) (disch := first | (simp only [qd, qe]; done) | (simp only [qd, qe]; omega) | omega) only [↓JN_eq, CTL3, OPS3, MEM3, List.length_cons, List.length_nil, List.take_zero, List.take_succ_cons, List.drop_zero, List.drop_succ_cons, List.take_nil, List.drop_nil, Nat.reduceAdd, Nat.reduceSub, Nat.reduceLeDiff, Int.reduceLT, Int.reduceLE, Int.reduceEq, cast0, reduceIte, Nat.reduceEqDiff, qd4, h1, hw.len, e, h3, h4]; try simp [h2]
        · simp (maxSteps := 4000000) (disch := first | (simp only [qd, qe]; done) | (simp only [qd, qe]; omega) | omega) only [↓JN_eq, CTL3, OPS3, MEM3, List.length_cons, List.length_nil, List.take_zero, List.take_succ_cons, List.drop_zero, List.drop_succ_cons, List.take_nil, List.drop_nil, Nat.reduceAdd, Nat.reduceSub, Nat.reduceLeDiff, Int.reduceLT, Int.reduceLE, Int.reduceEq, cast0, reduceIte, Nat.reduceEqDiff, qd4, h1, hw.len, e, h3, h4]; try simp [h2]
      · simp (maxSteps := 4000000) (disch := first | (simp only [qd, qe]; done) | (simp only [qd, qe]; omega) | omega) only [↓JN_eq, CTL3, OPS3, MEM3, List.length_cons, List.length_nil, List.take_zero, List.take_succ_cons, List.drop_zero, List.drop_succ_cons, List.take_nil, List.drop_nil, Nat.reduceAdd, Nat.reduceSub, Nat.reduceLeDiff, Int.reduceLT, Int.reduceLE, Int.reduceEq, cast0, reduceIte, Nat.reduceEqDiff, qd4, h1, hw.len, e, h3]; try simp [h2]
  · simp (maxSteps := 4000000) (disch := first | (simp only [qd, qe]; done) | (simp only [qd, qe]; omega) | omega) only [↓JN_eq, CTL3, OPS3, MEM3, List.length_cons, List.length_nil, List.take_zero, List.take_succ_cons, List.drop_zero, List.drop_succ_cons, List.take_nil, List.drop_nil, Nat.reduceAdd, Nat.reduceSub, Nat.reduceLeDiff, Int.reduceLT, Int.reduceLE, Int.reduceEq, cast0, reduceIte, Nat.reduceEqDiff, qd4, h1]; try simp
theorem qrg {H : AHeap} {b : Nat} {l : UInt8} (hl : isL l) (h : l ≠ 118) : CALLQ M kz [.ptr b 0, cI l] H fun v H' => ∃ w, v = .tuple [.ptr b (offL l), w] ∧ Fr Em H H' ∧ SlT encS 1 H' w (wordsOf l) ∧ ((wordsOf l).length = 0 ∨ H.next ≤ slB w) := by
  refine qtp ?_
  rcases hl with rfl | rfl | rfl | rfl | rfl | rfl
  · exact absurd rfl h
  · have e : cI 98 = .int .i32 98 := rfl
    rw [e]; simp (maxSteps := 4000000) (disch := first | (simp only [qd, qe]; done) | (simp only [qd, qe]; omega) | omega) only [↓JN_eq, CTL3, OPS3, MEM3, List.length_cons, List.length_nil, List.take_zero, List.take_succ_cons, List.drop_zero, List.drop_succ_cons, List.take_nil, List.drop_nil, Nat.reduceAdd, Nat.reduceSub, Nat.reduceLeDiff, Int.reduceLT, Int.reduceLE, Int.reduceEq, cast0, reduceIte, Nat.reduceEqDiff, qa8]
    exact ⟨_, rfl, Fr.refl _, ⟨rfl, rfl⟩, .inl rfl⟩
  · have e : cI 116 = .int .i32 116 := rfl
    rw [e]; simp (maxSteps := 4000000) (disch := first | (simp only [qd, qe]; done) | (simp only [qd, qe]; omega) | omega) only [↓JN_eq, CTL3, OPS3, MEM3, List.length_cons, List.length_nil, List.take_zero, List.take_succ_cons, List.drop_zero, List.drop_succ_cons, List.take_nil, List.drop_nil, Nat.reduceAdd, Nat.reduceSub, Nat.reduceLeDiff, Int.reduceLT, Int.reduceLE, Int.reduceEq, cast0, reduceIte, Nat.reduceEqDiff, qa8]
    exact ⟨_, rfl, Fr.refl _, ⟨rfl, rfl⟩, .inl rfl⟩
  · have e : cI 108 = .int .i32 108 := rfl
    have e2 : (Op.buildSlice qm 5 [(.str [])] [(0, 1), (1, 1), (2, 1), (3, 1), (4, 1)]) [(.str []), (.str [102, 97, 115, 116]), (.str [115, 108, 111, 119]), (.str [115, 111, 102, 116]), (.str [115, 101, 114, 105, 97, 108])] = some (.row ((wordsOf 108).map AV.str) qm (0, 0) true, Op.sliceTo 5 5) := rfl
    rw [e]; simp (maxSteps := 4000000) (disch := first | (simp only [qd, qe]; done) | (simp only [qd, qe]; omega) | omega) only [↓JN_eq, CTL3, OPS3, MEM3, List.length_cons, List.length_nil, List.take_zero, List.take_succ_cons, List.drop_zero, List.drop_succ_cons, List.take_nil, List.drop_nil, Nat.reduceAdd, Nat.reduceSub, Nat.reduceLeDiff, Int.reduceLT, Int.reduceLE, Int.reduceEq, cast0, reduceIte, Nat.reduceEqDiff, qa8, e2]
    exact ⟨_, rfl, (Fr.refl _).alloc _, qfy _ _ _ _ _ _ rfl, .inr (Nat.le_refl _)⟩
  · have e : cI 97 = .int .i32 97 := rfl
    rw [e]; simp (maxSteps := 4000000) (disch := first | (simp only [qd, qe]; done) | (simp only [qd, qe]; omega) | omega) only [↓JN_eq, CTL3, OPS3, MEM3, List.length_cons, List.length_nil, List.take_zero, List.take_succ_cons, List.drop_zero, List.drop_succ_cons, List.take_nil, List.drop_nil, Nat.reduceAdd, Nat.reduceSub, Nat.reduceLeDiff, Int.reduceLT, Int.reduceLE, Int.reduceEq, cast0, reduceIte, Nat.reduceEqDiff, qa8]
    exact ⟨_, rfl, Fr.refl _, ⟨rfl, rfl⟩, .inl rfl⟩
  · have e : cI 99 = .int .i32 99 := rfl
    have e2 : (Op.buildSlice qm 9 [(.str [])] [(0, 1), (1, 1), (2, 1), (3, 1), (4, 1), (5, 1), (6, 1), (7, 1), (8, 1)]) [(.str []), (.str [99, 111, 110, 102, 108, 105, 99, 116]), (.str [115, 117, 98]), (.str [99, 97, 112, 97, 99, 105, 116, 121]), (.str [101, 118, 105, 99, 116]), (.str [115, 112, 117, 114, 105, 111, 117, 115]), (.str [98, 117, 115, 121]), (.str [105, 108, 108, 101, 103, 97, 108]), (.str [115, 111, 102, 116])] = some (.row ((wordsOf 99).map AV.str) qm (0, 0) true, Op.sliceTo 9 9) := rfl
    rw [e]; simp (maxSteps := 4000000) (disch := first | (simp only [qd, qe]; done) | (simp only [qd, qe]; omega) | omega) only [↓JN_eq, CTL3, OPS3, MEM3, List.length_cons, List.length_nil, List.take_zero, List.take_succ_cons, List.drop_zero, List.drop_succ_cons, List.take_nil, List.drop_nil, Nat.reduceAdd, Nat.reduceSub, Nat.reduceLeDiff, Int.reduceLT, Int.reduceLE, Int.reduceEq, cast0, reduceIte, Nat.reduceEqDiff, qa8, e2]
    exact ⟨_, rfl, (Fr.refl _).alloc _, qfy _ _ _ _ _ _ rfl, .inr (Nat.le_refl _)⟩
def gU (x : Evt) (l : UInt8) : Int := if l = 118 then x.value else wrapI .u64 (getN x l)
theorem setN_row {y : Evt} {l : UInt8} (hl : isL l) (h : l ≠ 118) (n : Int) : y.enc.take (offL l) ++ [AV.int .i64 n] ++ y.enc.drop (offL l + 1) = (setN y l n).enc := by
  rcases hl with rfl | rfl | rfl | rfl | rfl | rfl <;> first | rfl | exact absurd rfl h
def SetQ (y : Evt) (l : UInt8) (u : Int) (b : Nat) (v : AV) (H' : AHeap) : Prop := l = 118 ∧ v = .bool true ∧ H'.get b = some (OR (setN y l u).enc qb) ∨ l ≠ 118 ∧ v = .bool (decide (u ≤ 9223372036854775807) && mayN l (wrapI .i64 u)) ∧ H'.get b = some (OR (setN y l (wrapI .i64 u)).enc qb)
theorem qy0 {H : AHeap} {y : Evt} {l : UInt8} (hl : isL l) {b : Nat} {u : Int} (hb : H.get b = some (OR y.enc qb)) (hlt : b < H.next) :
    CALLQ M qah [.ptr b 0, cI l, .int .u64 u] H fun v H' => SetQ y l u b v H' ∧ Fr (On b) H H' := by
  refine qxs ?_
  by_cases h : l = 118
  · subst h
    have e : cI 118 = .int .i32 118 := rfl
    have e1 : y.enc.length = 9 := rfl
    have e2 : y.enc.take 7 ++ [AV.int .u64 u] ++ y.enc.drop 8 = (setN y 118 u).enc := rfl
    rw [e]; simp (maxSteps := 4000000) (disch := first | (simp only [qd, qe]; done) | (simp only [qd, qe]; omega) | omega) only [↓JN_eq, CTL3, OPS3, MEM3, List.length_cons, List.length_nil, List.take_zero, List.take_succ_cons, List.drop_zero, List.drop_succ_cons, List.take_nil, List.drop_nil, Nat.reduceAdd, Nat.reduceSub, Nat.reduceLeDiff, Int.reduceLT, Int.reduceLE, Int.reduceEq, cast0, reduceIte, Nat.reduceEqDiff, qbv, hb, e1, e2]
    exact ⟨.inl ⟨rfl, rfl, ql ..⟩, (Fr.refl H).set (W := On b) (.inl rfl) _⟩
  · have e : Op.bin .eql [cI l, .int .i32 118] = some (.bool false) := by
      rcases hl with rfl | rfl | rfl | rfl | rfl | rfl <;> first | rfl | exact absurd rfl h
    simp (maxSteps := 4000000) (disch := first | (simp only [qd, qe]; done) | (simp only [qd, qe]; omega) | omega) only [↓JN_eq, CTL3, OPS3, MEM3, List.length_cons, List.length_nil, List.take_zero, List.take_succ_cons, List.drop_zero, List.drop_succ_cons, List.take_nil, List.drop_nil, Nat.reduceAdd, Nat.reduceSub, Nat.reduceLeDiff, Int.reduceLT, Int.reduceLE, Int.reduceEq, cast0, reduceIte, Nat.reduceEqDiff, qbv, e]
    refine C3.q (qrg (M := M) hl h) fun v H' ⟨w, hv, hf2, hw, hap⟩ => ?_
    subst hv
    have hg : H'.get b = some (OR y.enc qb) := by rw [hf2.keep _ hlt (fun h => h), hb]
    have e1 : y.enc.length = 9 := rfl
    have e3 : offL l + 1 ≤ 9 := by rcases hl with rfl | rfl | rfl | rfl | rfl | rfl <;> decide
    simp (maxSteps := 4000000) (disch := first | (simp only [qd, qe]; done) | (simp only [qd, qe]; omega) | omega) only [↓JN_eq, CTL3, OPS3, MEM3, List.length_cons, List.length_nil, List.take_zero, List.take_succ_cons, List.drop_zero, List.drop_succ_cons, List.take_nil, List.drop_nil, Nat.reduceAdd, Nat.reduceSub, Nat.reduceLeDiff, Int.reduceLT, Int.reduceLE, Int.reduceEq, cast0, reduceIte, Nat.reduceEqDiff, qbv, hg, e1, e3, setN_row hl h]
    have hf3 : Fr (On b) H (H'.set b (OR (setN y l (wrapI .i64 u)).enc qb)) := (hf2.mono (W' := On b) fun _ _ q => q.elim).set (.inl rfl) _
    by_cases h4 : u ≤ 9223372036854775807
    · simp (maxSteps := 4000000) (disch := first | (simp only [qd, qe]; done) | (simp only [qd, qe]; omega) | omega) only [↓JN_eq, CTL3, OPS3, MEM3, List.length_cons, List.length_nil, List.take_zero, List.take_succ_cons, List.drop_zero, List.drop_succ_cons, List.take_nil, List.drop_nil, Nat.reduceAdd, Nat.reduceSub, Nat.reduceLeDiff, Int.reduceLT, Int.reduceLE, Int.reduceEq, cast0, reduceIte, Nat.reduceEqDiff, qbv, h4, offL_get hl h]
      refine C3.q (may_spec (M := M) (Sl.fr hw ((Fr.refl H').set (W := On b) (.inl rfl) _) ?_)) fun v H2 ⟨hv, hH⟩ => ?_
      · exact hap.imp id fun q => fun (r : slB w = b) => by omega
      subst hv; subst hH
      simp (maxSteps := 4000000) (disch := first | (simp only [qd, qe]; done) | (simp only [qd, qe]; omega) | omega) only [↓JN_eq, CTL3, OPS3, MEM3, List.length_cons, List.length_nil, List.take_zero, List.take_succ_cons, List.drop_zero, List.drop_succ_cons, List.take_nil, List.drop_nil, Nat.reduceAdd, Nat.reduceSub, Nat.reduceLeDiff, Int.reduceLT, Int.reduceLE, Int.reduceEq, cast0, reduceIte, Nat.reduceEqDiff, qbv]
      refine ⟨.inr ⟨h, ?_, ql ..⟩, hf3⟩
      simp only [mayN, if_neg h, h4, decide_true, Bool.true_and, get_set hl hl, if_true]
    · simp (maxSteps := 4000000) (disch := first | (simp only [qd, qe]; done) | (simp only [qd, qe]; omega) | omega) only [↓JN_eq, CTL3, OPS3, MEM3, List.length_cons, List.length_nil, List.take_zero, List.take_succ_cons, List.drop_zero, List.drop_succ_cons, List.take_nil, List.drop_nil, Nat.reduceAdd, Nat.reduceSub, Nat.reduceLeDiff, Int.reduceLT, Int.reduceLE, Int.reduceEq, cast0, reduceIte, Nat.reduceEqDiff, qbv, h4]
      exact ⟨.inr ⟨h, by simp [h4], ql ..⟩, hf3⟩
theorem qre {H : AHeap} {k : Int} : CALLQ M ya [.int .i64 k] H fun v H' => v = .agg (fresh k 0 0).enc ∧ Fr Em H H' := by
  refine qr7 ?_
  by_cases h : 7 ≤ k
  · simp (maxSteps := 4000000) (disch := first | (simp only [qd, qe]; done) | (simp only [qd, qe]; omega) | omega) only [↓JN_eq, CTL3, OPS3, MEM3, List.length_cons, List.length_nil, List.take_zero, List.take_succ_cons, List.drop_zero, List.drop_succ_cons, List.take_nil, List.drop_nil, Nat.reduceAdd, Nat.reduceSub, Nat.reduceLeDiff, Int.reduceLT, Int.reduceLE, Int.reduceEq, cast0, reduceIte, Nat.reduceEqDiff, qj9, h]
    refine ⟨by simp [fresh, h, Evt.enc], ?_⟩
    ((repeat (first | refine Fr.alloc ?_ _ | refine Fr.set ?_ (.inr (by first | omega | (simp only [qd, qe]; omega))) _)); first | exact Fr.refl _ | assumption)
  · simp (maxSteps := 4000000) (disch := first | (simp only [qd, qe]; done) | (simp only [qd, qe]; omega) | omega) only [↓JN_eq, CTL3, OPS3, MEM3, List.length_cons, List.length_nil, List.take_zero, List.take_succ_cons, List.drop_zero, List.drop_succ_cons, List.take_nil, List.drop_nil, Nat.reduceAdd, Nat.reduceSub, Nat.reduceLeDiff, Int.reduceLT, Int.reduceLE, Int.reduceEq, cast0, reduceIte, Nat.reduceEqDiff, qj9, h]
    refine ⟨by simp [fresh, h, Evt.enc], ?_⟩
    ((repeat (first | refine Fr.alloc ?_ _ | refine Fr.set ?_ (.inr (by first | omega | (simp only [qd, qe]; omega))) _)); first | exact Fr.refl _ | assumption)
end Go.Am
namespace Go.Am
open Tr
variable {M : Mac} [MK M]
structure Tab (H : AHeap) : Prop where
  lt : 10 ≤ H.next
  named : H.cellsAt vn = some ((List.range 9).map fun k : Nat => AV.str (named (k : Nat)))
  kinds : H.cellsAt qbg = some ((List.range 9).map fun k : Nat => AV.str (kword (k : Nat)))
  pow : H.cellsAt xx = some ((List.range 20).map fun k : Nat => AV.int .u64 ((10 ^ k : Nat) : Int))
theorem Tab.em {H H' : AHeap} (h : Tab H) (f : Fr Em H H') : Tab H' := by
  have hl := h.lt
  exact ⟨Nat.le_trans hl f.next, (f.cells (show (0 : Nat) < H.next by omega) id).trans h.named, (f.cells (show (1 : Nat) < H.next by omega) id).trans h.kinds, (f.cells (show (2 : Nat) < H.next by omega) id).trans h.pow⟩
theorem Tab.nm {H : AHeap} (h : Tab H) {k : Int} (h1 : 1 ≤ k) (h2 : k ≤ 8) : Op.indexArr 9 1 [.ptr vn 0, .int .i64 k] = some (.ptr vn k.toNat) ∧ Op.load1 [.ptr vn k.toNat] H = some (.str (Tr.named k)) := by
  refine ⟨by rw [qlj (i := k.toNat) (by omega) (by omega), Nat.zero_add, Nat.mul_one], ?_⟩
  rw [yv h.named, List.getElem?_map, List.getElem?_range (by omega)]
  show some (AV.str (Tr.named (k.toNat : Nat))) = _
  rw [show ((k.toNat : Nat) : Int) = k by omega]
theorem qjv {k : Int} {l : UInt8} (h : l ∈ named k) : isL l ∧ l.toNat < 128 := by
  have := (qtc k).1 l h
  refine ⟨this, ?_⟩
  rcases this with rfl | rfl | rfl | rfl | rfl | rfl <;> decide
theorem Evt.one' (x : Evt) : allOne x.enc = true := rfl
def EncQ (h : List Evt) (H : AHeap) (v : AV) (H' : AHeap) : Prop := Fr Em H H' ∧ ((h.all fineB = true ∧ ∃ w, v = .tuple [w, .int .i64 0] ∧ NewB H H' w (h.flatMap encE)) ∨ (h.all fineB = false ∧ v = .tuple [.nils, .int .i64 2]))
end Go.Am
