/- TrK1: NmA NmB StA TwA TwB. -/
import Derived.Test.YtkfheegmlgfdoaaDoorAmKCodeK
import Derived.Test.YtkfheegmlgfdoaaDoorAmKTrK0
set_option linter.unusedVariables false
set_option linter.unusedSimpArgs false
set_option maxRecDepth 100000
set_option linter.unusedSectionVars false
namespace Go.Am
open Lang (dec)
variable {M : Mac} [MK M]
abbrev Smalls : List UInt8 := z9
theorem sm0 {k : IntKind} {i : Nat} (h : i < 100) : Op.indexStr [.str z9, .int k ((i * 2 : Nat) : Int)] = some (.int .u8 ((48 + i / 10 : Nat) : Int)) := by
  have key : ∀ i : Fin 100, z9[i.1 * 2]? = some (UInt8.ofNat (48 + i.1 / 10)) := by decide +kernel
  rw [qjs rfl (key ⟨i, h⟩), Tr.ofNat_lt (by dsimp; omega)]
theorem sm1 {k : IntKind} {i : Nat} (h : i < 100) : Op.indexStr [.str z9, .int k ((i * 2 + 1 : Nat) : Int)] = some (.int .u8 ((48 + i % 10 : Nat) : Int)) := by
  have key : ∀ i : Fin 100, z9[i.1 * 2 + 1]? = some (UInt8.ofNat (48 + i.1 % 10)) := by decide +kernel
  rw [qjs rfl (key ⟨i, h⟩), Tr.ofNat_lt (by dsimp; omega)]
theorem st1 {H : AHeap} {b e : Nat} {c : List AV} {p : Nat} {k : IntKind} {v : Int} (h : p < c.length) : Op.store 1 [.ptr b p, .int k v] (H.set b (OR c e)) = some (.undef, H.set b (OR (c.set p (.int k v)) e)) := by
  rw [qco (o := p) (n := 1) (v := .int k v) (qo ..) rfl (by omega) rfl, qmm]
  congr 3
  rw [List.set_eq_take_append_cons_drop, if_pos h]
  simp [AV.cells]
theorem st0 {H : AHeap} {b e : Nat} {c : List AV} {p : Nat} {k : IntKind} {v : Int} (hg : H.get b = some (OR c e)) (h : p < c.length) : Op.store 1 [.ptr b p, .int k v] H = some (.undef, H.set b (OR (c.set p (.int k v)) e)) := by
  rw [qco (o := p) (n := 1) (v := .int k v) hg rfl (by omega) rfl]
  congr 3
  rw [List.set_eq_take_append_cons_drop, if_pos h]
  simp [AV.cells]
theorem ix {b o n c i : Nat} {k : IntKind} (h : i < n) : Op.indexSl 1 [.slice b o n c, .int k (i : Int)] = some (.ptr b (o + i)) := by
  have h1 := qcd h
  simp [Op.indexSl, lenV, qgk (z := (i : Int)) rfl h, elemAt, h1]
def Dg (c : List AV) (o k d n : Nat) : Prop := c.length = 24 ∧ ∀ j, k ≤ j → j ≤ d → c[o + j]? = some (.int .u8 ((dig n (d - j) : Nat) : Int))
theorem Dg.step {c : List AV} {o k d n v : Nat} (h : Dg c o (k + 1) d n) (hv : v = dig n (d - k)) (ho : o + k < 24) : Dg (c.set (o + k) (.int .u8 (v : Int))) o k d n := by
  refine ⟨by rw [List.length_set]; exact h.1, fun j h1 h2 => ?_⟩
  have hl := h.1
  rw [List.getElem?_set]
  by_cases e : k = j
  · subst e; rw [if_pos rfl, if_pos (by omega), hv]
  · rw [if_neg (by omega), h.2 j (by omega) h2]
theorem Dg.steps {c : List AV} {o k d n v : Nat} (h : Dg c o (k + 1) d n) (hv : v = dig n (d - k)) (ho : o + k < 24) {i : Nat} (hi : i = o + k) : Dg (c.set i (.int .u8 (v : Int))) o k d n := by subst hi; exact h.step hv ho
structure Tl (H0 H : AHeap) (b o d e : Nat) (n r u : Nat) (c : List AV) : Prop where
  fu : u = n / 10 ^ (d + 1 - r)
  lt : u < 10 ^ r
  le : r ≤ d + 1
  od : o + d + 1 ≤ 24
  get : H.get b = some (OR c e)
  st : ∀ c2, H.set b (OR c2 e) = H0.set b (OR c2 e)
  dg : Dg c o r d n
def TlQ (H0 : AHeap) (b o d e n : Nat) (v : AV) (H' : AHeap) : Prop := ∃ c', H' = H0.set b (OR c' e) ∧ Dg c' o 0 d n
theorem Tl.dig {H0 H : AHeap} {b o d e n r u : Nat} {c : List AV} (h : Tl H0 H b o d e n r u c) (i : Nat) : Am.dig n (d + 1 - r + i) = 48 + u / 10 ^ i % 10 := by rw [← q3i, ← h.fu]; rfl
theorem Tl.next {H0 H : AHeap} {b o d e n r u k : Nat} {c c2 : List AV} (h : Tl H0 H b o d e n r u c) (hk : k ≤ r) (hd : Dg c2 o (r - k) d n) : Tl H0 (H0.set b (OR c2 e)) b o d e n (r - k) (u / 10 ^ k) c2 := by
  obtain ⟨h1, h2, h3, h4, h5, h6, h7⟩ := h
  refine ⟨?_, ?_, by omega, h4, qo .., fun c2 => qmm .., hd⟩
  · rw [h1, show d + 1 - (r - k) = d + 1 - r + k by omega, Nat.pow_add, Nat.div_div_eq_div_mul]
  · have e1 : 10 ^ r = 10 ^ (r - k) * 10 ^ k := by rw [← Nat.pow_add]; congr 1; omega
    rw [e1] at h2; exact Nat.div_lt_of_lt_mul (by rw [Nat.mul_comm]; exact h2)
theorem tail1 {H0 H : AHeap} {b o d cp e n r u : Nat} {c : List AV} {E : Env} {ctx : Ctx} (h : Tl H0 H b o d e n r u c) (hH : r = 0 → ∃ c', H = H0.set b (OR c' e) ∧ c' = c) (hr : r < 2) (e0 : lk E 0 = some (.slice b o (d + 1) cp)) (e4 : lk E 4 = some (.int .i64 (r : Nat))) (e12 : lk E 12 = some (.int .u32 (u : Nat))) :
    W M ctx (qe 61) true (FIN3 M [] (RT3 (TlQ H0 b o d e n))) E [] H := by
  have hcl := h.dg.1
  have hod := h.od
  by_cases h1 : r = 0
  · subst h1
    obtain ⟨c', rfl, rfl⟩ := hH rfl
    have e5 : ¬ (0 : Int) < ((0 : Nat) : Int) := by omega
    simp (disch := first | omega | (simp only [List.length_set]; omega)) only [↓JN_eq, CTL3, OPS3, cast0, reduceIte, Nat.reduceEqDiff, xh, e4, e5]
    exact ⟨_, rfl, h.dg⟩
  · have hr1 : r = 1 := by omega
    subst hr1
    have e5 : (0 : Int) < ((1 : Nat) : Int) := by omega
    have hu : u < 10 := by simpa using h.lt
    have i0 := ix (b := b) (o := o) (n := d + 1) (c := cp) (i := 0) (k := .i64) (by omega)
    rw [show ((0 : Nat) : Int) = 0 from rfl] at i0
    simp (disch := first | omega | (simp only [List.length_set]; omega)) only [↓JN_eq, CTL3, OPS3, cast0, reduceIte, Nat.reduceEqDiff, xh, e4, e5, e0, e12, w_48, w_u8, i0, st0 h.get, h.st]
    have g0 := h.dig 0
    exact ⟨_, rfl, h.dg.steps (v := 48 + u) (by rw [show d - 0 = d + 1 - 1 + 0 by omega, g0]; simp; omega) (by omega) rfl⟩
theorem tail2 {H0 H : AHeap} {b o d cp e n r u : Nat} {c : List AV} {E : Env} {ctx : Ctx} (h : Tl H0 H b o d e n r u c) (hH : r = 0 → ∃ c', H = H0.set b (OR c' e) ∧ c' = c) (hr : r < 4) (e0 : lk E 0 = some (.slice b o (d + 1) cp)) (e4 : lk E 4 = some (.int .i64 (r : Nat))) (e12 : lk E 12 = some (.int .u32 (u : Nat))) :
    W M ctx (qe 49) true (FIN3 M [] (RT3 (TlQ H0 b o d e n))) E [] H := by
  obtain ⟨-, -, -, -, -, -, w49, -, -, -, -, -, -⟩ := xh M ctx
  have hcl := h.dg.1
  have hod := h.od
  have hle := h.le
  by_cases h1 : 2 ≤ r
  · have e5 : (2 : Int) ≤ (r : Int) := by omega
    have hu : u < 10000 := Nat.lt_of_lt_of_le h.lt (Nat.pow_le_pow_right (by decide) (show r ≤ 4 by omega))
    have g0 := h.dig 0
    have g1 := h.dig 1
    simp only [Nat.reducePow] at g0 g1
    have s1 := (show Dg c o (r - 1 + 1) d n by rw [show r - 1 + 1 = r by omega]; exact h.dg).steps (v := 48 + u % 100 % 10) (by rw [show d - (r - 1) = d + 1 - r + 0 by omega, g0]; omega) (by omega) (i := o + (r - 1)) rfl
    have s2 := (show Dg _ o (r - 2 + 1) d n by rw [show r - 2 + 1 = r - 1 by omega]; exact s1).steps (v := 48 + u % 100 / 10) (by rw [show d - (r - 2) = d + 1 - r + 1 by omega, g1]; omega) (by omega) (i := o + (r - 2)) rfl
    simp (disch := first | omega | (simp only [List.length_set]; omega)) only [↓JN_eq, CTL3, OPS3, cast0, reduceIte, Nat.reduceEqDiff, w49, e4, e5, e0, e12, n_rem, qyc, qw5, qw3, qx3, w_u32, Int.reduceToNat, sm0, sm1, ix, st0 h.get, h.st, st1]
    exact tail1 (cp := cp) (h.next h1 s2) (fun _ => ⟨_, rfl, rfl⟩) (by omega) (by simp only [↓JN_eq, CTL3, OPS3, cast0, reduceIte, Nat.reduceEqDiff, e0]) (by simp only [↓JN_eq, CTL3, OPS3, cast0, reduceIte, Nat.reduceEqDiff]) (by simp only [↓JN_eq, CTL3, OPS3, cast0, reduceIte, Nat.reduceEqDiff])
  · have e5 : ¬ (2 : Int) ≤ (r : Int) := by omega
    simp (disch := first | omega | (simp only [List.length_set]; omega)) only [↓JN_eq, CTL3, OPS3, cast0, reduceIte, Nat.reduceEqDiff, w49, e4, e5]
    exact tail1 h hH (by omega) e0 e4 e12
theorem tail4 {H0 H : AHeap} {b o d cp e n r u : Nat} {c : List AV} {E : Env} {ctx : Ctx} (h : Tl H0 H b o d e n r u c) (hH : r = 0 → ∃ c', H = H0.set b (OR c' e) ∧ c' = c) (hr : r < 8) (e0 : lk E 0 = some (.slice b o (d + 1) cp)) (e4 : lk E 4 = some (.int .i64 (r : Nat))) (e12 : lk E 12 = some (.int .u32 (u : Nat))) :
    W M ctx (qe 33) true (FIN3 M [] (RT3 (TlQ H0 b o d e n))) E [] H := by
  obtain ⟨-, -, -, -, w33, -, -, w39, -, -, w43, -, -⟩ := xh M ctx
  have hcl := h.dg.1
  have hod := h.od
  have hle := h.le
  by_cases h1 : 4 ≤ r
  · have e5 : (4 : Int) ≤ (r : Int) := by omega
    have hu : u < 100000000 := Nat.lt_of_lt_of_le h.lt (Nat.pow_le_pow_right (by decide) (show r ≤ 8 by omega))
    have g0 := h.dig 0
    have g1 := h.dig 1
    have g2 := h.dig 2
    have g3 := h.dig 3
    simp only [Nat.reducePow] at g0 g1 g2 g3
    have s1 := (show Dg c o (r - 1 + 1) d n by rw [show r - 1 + 1 = r by omega]; exact h.dg).steps (v := 48 + u % 10000 % 100 % 10) (by rw [show d - (r - 1) = d + 1 - r + 0 by omega, g0]; omega) (by omega) (i := o + (r - 1)) rfl
    have s2 := (show Dg _ o (r - 2 + 1) d n by rw [show r - 2 + 1 = r - 1 by omega]; exact s1).steps (v := 48 + u % 10000 % 100 / 10) (by rw [show d - (r - 2) = d + 1 - r + 1 by omega, g1]; omega) (by omega) (i := o + (r - 2)) rfl
    have s3 := (show Dg _ o (r - 3 + 1) d n by rw [show r - 3 + 1 = r - 2 by omega]; exact s2).steps (v := 48 + u % 10000 / 100 % 10) (by rw [show d - (r - 3) = d + 1 - r + 2 by omega, g2]; omega) (by omega) (i := o + (r - 3)) rfl
    have s4 := (show Dg _ o (r - 4 + 1) d n by rw [show r - 4 + 1 = r - 3 by omega]; exact s3).steps (v := 48 + u % 10000 / 100 / 10) (by rw [show d - (r - 4) = d + 1 - r + 3 by omega, g3]; omega) (by omega) (i := o + (r - 4)) rfl
    simp (disch := first | omega | (simp only [List.length_set]; omega)) only [↓JN_eq, CTL3, OPS3, cast0, reduceIte, Nat.reduceEqDiff, w33, w39, w43, e4, e5, e0, e12, n_rem, qyc, qw5, qw3, qx3, w_u32, Int.reduceToNat, sm0, sm1, ix, st0 h.get, h.st, st1]
    exact tail2 (cp := cp) (h.next h1 s4) (fun _ => ⟨_, rfl, rfl⟩) (by omega) (by simp only [↓JN_eq, CTL3, OPS3, cast0, reduceIte, Nat.reduceEqDiff, e0]) (by simp only [↓JN_eq, CTL3, OPS3, cast0, reduceIte, Nat.reduceEqDiff]) (by simp only [↓JN_eq, CTL3, OPS3, cast0, reduceIte, Nat.reduceEqDiff])
  · have e5 : ¬ (4 : Int) ≤ (r : Int) := by omega
    simp (disch := first | omega | (simp only [List.length_set]; omega)) only [↓JN_eq, CTL3, OPS3, cast0, reduceIte, Nat.reduceEqDiff, w33, w39, w43, e4, e5]
    exact tail2 h hH (by omega) e0 e4 e12
theorem qqh {H : AHeap} {b o d cp e : Nat} {c : List AV} {n : Nat} (hg : H.get b = some (OR c e)) (hc : c.length = 24) (ho : o + d + 1 ≤ 24) (hn : n < 10 ^ (d + 1)) (hn64 : n < 18446744073709551616) :
    CALLQ M qw [.slice b o (d + 1) cp, .int .u64 (n : Int)] H (TlQ H b o d e n) := by
  refine qda ?_
  have l1 : Op.lenSl [.slice b o (d + 1) cp] = some (.int .i64 ((d + 1 : Nat) : Int)) := rfl
  simp only [↓JN_eq, CTL3, OPS3, cast0, reduceIte, Nat.reduceEqDiff, xh, l1]
  refine LOOP3.intro (fun r E H' => ∃ k u c', E = [(0, .slice b o (d + 1) cp), (1, .int .u64 (u : Nat)), (4, .int .i64 (k : Nat))] ∧ r = k ∧ k ≤ d + 1 ∧ u = n / 10 ^ (d + 1 - k) ∧ u < 10 ^ k ∧ (H' = H ∧ k = d + 1 ∧ c' = c ∨ H' = H.set b (OR c' e)) ∧ Dg c' o k d n) ?_ ?_
  · exact ⟨_, _, ⟨d + 1, n, c, rfl, rfl, by omega, by simp, hn, .inl ⟨rfl, rfl, rfl⟩, hc, fun j h1 h2 => by omega⟩, by simp only [↓JN_eq, CTL3, OPS3, cast0, reduceIte, Nat.reduceEqDiff]⟩
  rintro r E H' ⟨k, u, c', rfl, rfl, hk, hu, hul, hH, hd⟩
  have hu64 : u < 18446744073709551616 := by rw [hu]; exact Nat.lt_of_le_of_lt (Nat.div_le_self ..) hn64
  have hg' : H'.get b = some (OR c' e) := by
    rcases hH with ⟨rfl, _, rfl⟩ | rfl
    · exact hg
    · exact qo ..
  have hset : ∀ c2, H'.set b (OR c2 e) = H.set b (OR c2 e) := fun c2 => by
    rcases hH with ⟨rfl, _, _⟩ | rfl
    · rfl
    · rw [qmm]
  have hcl := hd.1
  simp only [↓JN_eq, CTL3, OPS3, cast0, reduceIte, Nat.reduceEqDiff, xh]
  refine IF3.dec (fun hge => ?_) (fun hlt => ?_)
  · have hge : 8 ≤ r := by omega
    simp (disch := first | omega | (simp only [List.length_set]; omega)) only [↓JN_eq, CTL3, OPS3, cast0, reduceIte, Nat.reduceEqDiff, xh, n_rem, n_quo64, qyc, qw5, qw3, qx3, w_u32, Int.reduceToNat, sm0, sm1, ix, st0 hg', hset, st1, List.length_set, hcl]
    have hk8 : r = (r - 8) + 8 := by omega
    refine ⟨_, _, ⟨r - 8, u / 100000000, _, rfl, rfl, by omega, ?_, ?_, .inr rfl, ?_⟩, by simp only [↓JN_eq, CTL3, OPS3, cast0, reduceIte, Nat.reduceEqDiff], by omega⟩
    · have e8 : d + 1 - (r - 8) = (d + 1 - r) + 8 := by omega
      rw [hu, e8, Nat.pow_add, Nat.div_div_eq_div_mul]
    · have : 10 ^ r = 10 ^ (r - 8) * 100000000 := by conv => lhs; rw [hk8, Nat.pow_add]
      rw [this] at hul; exact Nat.div_lt_of_lt_mul (by rw [Nat.mul_comm]; exact hul)
    · have hdg : ∀ i, dig n (d + 1 - r + i) = 48 + u / 10 ^ i % 10 := fun i => by rw [← q3i, ← hu]; rfl
      have g0 := hdg 0
      have g1 := hdg 1
      have g2 := hdg 2
      have g3 := hdg 3
      have g4 := hdg 4
      have g5 := hdg 5
      have g6 := hdg 6
      have g7 := hdg 7
      simp only [Nat.reducePow] at g0 g1 g2 g3 g4 g5 g6 g7
      have s1 := (show Dg c' o (r - 1 + 1) d n by rw [show r - 1 + 1 = r by omega]; exact hd).steps (v := 48 + u % 100000000 % 10000 % 100 % 10) (by rw [show d - (r - 1) = d + 1 - r + 0 by omega, g0]; omega) (by omega) (i := o + (r - 1)) rfl
      have s2 := (show Dg _ o (r - 2 + 1) d n by rw [show r - 2 + 1 = r - 1 by omega]; exact s1).steps (v := 48 + u % 100000000 % 10000 % 100 / 10) (by rw [show d - (r - 2) = d + 1 - r + 1 by omega, g1]; omega) (by omega) (i := o + (r - 2)) rfl
      have s3 := (show Dg _ o (r - 3 + 1) d n by rw [show r - 3 + 1 = r - 2 by omega]; exact s2).steps (v := 48 + u % 100000000 % 10000 / 100 % 10) (by rw [show d - (r - 3) = d + 1 - r + 2 by omega, g2]; omega) (by omega) (i := o + (r - 3)) rfl
      have s4 := (show Dg _ o (r - 4 + 1) d n by rw [show r - 4 + 1 = r - 3 by omega]; exact s3).steps (v := 48 + u % 100000000 % 10000 / 100 / 10) (by rw [show d - (r - 4) = d + 1 - r + 3 by omega, g3]; omega) (by omega) (i := o + (r - 4)) rfl
      have s5 := (show Dg _ o (r - 5 + 1) d n by rw [show r - 5 + 1 = r - 4 by omega]; exact s4).steps (v := 48 + u % 100000000 / 10000 % 100 % 10) (by rw [show d - (r - 5) = d + 1 - r + 4 by omega, g4]; omega) (by omega) (i := o + (r - 5)) rfl
      have s6 := (show Dg _ o (r - 6 + 1) d n by rw [show r - 6 + 1 = r - 5 by omega]; exact s5).steps (v := 48 + u % 100000000 / 10000 % 100 / 10) (by rw [show d - (r - 6) = d + 1 - r + 5 by omega, g5]; omega) (by omega) (i := o + (r - 6)) rfl
      have s7 := (show Dg _ o (r - 7 + 1) d n by rw [show r - 7 + 1 = r - 6 by omega]; exact s6).steps (v := 48 + u % 100000000 / 10000 / 100 % 10) (by rw [show d - (r - 7) = d + 1 - r + 6 by omega, g6]; omega) (by omega) (i := o + (r - 7)) rfl
      have s8 := (show Dg _ o (r - 8 + 1) d n by rw [show r - 8 + 1 = r - 7 by omega]; exact s7).steps (v := 48 + u % 100000000 / 10000 / 100 / 10) (by rw [show d - (r - 8) = d + 1 - r + 7 by omega, g7]; omega) (by omega) (i := o + (r - 8)) rfl
      exact s8
  · have hlt : r < 8 := by omega
    have hu7 : u < 100000000 := Nat.lt_of_lt_of_le hul (Nat.pow_le_pow_right (by decide) (show r ≤ 8 by omega))
    obtain ⟨-, -, w31, -, -, -, -, -, -, -, -, -, -⟩ := xh M ⟨none, qw⟩
    simp only [↓JN_eq, CTL3, OPS3, cast0, reduceIte, Nat.reduceEqDiff, w31, w_u32 (show u < 4294967296 by omega)]
    refine tail4 (cp := cp) ⟨hu, hul, hk, ho, hg', hset, hd⟩ (fun h0 => ?_) hlt (by simp only [↓JN_eq, CTL3, OPS3, cast0, reduceIte, Nat.reduceEqDiff]) (by simp only [↓JN_eq, CTL3, OPS3, cast0, reduceIte, Nat.reduceEqDiff]) (by simp only [↓JN_eq, CTL3, OPS3, cast0, reduceIte, Nat.reduceEqDiff])
    rcases hH with ⟨_, h1, _⟩ | h1
    · omega
    · exact ⟨c', h1, rfl⟩
end Go.Am
namespace Go.Am
open Lang (dec)
variable {M : Mac} [MK M]
def l8 (x : Nat) : Nat := (qmj.getD x 0).toNat
theorem l8_ok : ∀ x : Fin 256, qmj[x.1]? = some (UInt8.ofNat (l8 x.1)) ∧ l8 x.1 ≤ 8 ∧ (1 ≤ x.1 → 1 ≤ l8 x.1 ∧ 2 ^ (l8 x.1 - 1) ≤ x.1) ∧ x.1 < 2 ^ l8 x.1 := by decide +kernel
theorem l8_ix {k : IntKind} {x : Nat} (h : x < 256) : Op.indexStr [.str qmj, .int k (x : Int)] = some (.int .u8 ((l8 x : Nat) : Int)) := by
  obtain ⟨h1, h2, _⟩ := l8_ok ⟨x, h⟩
  rw [qjs rfl h1, Tr.ofNat_lt (by dsimp at h2 ⊢; omega)]
def LenQ (n : Nat) (v : AV) : Prop := ∃ L : Nat, v = .int .i64 (L : Nat) ∧ 1 ≤ L ∧ L ≤ 64 ∧ 2 ^ (L - 1) ≤ n ∧ n < 2 ^ L
theorem len_end {base m n : Nat} (h0 : base ≤ 56) (h1 : n / 2 ^ base = m) (h2 : 1 ≤ m) (h3 : m < 256) : LenQ n (.int .i64 ((base : Int) + ((l8 m : Nat) : Int))) := by
  obtain ⟨q1, q2, q3, q4⟩ := l8_ok ⟨m, h3⟩
  obtain ⟨q3, q5⟩ := q3 h2
  dsimp at q2 q3 q4 q5
  refine ⟨base + l8 m, by rw [Int.natCast_add], by omega, by omega, ?_, ?_⟩
  · rw [show base + l8 m - 1 = (l8 m - 1) + base by omega, Nat.pow_add]
    rw [← h1] at q5 ⊢
    exact Nat.le_trans (Nat.mul_le_mul_right _ q5) (Nat.div_mul_le_self ..)
  · rw [Nat.add_comm, Nat.pow_add]
    exact (Nat.div_lt_iff_lt_mul (Nat.pow_pos (by decide))).1 (by rw [h1]; exact q4)
theorem shr32 (a : Nat) : Op.bin .shr [.int .u64 (a : Int), .int .u64 32] = some (.int .u64 ((a / 4294967296 : Nat) : Int)) := n_shr (k := .u64) (k' := .u64) (n := 32) (by decide)
theorem shr16 (a : Nat) : Op.bin .shr [.int .u64 (a : Int), .int .u64 16] = some (.int .u64 ((a / 65536 : Nat) : Int)) := n_shr (k := .u64) (k' := .u64) (n := 16) (by decide)
theorem shr8 (a : Nat) : Op.bin .shr [.int .u64 (a : Int), .int .u64 8] = some (.int .u64 ((a / 256 : Nat) : Int)) := n_shr (k := .u64) (k' := .u64) (n := 8) (by decide)
theorem shr18 (a : Nat) : Op.bin .shr [.int .i64 (a : Int), .int .u64 18] = some (.int .i64 ((a / 262144 : Nat) : Int)) := n_shr (k := .i64) (k' := .u64) (n := 18) (by decide)
theorem q3a {E : Env} {ctx : Ctx} {base m n : Nat} {H : AHeap} {Q : AV → AHeap → Prop} (h0 : base ≤ 56) (h1 : n / 2 ^ base = m) (h2 : 1 ≤ m) (h3 : m < 256) (e2 : lk E 2 = some (.int .i64 (base : Nat))) (e0 : lk E 0 = some (.int .u64 (m : Nat))) (hq : ∀ v, LenQ n v → Q v H) :
    W M ctx (xl 26) true (FIN3 M [.tmp 2] (RT3 Q)) E [] H := by
  have hl := (l8_ok ⟨m, h3⟩).2.1
  dsimp at hl
  simp (disch := first | omega | (simp only [List.length_set]; omega)) only [↓JN_eq, CTL3, OPS3, cast0, reduceIte, Nat.reduceEqDiff, qbd, e2, e0, w_u8, l8_ix, w_i64]
  have e : wrapI .i64 ((base : Int) + ((l8 m : Nat) : Int)) = (base : Int) + ((l8 m : Nat) : Int) := xm (by omega) (by omega)
  rw [e]; exact hq _ (len_end h0 h1 h2 h3)
theorem q2p {E : Env} {ctx : Ctx} {base m n : Nat} {H : AHeap} {Q : AV → AHeap → Prop} (h0 : base ≤ 48) (h1 : n / 2 ^ base = m) (h2 : 1 ≤ m) (h3 : m < 65536) (e2 : lk E 2 = some (.int .i64 (base : Nat))) (e0 : lk E 0 = some (.int .u64 (m : Nat))) (hq : ∀ v, LenQ n v → Q v H) :
    W M ctx (xl 18) true (FIN3 M [.tmp 2] (RT3 Q)) E [] H := by
  obtain ⟨-, -, -, w18, -⟩ := qbd M ctx
  have e8 : wrapI .i64 ((base : Int) + 8) = ((base + 8 : Nat) : Int) := by rw [xm (by omega) (by omega)]; omega
  by_cases h : 256 ≤ m
  · have e5 : (256 : Int) ≤ (m : Int) := by omega
    simp only [↓JN_eq, CTL3, OPS3, cast0, reduceIte, Nat.reduceEqDiff, w18, e0, e2, e5, shr8, e8]
    exact q3a (n := n) (base := base + 8) (m := m / 256) (by omega) (by rw [Nat.pow_add, ← Nat.div_div_eq_div_mul, h1]) (by omega) (by omega) (by simp only [↓JN_eq, CTL3, OPS3, cast0, reduceIte, Nat.reduceEqDiff]) (by simp only [↓JN_eq, CTL3, OPS3, cast0, reduceIte, Nat.reduceEqDiff]) hq
  · have e5 : ¬ (256 : Int) ≤ (m : Int) := by omega
    simp only [↓JN_eq, CTL3, OPS3, cast0, reduceIte, Nat.reduceEqDiff, w18, e0, e2, e5]
    exact q3a (n := n) (by omega) h1 h2 (by omega) e2 e0 hq
theorem q3b {E : Env} {ctx : Ctx} {base m n : Nat} {H : AHeap} {Q : AV → AHeap → Prop} (h0 : base ≤ 32) (h1 : n / 2 ^ base = m) (h2 : 1 ≤ m) (h3 : m < 4294967296) (e2 : lk E 2 = some (.int .i64 (base : Nat))) (e0 : lk E 0 = some (.int .u64 (m : Nat))) (hq : ∀ v, LenQ n v → Q v H) :
    W M ctx (xl 10) true (FIN3 M [.tmp 2] (RT3 Q)) E [] H := by
  obtain ⟨-, -, w10, -, -⟩ := qbd M ctx
  have e8 : wrapI .i64 ((base : Int) + 16) = ((base + 16 : Nat) : Int) := by rw [xm (by omega) (by omega)]; omega
  by_cases h : 65536 ≤ m
  · have e5 : (65536 : Int) ≤ (m : Int) := by omega
    simp only [↓JN_eq, CTL3, OPS3, cast0, reduceIte, Nat.reduceEqDiff, w10, e0, e2, e5, shr16, e8]
    exact q2p (n := n) (base := base + 16) (m := m / 65536) (by omega) (by rw [Nat.pow_add, ← Nat.div_div_eq_div_mul, h1]) (by omega) (by omega) (by simp only [↓JN_eq, CTL3, OPS3, cast0, reduceIte, Nat.reduceEqDiff]) (by simp only [↓JN_eq, CTL3, OPS3, cast0, reduceIte, Nat.reduceEqDiff]) hq
  · have e5 : ¬ (65536 : Int) ≤ (m : Int) := by omega
    simp only [↓JN_eq, CTL3, OPS3, cast0, reduceIte, Nat.reduceEqDiff, w10, e0, e2, e5]
    exact q2p (n := n) (by omega) h1 h2 (by omega) e2 e0 hq
theorem q0f {H : AHeap} {n : Nat} (h1 : 1 ≤ n) (h2 : n < 18446744073709551616) : CALLQ M jt [.int .u64 (n : Int)] H fun v H' => LenQ n v ∧ H' = H := by
  refine qm4 ?_
  obtain ⟨w0, w2, -, -, -⟩ := qbd M ⟨none, jt⟩
  by_cases h : 4294967296 ≤ n
  · have e5 : (4294967296 : Int) ≤ (n : Int) := by omega
    simp only [↓JN_eq, CTL3, OPS3, cast0, reduceIte, Nat.reduceEqDiff, w0, w2, e5, shr32]
    exact q3b (n := n) (base := 32) (m := n / 4294967296) (by omega) rfl (by omega) (by omega) rfl rfl fun v hv => ⟨hv, rfl⟩
  · have e5 : ¬ (4294967296 : Int) ≤ (n : Int) := by omega
    simp only [↓JN_eq, CTL3, OPS3, cast0, reduceIte, Nat.reduceEqDiff, w0, w2, e5]
    exact q3b (n := n) (base := 0) (m := n) (by omega) (by simp) h1 (by omega) rfl rfl fun v hv => ⟨hv, rfl⟩
def qL (L : Nat) : Nat := L * 78913 / 262144
theorem qL_ok : ∀ L : Fin 65, 1 ≤ L.1 → qL L.1 ≤ 19 ∧ 2 ^ L.1 ≤ 10 ^ (qL L.1 + 1) ∧ (1 ≤ qL L.1 → 10 ^ (qL L.1 - 1) ≤ 2 ^ (L.1 - 1)) := by decide +kernel
theorem q0h {H : AHeap} {L : Nat} (h : L ≤ 64) : CALLQ M xy [.int .i64 (L : Int)] H fun v H' => v = .int .i64 ((qL L : Nat) : Int) ∧ H' = H := by
  refine qel ?_
  have e : wrapI .i64 ((L : Int) * 78913) = ((L * 78913 : Nat) : Int) := by rw [xm (by omega) (by omega)]; omega
  simp only [↓JN_eq, CTL3, OPS3, cast0, reduceIte, Nat.reduceEqDiff, qet, e, shr18]
  rfl
theorem qsj {H : AHeap} {q : Bool} : CALLQ M xz [.bool q] H fun v H' => v = .int .i64 ((cond q 1 0 : Nat) : Int) ∧ H' = H := by
  refine qe3 ?_
  cases q <;> (simp only [↓JN_eq, CTL3, OPS3, cast0, reduceIte, Nat.reduceEqDiff, qer]; try rfl)
def PowT (H : AHeap) : Prop := H.cellsAt xg = some ((List.range 20).map fun k : Nat => AV.int .u64 ((10 ^ k : Nat) : Int))
theorem PowT.at {H : AHeap} (h : PowT H) {k : Nat} (hk : k ≤ 19) : Op.indexArr 20 1 [.ptr xg 0, .int .i64 (k : Int)] = some (.ptr xg k) ∧ Op.load1 [.ptr xg k] H = some (.int .u64 ((10 ^ k : Nat) : Int)) := by
  have e : 0 + k * 1 = k := by omega
  refine ⟨by rw [qmw rfl (show k < 20 by omega), e], ?_⟩
  rw [kx h, List.getElem?_map, List.getElem?_range (by omega)]; rfl
theorem qj5 {H : AHeap} {n : Nat} (hp : PowT H) (h1 : 1 ≤ n) (h2 : n < 18446744073709551616) : CALLQ M xp [.int .u64 (n : Int)] H fun v H' => ∃ d : Nat, v = .int .i64 ((d + 1 : Nat) : Int) ∧ H' = H ∧ d ≤ 19 ∧ n < 10 ^ (d + 1) ∧ 10 ^ d ≤ n := by
  refine qe0 ?_
  simp only [↓JN_eq, CTL3, OPS3, cast0, reduceIte, Nat.reduceEqDiff, zp]
  refine C3.q (q0f (M := M) h1 h2) fun v H' ⟨⟨L, hv, l1, l2, l3, l4⟩, hH⟩ => ?_
  subst hv; subst hH
  refine C3.q (q0h (M := M) l2) fun v H' ⟨hv, hH⟩ => ?_
  subst hv; subst hH
  obtain ⟨q1, q2, q3⟩ := qL_ok ⟨L, by omega⟩ l1
  dsimp at q1 q2 q3
  generalize qL L = q at q1 q2 q3
  obtain ⟨n1, n2⟩ := hp.at q1
  have hlt : n < 10 ^ (q + 1) := Nat.lt_of_lt_of_le l4 q2
  by_cases h : 10 ^ q ≤ n
  · have e : ((10 ^ q : Nat) : Int) ≤ (n : Int) := by exact_mod_cast h
    simp only [↓JN_eq, CTL3, OPS3, cast0, reduceIte, Nat.reduceEqDiff, zp, n1, n2, e]
    refine C3.q (qsj (M := M)) fun v H' ⟨hv, hH⟩ => ?_
    subst hv; subst hH
    have ew : wrapI .i64 ((q : Int) + ((1 : Nat) : Int)) = ((q + 1 : Nat) : Int) := by rw [xm (by omega) (by omega)]; omega
    simp only [↓JN_eq, CTL3, OPS3, cast0, reduceIte, Nat.reduceEqDiff, zp, ew]
    refine ⟨q, rfl, ?_, hlt, h⟩
    have : 10 ^ q < 10 ^ 20 := Nat.lt_of_le_of_lt h (Nat.lt_trans h2 (by decide))
    have := (Nat.pow_lt_pow_iff_right (a := 10) (by decide)).1 this
    omega
  · have e : ¬ ((10 ^ q : Nat) : Int) ≤ (n : Int) := by exact_mod_cast h
    simp only [↓JN_eq, CTL3, OPS3, cast0, reduceIte, Nat.reduceEqDiff, zp, n1, n2, e]
    refine C3.q (qsj (M := M)) fun v H' ⟨hv, hH⟩ => ?_
    subst hv; subst hH
    have q0 : 1 ≤ q := by
      rcases Nat.eq_zero_or_pos q with rfl | q0
      · simp at h; omega
      · exact q0
    have ew : wrapI .i64 ((q : Int) + 0) = ((q - 1 + 1 : Nat) : Int) := by rw [xm (by omega) (by omega)]; omega
    simp only [↓JN_eq, CTL3, OPS3, cast0, reduceIte, Nat.reduceEqDiff, zp, ew]
    exact ⟨q - 1, rfl, by omega, by rw [show q - 1 + 1 = q by omega]; omega, Nat.le_trans (q3 q0) l3⟩
theorem qso {H : AHeap} {n : Nat} (h : n < 100) : CALLQ M x5 [.int .i64 (n : Int)] H fun v H' => v = .str (dec n) ∧ H' = H := by
  refine qhb ?_
  by_cases h1 : n < 10
  · have e : (n : Int) < 10 := by omega
    have key : ∀ i : Fin 10, ((qo9.take (i.1 + 1)).drop i.1) = [UInt8.ofNat (48 + i.1)] ∧ i.1 + 1 ≤ qo9.length := by decide +kernel
    obtain ⟨k1, k2⟩ := key ⟨n, h1⟩
    dsimp only at k1 k2
    simp (disch := first | omega | (simp only [List.length_set]; omega)) only [↓JN_eq, CTL3, OPS3, cast0, reduceIte, Nat.reduceEqDiff, qb4, e, w_inc64]
    rw [qqq (a := n) (b := n + 1) (by omega) k2, k1]
    simp only [↓JN_eq, CTL3, OPS3, cast0, reduceIte, Nat.reduceEqDiff]
    rw [Lang.dec_lt h1]
  · have e : ¬ (n : Int) < 10 := by omega
    have key : ∀ i : Fin 100, ((z9.take (i.1 * 2 + 2)).drop (i.1 * 2)) = [UInt8.ofNat (48 + i.1 / 10), UInt8.ofNat (48 + i.1 % 10)] ∧ i.1 * 2 + 2 ≤ z9.length := by decide +kernel
    obtain ⟨k1, k2⟩ := key ⟨n, h⟩
    dsimp only at k1 k2
    have e2 : wrapI .i64 ((n : Int) * 2) = ((n * 2 : Nat) : Int) := by rw [xm (by omega) (by omega)]; omega
    have e3 : wrapI .i64 (((n * 2 : Nat) : Int) + 2) = ((n * 2 + 2 : Nat) : Int) := by rw [xm (by omega) (by omega)]; omega
    simp only [↓JN_eq, CTL3, OPS3, cast0, reduceIte, Nat.reduceEqDiff, qb4, e, e2, e3]
    rw [qqq (a := n * 2) (b := n * 2 + 2) (by omega) k2, k1]
    simp only [↓JN_eq, CTL3, OPS3, cast0, reduceIte, Nat.reduceEqDiff]
    rw [Lang.dec_ge (by omega), Lang.dec_lt (show n / 10 < 10 by omega)]; rfl
theorem qv6 {H : AHeap} {b o d cp e n : Nat} {c : List AV} (hg : H.get b = some (OR c e)) (hd : Dg c o 0 d n) (hn : n < 10 ^ (d + 1)) (hn' : d = 0 ∨ 10 ^ d ≤ n) (ho : o + d + 1 ≤ 24) : Op.strOfBytes [.slice b o (d + 1) cp] H = some (.str (dec n)) := by
  have hl := qsv d n hn hn'
  have hc := hd.1
  have key : (c.drop o).take (d + 1) = (dec n).map fun c => AV.int .u8 c.toNat := by
    refine List.ext_getElem? fun j => ?_
    by_cases hj : j ≤ d
    · rw [List.getElem?_take, if_pos (by omega), List.getElem?_drop, hd.2 j (Nat.zero_le _) hj, List.getElem?_map, q3k d n hn hn' j hj]
      show _ = some (AV.int .u8 (((UInt8.ofNat (dig n (d - j))).toNat : Nat) : Int))
      rw [Tr.ofNat_lt (by unfold dig; omega)]
    · rw [List.getElem?_eq_none (by rw [List.length_take]; omega), List.getElem?_eq_none (by rw [List.length_map]; omega)]
  have hs : firstCells H 1 (d + 1) (.slice b o (d + 1) cp) = some ((dec n).map fun c => AV.int .u8 c.toNat) := by
    have : Nat.beq (d + 1) 0 = false := yf (by omega)
    simp only [firstCells, this, cond_false, Nat.mul_one]
    rw [qup (x4 hg) (by omega), key]
  have hv : lenV (.slice b o (d + 1) cp) = some (d + 1) := rfl
  simp only [Op.strOfBytes, hv, Option.bind_some, hs, qfn]
theorem qvy {H : AHeap} {n : Nat} (hp : PowT H) (hl : xg < H.next) (hn : n < 18446744073709551616) : CALLQ M xu [.int .u64 (n : Int), .int .i64 10] H fun v H' => v = .str (dec n) ∧ Fr Em H H' := by
  refine qd5 ?_
  by_cases h1 : n < 100
  · have e : (n : Int) < 100 := by omega
    simp (maxSteps := 4000000) (disch := first | (simp only [qb, qd]; done) | (simp only [qb, qd]; omega) | omega) only [↓JN_eq, CTL3, OPS3, MEM3, List.length_cons, List.length_nil, List.take_zero, List.take_succ_cons, List.drop_zero, List.drop_succ_cons, List.take_nil, List.drop_nil, Nat.reduceAdd, Nat.reduceSub, Nat.reduceLeDiff, Int.reduceLT, Int.reduceLE, Int.reduceEq, cast0, reduceIte, Nat.reduceEqDiff, jn, e]
    simp (disch := first | omega | (simp only [List.length_set]; omega)) only [↓JN_eq, CTL3, OPS3, cast0, reduceIte, Nat.reduceEqDiff, w_i64]
    refine C3.q (qso (M := M) h1) fun v H' ⟨hv, hH⟩ => ?_
    subst hv; subst hH
    simp only [↓JN_eq, CTL3, OPS3, cast0, reduceIte, Nat.reduceEqDiff]
    exact Fr.refl _
  · have e : ¬ (n : Int) < 100 := by omega
    simp (maxSteps := 4000000) (disch := first | (simp only [qb, qd]; done) | (simp only [qb, qd]; omega) | omega) only [↓JN_eq, CTL3, OPS3, MEM3, List.length_cons, List.length_nil, List.take_zero, List.take_succ_cons, List.drop_zero, List.drop_succ_cons, List.take_nil, List.drop_nil, Nat.reduceAdd, Nat.reduceSub, Nat.reduceLeDiff, Int.reduceLT, Int.reduceLE, Int.reduceEq, cast0, reduceIte, Nat.reduceEqDiff, jn, e]
    have hf1 : Fr Em H (H.alloc (.row (List.replicate 24 (.int .u8 0)) T__97 (0, 0) true)) := (Fr.refl H).alloc _
    have hp1 : PowT (H.alloc (.row (List.replicate 24 (.int .u8 0)) T__97 (0, 0) true)) := (hf1.cells hl (fun h => h)).trans hp
    refine C3.q (qj5 (M := M) hp1 (by omega) hn) fun v H' ⟨d, hv, hH, d1, d2, d3⟩ => ?_
    subst hv; subst hH
    have e1 : Op.sliceArr 24 1 [none, some 0, none] [.ptr H.next 0, .int .i64 ((d + 1 : Nat) : Int)] = some (.slice H.next 0 (d + 1) 24) := qxa (by omega) (by decide)
    simp only [↓JN_eq, CTL3, OPS3, cast0, reduceIte, Nat.reduceEqDiff, jn, e1]
    refine C3.q (qqh (M := M) (qk ..) (by simp) (by omega) d2 hn) fun v H' ⟨c', hH, hd⟩ => ?_
    subst hH
    simp only [↓JN_eq, CTL3, OPS3, cast0, reduceIte, Nat.reduceEqDiff, jn, e1, qv6 (qo ..) hd d2 (.inr d3) (by omega)]
    first | exact ⟨rfl, hf1.set (.inr (Nat.le_refl _)) _⟩ | exact hf1.set (.inr (Nat.le_refl _)) _
theorem qv9 {H : AHeap} {n : Nat} (hp : PowT H) (hl : xg < H.next) (hn : n < 9223372036854775808) : CALLQ M x1 [.int .i64 (n : Int), .int .i64 10] H fun v H' => v = .str (dec n) ∧ Fr Em H H' := by
  refine qe2 ?_
  have e0 : (0 : Int) ≤ (n : Int) := by omega
  by_cases h1 : n < 100
  · have e : (n : Int) < 100 := by omega
    simp (maxSteps := 4000000) (disch := first | (simp only [qb, qd]; done) | (simp only [qb, qd]; omega) | omega) only [↓JN_eq, CTL3, OPS3, MEM3, List.length_cons, List.length_nil, List.take_zero, List.take_succ_cons, List.drop_zero, List.drop_succ_cons, List.take_nil, List.drop_nil, Nat.reduceAdd, Nat.reduceSub, Nat.reduceLeDiff, Int.reduceLT, Int.reduceLE, Int.reduceEq, cast0, reduceIte, Nat.reduceEqDiff, jy, e0, e]
    refine C3.q (qso (M := M) h1) fun v H' ⟨hv, hH⟩ => ?_
    subst hv; subst hH
    simp only [↓JN_eq, CTL3, OPS3, cast0, reduceIte, Nat.reduceEqDiff]
    exact Fr.refl _
  · have e : ¬ (n : Int) < 100 := by omega
    have e2 : ¬ (n : Int) < 0 := by omega
    have hf1 : Fr Em H (H.alloc (.row (List.replicate 24 (.int .u8 0)) T__97 (0, 0) true)) := (Fr.refl H).alloc _
    have hp1 : PowT (H.alloc (.row (List.replicate 24 (.int .u8 0)) T__97 (0, 0) true)) := (hf1.cells hl (fun h => h)).trans hp
    simp only [↓JN_eq, CTL3, OPS3, cast0, reduceIte, Nat.reduceEqDiff, jy, e0, e, e2, w_u64 (show n < 18446744073709551616 by omega)]
    refine C3.q (qj5 (M := M) hp1 (by omega) (by omega)) fun v H' ⟨d, hv, hH, d1, d2, d3⟩ => ?_
    subst hv; subst hH
    have ew : wrapI .i64 (1 + ((d + 1 : Nat) : Int)) = ((d + 2 : Nat) : Int) := by rw [xm (by omega) (by omega)]; omega
    have e1 : Op.sliceArr 24 1 [some 0, some 1, none] [.ptr H.next 0, .int .i64 1, .int .i64 ((d + 2 : Nat) : Int)] = some (.slice H.next 1 (d + 1) 23) := qxi (a := 1) (by omega) (by omega) (by decide)
    simp only [↓JN_eq, CTL3, OPS3, cast0, reduceIte, Nat.reduceEqDiff, jy, ew, e1]
    refine C3.q (qqh (M := M) (qk ..) (by simp) (by omega) d2 (by omega)) fun v H' ⟨c', hH, hd⟩ => ?_
    subst hH
    simp only [↓JN_eq, CTL3, OPS3, cast0, reduceIte, Nat.reduceEqDiff, jy, e2, ew, e1, qv6 (qo ..) hd d2 (.inr d3) (by omega)]
    first | exact ⟨rfl, hf1.set (.inr (Nat.le_refl _)) _⟩ | exact hf1.set (.inr (Nat.le_refl _)) _
theorem qq1 {H : AHeap} {n : Nat} (hp : PowT H) (hl : xg < H.next) (hn : n < 18446744073709551616) : CALLQ M zd [.int .u64 (n : Int), .int .i64 10] H fun v H' => v = .str (dec n) ∧ Fr Em H H' := by
  refine qj1 ?_
  simp only [↓JN_eq, CTL3, OPS3, cast0, reduceIte, Nat.reduceEqDiff, qec]
  refine C3.q (qvy (M := M) hp hl hn) fun v H' ⟨hv, hf⟩ => ?_
  subst hv
  simp only [↓JN_eq, CTL3, OPS3, cast0, reduceIte, Nat.reduceEqDiff, qec]
  exact hf
theorem q2u {H : AHeap} {n : Nat} (hp : PowT H) (hl : xg < H.next) (hn : n < 9223372036854775808) : CALLQ M kq [.int .i64 (n : Int)] H fun v H' => v = .str (dec n) ∧ Fr Em H H' := by
  refine qrc ?_
  simp only [↓JN_eq, CTL3, OPS3, cast0, reduceIte, Nat.reduceEqDiff, qkr]
  refine C3.q (R := fun v H' => v = .str (dec n) ∧ Fr Em H H') (qhr ?_) fun v H' ⟨hv, hf⟩ => ?_
  · simp only [↓JN_eq, CTL3, OPS3, cast0, reduceIte, Nat.reduceEqDiff, qcb]
    refine C3.q (qv9 (M := M) hp hl hn) fun v H' ⟨hv, hf⟩ => ?_
    subst hv
    simp only [↓JN_eq, CTL3, OPS3, cast0, reduceIte, Nat.reduceEqDiff, qcb]
    exact hf
  · subst hv
    simp only [↓JN_eq, CTL3, OPS3, cast0, reduceIte, Nat.reduceEqDiff, qkr]
    exact hf
theorem qr2 {H : AHeap} {t : Int} (hp : PowT H) (hl : xg < H.next) (h0 : 0 ≤ t) (h1 : t < 9223372036854775808) : CALLQ M kq [.int .i64 t] H fun v H' => v = .str (dec t.toNat) ∧ Fr Em H H' := by
  have := q2u (M := M) (n := t.toNat) hp hl (by omega)
  rwa [show ((t.toNat : Nat) : Int) = t by omega] at this
theorem qlf {H : AHeap} {t : Int} (hp : PowT H) (hl : xg < H.next) (h0 : 0 ≤ t) (h1 : t < 18446744073709551616) : CALLQ M zd [.int .u64 t, .int .i64 10] H fun v H' => v = .str (dec t.toNat) ∧ Fr Em H H' := by
  have := qq1 (M := M) (n := t.toNat) hp hl (by omega)
  rwa [show ((t.toNat : Nat) : Int) = t by omega] at this
end Go.Am
namespace Go.Am
open Go.Proofs
variable {M : Mac} [MK M]
abbrev NewB := New encB zq 1
theorem lies_B : liesB Tryd.prog 97 ze 2 0 = true := by kernel_rfl
theorem cast_B {H : AHeap} {b : Nat} {x y : AV} (h : H.get b = some (OR [x, y] ze)) : Op.castPtr (liesB Tryd.prog 97) [.ptr b 0] H = some (.ptr b 0) := by
  have h2 : [x, y].length = 2 := rfl
  simp only [Op.castPtr, h]
  rw [show ([x, y] : List AV).length = 2 from rfl, lies_B]; rfl
theorem eq_np (H : AHeap) : Op.eq .ptr false [.nilp, .nilp] H = some (.bool true) := rfl
theorem eq_pn (H : AHeap) (b o : Nat) : Op.eq .ptr false [.ptr b o, .nilp] H = some (.bool false) := rfl
theorem ne_pp (H : AHeap) (b o : Nat) : Op.eq .ptr true [.ptr b o, .ptr b o] H = some (.bool false) := by simp [Op.eq, eqV]
theorem noEsc (x : AV) : Op.noEscape [x] = some x := rfl
theorem qkh {H : AHeap} {b : Nat} {p buf : AV} (h : H.get b = some (OR [p, buf] ze)) (hp : p = .nilp ∨ p = .ptr b 0) :
    CALLQ M xq [.ptr b 0] H fun v H' => H'.get b = some (OR [.ptr b 0, buf] ze) ∧ Fr (On b) H H' := by
  refine qfs ?_
  rcases hp with rfl | rfl
  · simp (maxSteps := 4000000) (disch := first | (simp only [qb, qd]; done) | (simp only [qb, qd]; omega) | omega) only [↓JN_eq, CTL3, OPS3, MEM3, List.length_cons, List.length_nil, List.take_zero, List.take_succ_cons, List.drop_zero, List.drop_succ_cons, List.take_nil, List.drop_nil, Nat.reduceAdd, Nat.reduceSub, Nat.reduceLeDiff, Int.reduceLT, Int.reduceLE, Int.reduceEq, cast0, reduceIte, Nat.reduceEqDiff, qa8, h, eq_np, cast_B h, noEsc]
    exact (Fr.refl H).set (W := On b) (.inl rfl) _
  · simp (maxSteps := 4000000) (disch := first | (simp only [qb, qd]; done) | (simp only [qb, qd]; omega) | omega) only [↓JN_eq, CTL3, OPS3, MEM3, List.length_cons, List.length_nil, List.take_zero, List.take_succ_cons, List.drop_zero, List.drop_succ_cons, List.take_nil, List.drop_nil, Nat.reduceAdd, Nat.reduceSub, Nat.reduceLeDiff, Int.reduceLT, Int.reduceLE, Int.reduceEq, cast0, reduceIte, Nat.reduceEqDiff, qa8, h, eq_pn, ne_pp]
    exact Fr.refl _
structure BS (H0 H : AHeap) (b : Nat) (xs : List UInt8) : Prop where
  row : ∃ p buf, H.get b = some (OR [p, buf] ze) ∧ (p = .nilp ∨ p = .ptr b 0) ∧ NewB H0 H buf xs ∧ ¬ OnS buf b
  lo : H0.next ≤ b
  hi : b < H.next
theorem BS.fr {H0 H H' : AHeap} {b : Nat} {xs : List UInt8} (h : BS H0 H b xs) (f : Fr Em H H') : BS H0 H' b xs := by
  obtain ⟨⟨p, buf, h1, h2, h3, h4⟩, lo, hi⟩ := h
  exact ⟨⟨p, buf, by rw [f.keep b hi id, h1], h2, h3.em f, h4⟩, lo, Nat.lt_of_lt_of_le hi f.next⟩
theorem qkv {H0 H : AHeap} {b : Nat} {xs s : List UInt8} (h : BS H0 H b xs) (hl : xs.length + s.length ≤ 140737488355328) :
    CALLQ M xe [.ptr b 0, .str s] H fun v H' => BS H0 H' b (xs ++ s) ∧ Fr Em H0 H' := by
  obtain ⟨⟨p, buf, h1, h2, h3, h4⟩, lo, hi⟩ := h
  refine qd2 ?_
  simp only [↓JN_eq, CTL3, OPS3, cast0, reduceIte, Nat.reduceEqDiff, k9]
  refine C3.q (qkh (M := M) h1 h2) fun v H1 ⟨g1, f1⟩ => ?_
  have h3' : NewB H0 H1 buf xs := ⟨Own.fr h3.own f1 fun x hx (q : x = b) => h4 (by rw [← q]; exact hx), h3.fr.trans f1 fun x (q : x = b) => .inr (by omega), h3.fresh⟩
  simp (maxSteps := 4000000) (disch := first | (simp only [qb, qd]; done) | (simp only [qb, qd]; omega) | omega) only [↓JN_eq, CTL3, OPS3, MEM3, List.length_cons, List.length_nil, List.take_zero, List.take_succ_cons, List.drop_zero, List.drop_succ_cons, List.take_nil, List.drop_nil, Nat.reduceAdd, Nat.reduceSub, Nat.reduceLeDiff, Int.reduceLT, Int.reduceLE, Int.reduceEq, cast0, reduceIte, Nat.reduceEqDiff, k9, g1]
  refine qzo h3' hl fun v' H2 hv' hf hfr => ?_
  have g2 : H2.get b = some (OR [.ptr b 0, buf] ze) := by rw [hf.keep b (Nat.lt_of_lt_of_le hi f1.next) h4, g1]
  have hone : oneCell v' = true := Sl.one hv'.sl
  have hn : ¬ OnS v' b := fun q => (hfr b q).elim h4 fun r => by have := f1.next; omega
  have hcl : AV.cells v' = [v'] := by cases v' <;> first | rfl | cases hone
  simp (maxSteps := 4000000) (disch := first | (simp only [qb, qd]; done) | (simp only [qb, qd]; omega) | omega) only [↓JN_eq, CTL3, OPS3, MEM3, List.length_cons, List.length_nil, List.take_zero, List.take_succ_cons, List.drop_zero, List.drop_succ_cons, List.take_nil, List.drop_nil, Nat.reduceAdd, Nat.reduceSub, Nat.reduceLeDiff, Int.reduceLT, Int.reduceLE, Int.reduceEq, cast0, reduceIte, Nat.reduceEqDiff, k9, g2, hcl, hone]
  have hv2 := hv'.setOff (b := b) lo hn (OR [.ptr b 0, v'] ze)
  exact ⟨⟨⟨_, _, qo .., .inr rfl, hv2, hn⟩, lo, by rw [qbs]; have := f1.next; have := hf.next; omega⟩, hv2.fr⟩
theorem makeNZ {n : Nat} (h : n ≤ 140737488355328) : Op.makeNoZero zq [.int .i64 (n : Int)] = some (.grown 0 1 [] zq (0, 0), Op.gsliceTo 0 n) := by
  have e1 : leI 0 (n : Int) = true := by rw [qg8]; simp
  have e2 : leI (n : Int) 140737488355328 = true := by rw [qg8]; simp; omega
  simp only [Op.makeNoZero, e1, e2, Bool.and_self, cond_true, Int.toNat_natCast]
theorem q1x {H0 H : AHeap} {b n : Nat} (h : H.get b = some (OR [.nilp, .nils] ze)) (lo : H0.next ≤ b) (hi : b < H.next) (hf0 : Fr Em H0 H) (hn : n ≤ 140737488355328) :
    CALLQ M zn [.ptr b 0, .int .i64 (n : Int)] H fun v H' => BS H0 H' b [] ∧ Fr Em H0 H' := by
  refine qic ?_
  simp only [↓JN_eq, CTL3, OPS3, cast0, reduceIte, Nat.reduceEqDiff, yy]
  refine C3.q (qkh (M := M) h (.inl rfl)) fun v H1 ⟨g1, f1⟩ => ?_
  have ef1 : Fr Em H0 H1 := hf0.trans f1 fun x (q : x = b) => .inr (by omega)
  have e0 : ¬ (n : Int) < 0 := by omega
  have c0 : Op.cap [.nils] = some (.int .i64 0) := rfl
  have l0 : Op.lenSl [.nils] = some (.int .i64 0) := rfl
  have w0 : wrapI .i64 (0 - 0) = 0 := rfl
  have hi1 : b < H1.next := Nat.lt_of_lt_of_le hi f1.next
  by_cases hz : (0 : Int) < (n : Int)
  · simp (maxSteps := 4000000) (disch := first | (simp only [qb, qd]; done) | (simp only [qb, qd]; omega) | omega) only [↓JN_eq, CTL3, OPS3, MEM3, List.length_cons, List.length_nil, List.take_zero, List.take_succ_cons, List.drop_zero, List.drop_succ_cons, List.take_nil, List.drop_nil, Nat.reduceAdd, Nat.reduceSub, Nat.reduceLeDiff, Int.reduceLT, Int.reduceLE, Int.reduceEq, cast0, reduceIte, Nat.reduceEqDiff, yy, e0, g1, c0, l0, w0, hz]
    refine C3.q (R := fun v H' => BS H0 H' b [] ∧ Fr Em H0 H') (qid ?_) fun v H' ⟨hb, hf⟩ => ?_
    · have w1 : wrapI .i64 (2 * 0) = 0 := rfl
      have w2 : wrapI .i64 (0 + (n : Int)) = (n : Int) := by rw [xm (by omega) (by omega)]; omega
      have s0 : Op.sliceSl 1 [none, some 0, none] [.gslice H1.next 0 0 1 0 n, .int .i64 0] = some (.gslice H1.next 0 0 1 0 0) := rfl
      have k0 : Op.gsliceTo 0 n H1.next = .gslice H1.next 0 0 1 0 n := rfl
      have cp : ∀ H, Op.copy 1 [.gslice H1.next 0 0 1 0 0, .nils] H = some (.int .i64 0, H) := fun H => rfl
      have hcl : AV.cells (.gslice H1.next 0 0 1 0 0) = [.gslice H1.next 0 0 1 0 0] := rfl
      have hone : oneCell (.gslice H1.next 0 0 1 0 0) = true := rfl
      simp (maxSteps := 4000000) (disch := first | (simp only [qb, qd]; done) | (simp only [qb, qd]; omega) | omega) only [↓JN_eq, CTL3, OPS3, MEM3, List.length_cons, List.length_nil, List.take_zero, List.take_succ_cons, List.drop_zero, List.drop_succ_cons, List.take_nil, List.drop_nil, Nat.reduceAdd, Nat.reduceSub, Nat.reduceLeDiff, Int.reduceLT, Int.reduceLE, Int.reduceEq, cast0, reduceIte, Nat.reduceEqDiff, qif, g1, c0, l0, w1, w2, makeNZ hn, k0, s0, cp, hcl, hone]
      have hnew : NewB H0 (H1.alloc (.grown 0 1 [] zq (0, 0))) (.gslice H1.next 0 0 1 0 0) [] :=
        ⟨⟨rfl, .inr ⟨H1.next, rfl, by rw [xf]; omega, qk ..⟩⟩, ef1.alloc _, fun x hx => by rw [hx.2]; exact ef1.next⟩
      have hnb : ¬ OnS (.gslice H1.next 0 0 1 0 0) b := fun q => by have : b = H1.next := q.2; omega
      have hv2 := hnew.setOff (b := b) lo hnb (OR [.ptr b 0, .gslice H1.next 0 0 1 0 0] ze)
      exact ⟨⟨⟨_, _, qo .., .inr rfl, hv2, hnb⟩, lo, by rw [qbs, xf]; omega⟩, hv2.fr⟩
    · simp only [↓JN_eq, CTL3, OPS3, cast0, reduceIte, Nat.reduceEqDiff, yy]
      exact ⟨hb, hf⟩
  · simp (maxSteps := 4000000) (disch := first | (simp only [qb, qd]; done) | (simp only [qb, qd]; omega) | omega) only [↓JN_eq, CTL3, OPS3, MEM3, List.length_cons, List.length_nil, List.take_zero, List.take_succ_cons, List.drop_zero, List.drop_succ_cons, List.take_nil, List.drop_nil, Nat.reduceAdd, Nat.reduceSub, Nat.reduceLeDiff, Int.reduceLT, Int.reduceLE, Int.reduceEq, cast0, reduceIte, Nat.reduceEqDiff, yy, e0, g1, c0, l0, w0, hz]
    exact ⟨⟨⟨_, _, g1, .inr rfl, ⟨Own.nil .., ef1, fun x hx => (hx.1 rfl).elim⟩, fun q => q.1 rfl⟩, lo, hi1⟩, ef1⟩
theorem qx8 {H0 H : AHeap} {b : Nat} {xs : List UInt8} (h : BS H0 H b xs) (hx : xs ≠ []) (hl : xs.length ≤ 140737488355328) :
    CALLQ M zg [.ptr b 0] H fun v H' => v = .str xs ∧ Fr Em H0 H' := by
  obtain ⟨⟨p, buf, h1, h2, h3, h4⟩, lo, hi⟩ := h
  refine qgq ?_
  have hlen : 0 < xs.length := List.length_pos_iff.2 hx
  obtain ⟨hc, ⟨q, _⟩ | ⟨d, rfl, q1, q2⟩⟩ := h3.own
  · omega
  have e1 : Op.sliceData [.gslice d 0 xs.length 1 0 xs.length] = some (.ptr d 0) := by
    show cond (Nat.blt 0 xs.length) (some (AV.ptr d (0 * 1))) none = _
    rw [qcd hlen]; rfl
  have e2 : Op.lenSl [.gslice d 0 xs.length 1 0 xs.length] = some (.int .i64 (xs.length : Nat)) := rfl
  have e3 : Op.strOfPtr zq [.ptr d 0, .int .i64 (xs.length : Nat)] H = some (.str xs, H.set d (.grown xs.length 1 (xs.flatMap encB) zq (0, xs.length))) := by
    have k1 : eqI (xs.length : Int) 0 = false := by rw [qee]; simp; omega
    have k2 : (ltI (xs.length : Int) 0 || ltI 140737488355328 (xs.length : Int)) = false := by rw [qfj, qfj]; simp; omega
    have k3 : ∀ n, Nat.beq n n = true := fun n => by simp
    have k4 : takeAt (xs.flatMap encB) 0 xs.length = some (xs.map fun c => AV.int .u8 c.toNat) := by
      rw [z8, qgv, if_pos (by simp), List.drop_zero, List.take_of_length_le (by simp)]
    have k5 : Op.fzJoin (0, 0) 0 xs.length = (0, xs.length) := by
      show cond (Nat.beq 0 0) _ _ = _
      rw [k3]; simp
    simp only [Op.strOfPtr, k1, k2, cond_false, q2, k3, yj (Nat.le_refl 0), Bool.and_self, cond_true, Int.toNat_natCast, k4, Option.bind_some, qfn, k5]
  simp (maxSteps := 4000000) (disch := first | (simp only [qb, qd]; done) | (simp only [qb, qd]; omega) | omega) only [↓JN_eq, CTL3, OPS3, MEM3, List.length_cons, List.length_nil, List.take_zero, List.take_succ_cons, List.drop_zero, List.drop_succ_cons, List.take_nil, List.drop_nil, Nat.reduceAdd, Nat.reduceSub, Nat.reduceLeDiff, Int.reduceLT, Int.reduceLE, Int.reduceEq, cast0, reduceIte, Nat.reduceEqDiff, qgs, h1, e1, e2, e3]
  have := h3.fr.set (.inr (h3.fresh d ⟨by simp, rfl⟩)) (.grown xs.length 1 (xs.flatMap encB) zq (0, xs.length))
  first | exact ⟨rfl, this⟩ | exact this
def joinS (sep : List UInt8) : List (List UInt8) → List UInt8
  | [] => []
  | w :: ws => w ++ ws.flatMap fun x => sep ++ x
def totL (ws : List (List UInt8)) : Nat := (ws.flatMap fun x => x).length
theorem qu8 {ws : List (List UInt8)} {i : Nat} {w : List UInt8} (h : ws[i]? = some w) : totL (ws.take (i + 1)) = totL (ws.take i) + w.length := by
  unfold totL; rw [List.take_add_one, h, List.flatMap_append, List.length_append]; simp
theorem q1p (ws : List (List UInt8)) (i : Nat) : totL (ws.take i) ≤ totL ws := by
  unfold totL
  have := congrArg (fun l => (List.flatMap (fun x => x) l).length) (List.take_append_drop i ws)
  simp only [List.flatMap_append, List.length_append] at this
  omega
theorem qtp (sep : List UInt8) : ∀ (ws : List (List UInt8)), (ws.flatMap fun x => sep ++ x).length = totL ws + ws.length * sep.length
  | [] => by simp [totL]
  | w :: ws => by
    have e : totL (w :: ws) = w.length + totL ws := by simp [totL]
    rw [List.flatMap_cons, List.length_append, qtp sep ws, e, List.length_append, List.length_cons, Nat.succ_mul]; omega
theorem join33 {H : AHeap} {v : AV} {ws : List (List UInt8)} {sep : List UInt8} {k0 : Nat} {E : Env} (hv : SlT encS 1 H v ws) (h2 : 2 ≤ ws.length) (hl : ws.length ≤ 100000) (hsep : sep.length ≤ 1000) (ht : totL ws ≤ 100000000000) (hne : joinS sep ws ≠ []) (hk : k0 ≤ 100000000) (e0 : lk E 0 = some v) (e1 : lk E 1 = some (.str sep)) (e5 : lk E 5 = some (.int .i64 (k0 : Nat))) :
    W M ⟨none, j5⟩ (qg 33) true (FIN3 M [.tmp 4] (RT3 fun r H' => r = .str (joinS sep ws) ∧ Fr Em H H')) E [] H := by
  simp only [↓JN_eq, CTL3, OPS3, cast0, reduceIte, Nat.reduceEqDiff, za, e0, hv.len]
  refine LOOP3.intro (fun n E' H' => ∃ i, H' = H ∧ E' = [(39, v), (40, .int .i64 ws.length), (41, .int .i64 (i : Nat)), (5, .int .i64 (k0 + totL (ws.take i) : Nat)), (0, v), (1, .str sep)] ∧ n = ws.length - i ∧ i ≤ ws.length) ?_ ?_
  · exact ⟨_, _, ⟨0, rfl, rfl, rfl, by omega⟩, by simp only [↓JN_eq, CTL3, OPS3, cast0, reduceIte, Nat.reduceEqDiff, e0, e1, e5]; simp [totL]⟩
  rintro n E' H' ⟨i, rfl, rfl, rfl, hi⟩
  simp only [↓JN_eq, CTL3, OPS3, cast0, reduceIte, Nat.reduceEqDiff, za]
  refine IF3.dec (fun hlt => ?_) (fun hge => ?_)
  · have hlt : i < ws.length := by omega
    obtain ⟨w, hw⟩ : ∃ w, ws[i]? = some w := ⟨ws[i], by simp [hlt]⟩
    have t1 := qu8 hw
    have t2 := q1p ws (i + 1)
    have ew : wrapI .i64 ((i : Nat) + 1 : Int) = ((i + 1 : Nat) : Int) := xm (by omega) (by omega)
    have e6 : wrapI .i64 (9223372036854775807 - ((k0 + totL (ws.take i) : Nat) : Int)) = 9223372036854775807 - ((k0 + totL (ws.take i) : Nat) : Int) := xm (by omega) (by omega)
    have e7 : ¬ 9223372036854775807 - ((k0 + totL (ws.take i) : Nat) : Int) < ((w.length : Nat) : Int) := by omega
    have e8 : wrapI .i64 (((k0 + totL (ws.take i) : Nat) : Int) + ((w.length : Nat) : Int)) = ((k0 + totL (ws.take (i + 1)) : Nat) : Int) := by rw [xm (by omega) (by omega)]; omega
    simp only [↓JN_eq, CTL3, OPS3, cast0, reduceIte, Nat.reduceEqDiff, za, hv.idx hw rfl, hv.load0 vu hw (by omega), encS, e6, e7, e8, ew]
    exact ⟨_, _, ⟨i + 1, rfl, rfl, by omega⟩, by simp only [↓JN_eq, CTL3, OPS3, cast0, reduceIte, Nat.reduceEqDiff], by omega⟩
  · have hi : i = ws.length := by omega
    subst hi
    rw [List.take_length]
    simp only [↓JN_eq, CTL3, OPS3, cast0, reduceIte, Nat.reduceEqDiff, za]
    have hf1 : Fr Em H' (H'.alloc (OR [.nilp, .nils] ze)) := (Fr.refl H').alloc _
    refine C3.q (q1x (M := M) (H0 := H') (qk ..) (Nat.le_refl _) (by rw [xf]; omega) hf1 (by omega)) fun r H2 ⟨hb, hf2⟩ => ?_
    obtain ⟨w, ws', rfl⟩ : ∃ w ws', ws = w :: ws' := by
      cases ws with
      | nil => simp at h2
      | cons w ws' => exact ⟨w, ws', rfl⟩
    have hw : (w :: ws')[0]? = some w := rfl
    have hv2 := hv.em hf2
    have htl : totL (w :: ws') = w.length + totL ws' := by simp [totL]
    simp only [↓JN_eq, CTL3, OPS3, cast0, reduceIte, Nat.reduceEqDiff, za, hv2.idx hw (z := 0) rfl, hv2.load0 vu hw (by omega), encS]
    refine C3.q (qkv (M := M) (s := w) hb (by simp; omega)) fun r H3 ⟨hb3, hf3⟩ => ?_
    have hv3 := hv.em hf3
    obtain ⟨c, hc, hs, _⟩ := hv.from vu (k := 1) (by simp) (z := 1) rfl .i64
    rw [List.drop_succ_cons, List.drop_zero] at hs
    simp only [↓JN_eq, CTL3, OPS3, cast0, reduceIte, Nat.reduceEqDiff, za, hc, hs.len]
    have hjl := qtp sep ws'
    rw [List.length_cons] at hl h2
    have hm : ws'.length * sep.length ≤ 100000 * 1000 := Nat.mul_le_mul (by omega) hsep
    refine LOOP3.intro (fun n E' Hc => ∃ i, E' = [(63, c), (64, .int .i64 ws'.length), (65, .int .i64 (i : Nat)), (8, .ptr H'.next 0), (1, .str sep)] ∧ n = ws'.length - i ∧ i ≤ ws'.length ∧ BS H' Hc H'.next (w ++ (ws'.take i).flatMap fun x => sep ++ x) ∧ Fr Em H' Hc) ?_ ?_
    · exact ⟨_, _, ⟨0, rfl, rfl, by omega, by simpa using hb3, hf3⟩, by simp only [↓JN_eq, CTL3, OPS3, cast0, reduceIte, Nat.reduceEqDiff]⟩
    rintro n E' Hc ⟨i, rfl, rfl, hi, hb4, hf4⟩
    have hs4 := hs.em hf4
    simp only [↓JN_eq, CTL3, OPS3, cast0, reduceIte, Nat.reduceEqDiff, za]
    refine IF3.dec (fun hlt => ?_) (fun hge => ?_)
    · have hlt : i < ws'.length := by omega
      obtain ⟨x, hx⟩ : ∃ x, ws'[i]? = some x := ⟨ws'[i], by simp [hlt]⟩
      have t1 := qu8 hx
      have t2 := q1p ws' (i + 1)
      have t3 := qtp sep (ws'.take i)
      have t4 : (ws'.take i).length * sep.length ≤ 100000 * 1000 := Nat.mul_le_mul (by rw [List.length_take]; omega) hsep
      have ew : wrapI .i64 ((i : Nat) + 1 : Int) = ((i + 1 : Nat) : Int) := xm (by omega) (by omega)
      simp only [↓JN_eq, CTL3, OPS3, cast0, reduceIte, Nat.reduceEqDiff, za, hs4.idx hx rfl, hs4.load0 vu hx (by omega), encS]
      refine C3.q (qkv (M := M) (s := sep) hb4 (by rw [List.length_append]; omega)) fun r H5 ⟨hb5, hf5⟩ => ?_
      simp only [↓JN_eq, CTL3, OPS3, cast0, reduceIte, Nat.reduceEqDiff, za]
      refine C3.q (qkv (M := M) (s := x) hb5 (by rw [List.length_append, List.length_append]; omega)) fun r H6 ⟨hb6, hf6⟩ => ?_
      simp only [↓JN_eq, CTL3, OPS3, cast0, reduceIte, Nat.reduceEqDiff, za, ew]
      refine ⟨_, _, ⟨i + 1, rfl, rfl, by omega, ?_, hf6⟩, by simp only [↓JN_eq, CTL3, OPS3, cast0, reduceIte, Nat.reduceEqDiff], by omega⟩
      rw [List.take_add_one, hx, List.flatMap_append, ← List.append_assoc]
      simpa using hb6
    · have hi : i = ws'.length := by omega
      subst hi
      rw [List.take_length] at hb4
      simp only [↓JN_eq, CTL3, OPS3, cast0, reduceIte, Nat.reduceEqDiff, za]
      refine C3.q (qx8 (M := M) hb4 hne (by rw [List.length_append]; omega)) fun r H5 ⟨hr, hf5⟩ => ?_
      subst hr
      simp only [↓JN_eq, CTL3, OPS3, cast0, reduceIte, Nat.reduceEqDiff, za]
      exact ⟨rfl, hf5⟩
theorem qp7 {H : AHeap} {v : AV} {ws : List (List UInt8)} {sep : List UInt8} (hv : SlT encS 1 H v ws) (hl : ws.length ≤ 100000) (hsep : sep.length ≤ 1000) (ht : totL ws ≤ 100000000000) (hne : 2 ≤ ws.length → joinS sep ws ≠ []) :
    CALLQ M j5 [v, .str sep] H fun r H' => r = .str (joinS sep ws) ∧ Fr Em H H' := by
  refine qq9 ?_
  by_cases h0 : ws.length = 0
  · have e0 : ((ws.length : Nat) : Int) = 0 := by omega
    have : ws = [] := List.length_eq_zero_iff.1 h0
    subst this
    simp only [↓JN_eq, CTL3, OPS3, cast0, reduceIte, Nat.reduceEqDiff, za, hv.len, e0]
    exact ⟨rfl, Fr.refl _⟩
  have e0 : ¬ ((ws.length : Nat) : Int) = 0 := by omega
  by_cases h1 : ws.length = 1
  · have e1 : ((ws.length : Nat) : Int) = 1 := by omega
    obtain ⟨w, rfl⟩ : ∃ w, ws = [w] := List.length_eq_one_iff.1 h1
    have hw : [w][0]? = some w := rfl
    have l1 : Op.lenSl [v] = some (.int .i64 1) := hv.len
    simp (maxSteps := 4000000) (disch := first | (simp only [qb, qd]; done) | (simp only [qb, qd]; omega) | omega) only [↓JN_eq, CTL3, OPS3, MEM3, List.length_cons, List.length_nil, List.take_zero, List.take_succ_cons, List.drop_zero, List.drop_succ_cons, List.take_nil, List.drop_nil, Nat.reduceAdd, Nat.reduceSub, Nat.reduceLeDiff, Int.reduceLT, Int.reduceLE, Int.reduceEq, cast0, reduceIte, Nat.reduceEqDiff, za, l1, hv.idx hw (z := 0) rfl, hv.load0 vu hw (by omega), encS]
    exact ⟨by simp [joinS], Fr.refl _⟩
  have e1 : ¬ ((ws.length : Nat) : Int) = 1 := by omega
  have hL : 2 ≤ ws.length := by omega
  obtain ⟨w0, w2, w19, w21, -, w25, -, -, w31, -, -, -, -, -, -, -, -, -, -⟩ := za M ⟨none, j5⟩
  by_cases hs0 : sep.length = 0
  · have e2 : ¬ (0 : Int) < ((sep.length : Nat) : Int) := by omega
    simp only [↓JN_eq, CTL3, OPS3, cast0, reduceIte, Nat.reduceEqDiff, w0, w2, w19, w21, hv.len, e0, e1, e2]
    exact join33 (k0 := 0) hv hL hl hsep ht (hne hL) (by omega) rfl rfl rfl
  · have e2 : (0 : Int) < ((sep.length : Nat) : Int) := by omega
    have e3 : wrapI .i64 (((ws.length : Nat) : Int) - 1) = ((ws.length - 1 : Nat) : Int) := by rw [xm (by omega) (by omega)]; omega
    have e4 : Op.bin .quo [.int .i64 9223372036854775807, .int .i64 ((ws.length - 1 : Nat) : Int)] = some (.int .i64 ((9223372036854775807 / (ws.length - 1) : Nat) : Int)) := by
      rw [o_quo .i64 _ _ (by omega), Int.tdiv_eq_ediv_of_nonneg (by decide)]
      have : 9223372036854775807 / (ws.length - 1) ≤ 9223372036854775807 := Nat.div_le_self ..
      have e : (9223372036854775807 : Int) / ((ws.length - 1 : Nat) : Int) = ((9223372036854775807 / (ws.length - 1) : Nat) : Int) := by rw [Int.natCast_ediv]; rfl
      rw [e]; generalize 9223372036854775807 / (ws.length - 1) = q at this ⊢
      rw [xm (by omega) (by omega)]
    have e5 : ¬ ((9223372036854775807 / (ws.length - 1) : Nat) : Int) ≤ ((sep.length : Nat) : Int) := by
      have : 9223372036854775807 / 100000 ≤ 9223372036854775807 / (ws.length - 1) := Nat.div_le_div_left (by omega) (by omega)
      omega
    have hm : sep.length * (ws.length - 1) ≤ 1000 * 100000 := Nat.mul_le_mul hsep (by omega)
    have e6 : wrapI .i64 (((sep.length : Nat) : Int) * ((ws.length - 1 : Nat) : Int)) = ((sep.length * (ws.length - 1) : Nat) : Int) := by
      rw [show ((sep.length : Nat) : Int) * ((ws.length - 1 : Nat) : Int) = ((sep.length * (ws.length - 1) : Nat) : Int) by rw [Int.natCast_mul]]
      exact xm (by omega) (by omega)
    have e7 : wrapI .i64 (0 + ((sep.length * (ws.length - 1) : Nat) : Int)) = ((sep.length * (ws.length - 1) : Nat) : Int) := by rw [Int.zero_add]; exact xm (by omega) (by omega)
    simp only [↓JN_eq, CTL3, OPS3, cast0, reduceIte, Nat.reduceEqDiff, w0, w2, w19, w21, w25, w31, hv.len, e0, e1, e2, e3, e4, e5, e6, e7]
    exact join33 (k0 := sep.length * (ws.length - 1)) hv hL hl hsep ht (hne hL) (by omega) rfl rfl rfl
end Go.Am
namespace Go.Am
open Tr
variable {M : Mac} [MK M]
theorem ev9 (x : Evt) : x.enc.length = 9 := rfl
theorem evt9 (x : Evt) : x.enc.take 9 = x.enc := rfl
theorem ev_q (x y : Evt) (H : AHeap) : Op.eq (.agg evTree) false [.agg x.enc, .agg y.enc] H = some (.bool (decide (x = y))) := by simp [Op.eq, eqV, ev_eq]
abbrev cI (l : UInt8) : AV := .int .i32 l.toNat
def offL (l : UInt8) : Nat := if l = 98 then 3 else if l = 116 then 4 else if l = 108 then 5 else if l = 97 then 6 else if l = 118 then 7 else 8
theorem qtl {x : Evt} {l : UInt8} (hl : isL l) (h : l ≠ 118) : x.enc[offL l]? = some (.int .i64 (getN x l)) := by
  rcases hl with rfl | rfl | rfl | rfl | rfl | rfl <;> first | rfl | exact absurd rfl h
theorem qzk {H : AHeap} {n : Int} {w : AV} {ws : List B} (hw : SlT encS 1 H w ws) : CALLQ M qbc [.int .i64 n, w] H fun v H' => v = .bool (decide (0 ≤ n ∧ (ws.length = 0 ∨ 1 ≤ n ∧ n < ws.length))) ∧ H' = H := by
  refine qxo ?_
  by_cases h1 : 0 ≤ n
  · by_cases h2 : ws.length = 0
    · have e : ((ws.length : Nat) : Int) = 0 := by omega
      simp (maxSteps := 4000000) (disch := first | (simp only [qb, qd]; done) | (simp only [qb, qd]; omega) | omega) only [↓JN_eq, CTL3, OPS3, MEM3, List.length_cons, List.length_nil, List.take_zero, List.take_succ_cons, List.drop_zero, List.drop_succ_cons, List.take_nil, List.drop_nil, Nat.reduceAdd, Nat.reduceSub, Nat.reduceLeDiff, Int.reduceLT, Int.reduceLE, Int.reduceEq, cast0, reduceIte, Nat.reduceEqDiff, qft, h1, hw.len, h2]
      try simp
    · have e : ¬ ((ws.length : Nat) : Int) = 0 := by omega
      by_cases h3 : 1 ≤ n
      · by_cases h4 : n < (ws.length : Nat)
        · simp (maxSteps := 4000000) (disch := first | (simp only [qb, qd]; done) | (simp only [qb, qd]; omega) | omega) only [↓JN_eq, CTL3, OPS3, MEM3, List.length_cons, List.length_nil, List.take_zero, List.take_succ_cons, List.drop_zero, List.drop_succ_cons, List.take_nil, List.drop_nil, Nat.reduceAdd, Nat.reduceSub, Nat.reduceLeDiff, Int.reduceLT, Int.reduceLE, Int.reduceEq, cast0, reduceIte, Nat.reduceEqDiff, qft, h1, hw.len, e, h3, h4]; try simp [h2]
        · simp (maxSteps := 4000000) (disch := first | (simp only [qb, qd]; done) | (simp only [qb, qd]; omega) | omega) only [↓JN_eq, CTL3, OPS3, MEM3, List.length_cons, List.length_nil, List.take_zero, List.take_succ_cons, List.drop_zero, List.drop_succ_cons, List.take_nil, List.drop_nil, Nat.reduceAdd, Nat.reduceSub, Nat.reduceLeDiff, Int.reduceLT, Int.reduceLE, Int.reduceEq, cast0, reduceIte, Nat.reduceEqDiff, qft, h1, hw.len, e, h3, h4]; try simp [h2]
      · simp (maxSteps := 4000000) (disch := first | (simp only [qb, qd]; done) | (simp only [qb, qd]; omega) | omega) only [↓JN_eq, CTL3, OPS3, MEM3, List.length_cons, List.length_nil, List.take_zero, List.take_succ_cons, List.drop_zero, List.drop_succ_cons, List.take_nil, List.drop_nil, Nat.reduceAdd, Nat.reduceSub, Nat.reduceLeDiff, Int.reduceLT, Int.reduceLE, Int.reduceEq, cast0, reduceIte, Nat.reduceEqDiff, qft, h1, hw.len, e, h3]; try simp [h2]
  · simp (maxSteps := 4000000) (disch := first | (simp only [qb, qd]; done) | (simp only [qb, qd]; omega) | omega) only [↓JN_eq, CTL3, OPS3, MEM3, List.length_cons, List.length_nil, List.take_zero, List.take_succ_cons, List.drop_zero, List.drop_succ_cons, List.take_nil, List.drop_nil, Nat.reduceAdd, Nat.reduceSub, Nat.reduceLeDiff, Int.reduceLT, Int.reduceLE, Int.reduceEq, cast0, reduceIte, Nat.reduceEqDiff, qft, h1]; try simp
theorem qjl {H : AHeap} {b : Nat} {l : UInt8} (hl : isL l) (h : l ≠ 118) : CALLQ M km [.ptr b 0, cI l] H fun v H' => ∃ w, v = .tuple [.ptr b (offL l), w] ∧ Fr Em H H' ∧ SlT encS 1 H' w (wordsOf l) ∧ ((wordsOf l).length = 0 ∨ H.next ≤ slB w) := by
  refine qs7 ?_
  rcases hl with rfl | rfl | rfl | rfl | rfl | rfl
  · exact absurd rfl h
  · have e : cI 98 = .int .i32 98 := rfl
    rw [e]; simp (maxSteps := 4000000) (disch := first | (simp only [qb, qd]; done) | (simp only [qb, qd]; omega) | omega) only [↓JN_eq, CTL3, OPS3, MEM3, List.length_cons, List.length_nil, List.take_zero, List.take_succ_cons, List.drop_zero, List.drop_succ_cons, List.take_nil, List.drop_nil, Nat.reduceAdd, Nat.reduceSub, Nat.reduceLeDiff, Int.reduceLT, Int.reduceLE, Int.reduceEq, cast0, reduceIte, Nat.reduceEqDiff, qb8]
    exact ⟨_, rfl, Fr.refl _, ⟨rfl, rfl⟩, .inl rfl⟩
  · have e : cI 116 = .int .i32 116 := rfl
    rw [e]; simp (maxSteps := 4000000) (disch := first | (simp only [qb, qd]; done) | (simp only [qb, qd]; omega) | omega) only [↓JN_eq, CTL3, OPS3, MEM3, List.length_cons, List.length_nil, List.take_zero, List.take_succ_cons, List.drop_zero, List.drop_succ_cons, List.take_nil, List.drop_nil, Nat.reduceAdd, Nat.reduceSub, Nat.reduceLeDiff, Int.reduceLT, Int.reduceLE, Int.reduceEq, cast0, reduceIte, Nat.reduceEqDiff, qb8]
    exact ⟨_, rfl, Fr.refl _, ⟨rfl, rfl⟩, .inl rfl⟩
  · have e : cI 108 = .int .i32 108 := rfl
    have e2 : (Op.buildSlice qp 5 [(.str [])] [(0, 1), (1, 1), (2, 1), (3, 1), (4, 1)]) [(.str []), (.str [102, 97, 115, 116]), (.str [115, 108, 111, 119]), (.str [115, 111, 102, 116]), (.str [115, 101, 114, 105, 97, 108])] = some (.row ((wordsOf 108).map AV.str) qp (0, 0) true, Op.sliceTo 5 5) := rfl
    rw [e]; simp (maxSteps := 4000000) (disch := first | (simp only [qb, qd]; done) | (simp only [qb, qd]; omega) | omega) only [↓JN_eq, CTL3, OPS3, MEM3, List.length_cons, List.length_nil, List.take_zero, List.take_succ_cons, List.drop_zero, List.drop_succ_cons, List.take_nil, List.drop_nil, Nat.reduceAdd, Nat.reduceSub, Nat.reduceLeDiff, Int.reduceLT, Int.reduceLE, Int.reduceEq, cast0, reduceIte, Nat.reduceEqDiff, qb8, e2]
    exact ⟨_, rfl, (Fr.refl _).alloc _, qvv _ _ _ _ _ _ rfl, .inr (Nat.le_refl _)⟩
  · have e : cI 97 = .int .i32 97 := rfl
    rw [e]; simp (maxSteps := 4000000) (disch := first | (simp only [qb, qd]; done) | (simp only [qb, qd]; omega) | omega) only [↓JN_eq, CTL3, OPS3, MEM3, List.length_cons, List.length_nil, List.take_zero, List.take_succ_cons, List.drop_zero, List.drop_succ_cons, List.take_nil, List.drop_nil, Nat.reduceAdd, Nat.reduceSub, Nat.reduceLeDiff, Int.reduceLT, Int.reduceLE, Int.reduceEq, cast0, reduceIte, Nat.reduceEqDiff, qb8]
    exact ⟨_, rfl, Fr.refl _, ⟨rfl, rfl⟩, .inl rfl⟩
  · have e : cI 99 = .int .i32 99 := rfl
    have e2 : (Op.buildSlice qp 9 [(.str [])] [(0, 1), (1, 1), (2, 1), (3, 1), (4, 1), (5, 1), (6, 1), (7, 1), (8, 1)]) [(.str []), (.str [99, 111, 110, 102, 108, 105, 99, 116]), (.str [115, 117, 98]), (.str [99, 97, 112, 97, 99, 105, 116, 121]), (.str [101, 118, 105, 99, 116]), (.str [115, 112, 117, 114, 105, 111, 117, 115]), (.str [98, 117, 115, 121]), (.str [105, 108, 108, 101, 103, 97, 108]), (.str [115, 111, 102, 116])] = some (.row ((wordsOf 99).map AV.str) qp (0, 0) true, Op.sliceTo 9 9) := rfl
    rw [e]; simp (maxSteps := 4000000) (disch := first | (simp only [qb, qd]; done) | (simp only [qb, qd]; omega) | omega) only [↓JN_eq, CTL3, OPS3, MEM3, List.length_cons, List.length_nil, List.take_zero, List.take_succ_cons, List.drop_zero, List.drop_succ_cons, List.take_nil, List.drop_nil, Nat.reduceAdd, Nat.reduceSub, Nat.reduceLeDiff, Int.reduceLT, Int.reduceLE, Int.reduceEq, cast0, reduceIte, Nat.reduceEqDiff, qb8, e2]
    exact ⟨_, rfl, (Fr.refl _).alloc _, qvv _ _ _ _ _ _ rfl, .inr (Nat.le_refl _)⟩
def gU (x : Evt) (l : UInt8) : Int := if l = 118 then x.value else wrapI .u64 (getN x l)
theorem qt8 {H : AHeap} {x : Evt} {l : UInt8} (hl : isL l) : CALLQ M wv [.agg x.enc, cI l] H fun v H' => v = .tuple [.int .u64 (gU x l), .bool (mayN l (getN x l))] ∧ Fr Em H H' := by
  refine qx9 ?_
  have hf : Fr Em H (H.alloc (OR x.enc qc)) := (Fr.refl H).alloc _
  by_cases h : l = 118
  · subst h
    have e : cI 118 = .int .i32 118 := rfl
    have e7 : x.enc[7]? = some (.int .u64 x.value) := rfl
    rw [e]; simp (maxSteps := 4000000) (disch := first | (simp only [qb, qd]; done) | (simp only [qb, qd]; omega) | omega) only [↓JN_eq, CTL3, OPS3, MEM3, List.length_cons, List.length_nil, List.take_zero, List.take_succ_cons, List.drop_zero, List.drop_succ_cons, List.take_nil, List.drop_nil, Nat.reduceAdd, Nat.reduceSub, Nat.reduceLeDiff, Int.reduceLT, Int.reduceLE, Int.reduceEq, cast0, reduceIte, Nat.reduceEqDiff, qhp, e7]
    exact ⟨rfl, hf⟩
  · have e : Op.bin .eql [cI l, .int .i32 118] = some (.bool false) := by
      rcases hl with rfl | rfl | rfl | rfl | rfl | rfl <;> first | rfl | exact absurd rfl h
    simp (maxSteps := 4000000) (disch := first | (simp only [qb, qd]; done) | (simp only [qb, qd]; omega) | omega) only [↓JN_eq, CTL3, OPS3, MEM3, List.length_cons, List.length_nil, List.take_zero, List.take_succ_cons, List.drop_zero, List.drop_succ_cons, List.take_nil, List.drop_nil, Nat.reduceAdd, Nat.reduceSub, Nat.reduceLeDiff, Int.reduceLT, Int.reduceLE, Int.reduceEq, cast0, reduceIte, Nat.reduceEqDiff, qhp, e]
    refine C3.q (qjl (M := M) hl h) fun v H' ⟨w, hv, hf2, hw, hap⟩ => ?_
    subst hv
    have hg : H'.get H.next = some (OR x.enc qc) := by rw [hf2.keep _ (by rw [xf]; omega) (fun h => h), qk]
    simp (maxSteps := 4000000) (disch := first | (simp only [qb, qd]; done) | (simp only [qb, qd]; omega) | omega) only [↓JN_eq, CTL3, OPS3, MEM3, List.length_cons, List.length_nil, List.take_zero, List.take_succ_cons, List.drop_zero, List.drop_succ_cons, List.take_nil, List.drop_nil, Nat.reduceAdd, Nat.reduceSub, Nat.reduceLeDiff, Int.reduceLT, Int.reduceLE, Int.reduceEq, cast0, reduceIte, Nat.reduceEqDiff, qhp, hg, qtl hl h]
    refine C3.q (qzk (M := M) hw) fun v H2 ⟨hv, hH⟩ => ?_
    subst hv; subst hH
    simp (maxSteps := 4000000) (disch := first | (simp only [qb, qd]; done) | (simp only [qb, qd]; omega) | omega) only [↓JN_eq, CTL3, OPS3, MEM3, List.length_cons, List.length_nil, List.take_zero, List.take_succ_cons, List.drop_zero, List.drop_succ_cons, List.take_nil, List.drop_nil, Nat.reduceAdd, Nat.reduceSub, Nat.reduceLeDiff, Int.reduceLT, Int.reduceLE, Int.reduceEq, cast0, reduceIte, Nat.reduceEqDiff, qhp, hg, qtl hl h]
    refine ⟨?_, hf.em hf2⟩
    simp only [gU, mayN, if_neg h]
theorem setN_row {y : Evt} {l : UInt8} (hl : isL l) (h : l ≠ 118) (n : Int) : y.enc.take (offL l) ++ [AV.int .i64 n] ++ y.enc.drop (offL l + 1) = (setN y l n).enc := by
  rcases hl with rfl | rfl | rfl | rfl | rfl | rfl <;> first | rfl | exact absurd rfl h
def SetQ (y : Evt) (l : UInt8) (u : Int) (b : Nat) (v : AV) (H' : AHeap) : Prop := l = 118 ∧ v = .bool true ∧ H'.get b = some (OR (setN y l u).enc qc) ∨ l ≠ 118 ∧ v = .bool (decide (u ≤ 9223372036854775807) && mayN l (wrapI .i64 u)) ∧ H'.get b = some (OR (setN y l (wrapI .i64 u)).enc qc)
theorem qti {H : AHeap} {y : Evt} {l : UInt8} (hl : isL l) {b : Nat} {u : Int} (hb : H.get b = some (OR y.enc qc)) (hlt : b < H.next) :
    CALLQ M wx [.ptr b 0, cI l, .int .u64 u] H fun v H' => SetQ y l u b v H' ∧ Fr (On b) H H' := by
  refine qyd ?_
  by_cases h : l = 118
  · subst h
    have e : cI 118 = .int .i32 118 := rfl
    have e1 : y.enc.length = 9 := rfl
    have e2 : y.enc.take 7 ++ [AV.int .u64 u] ++ y.enc.drop 8 = (setN y 118 u).enc := rfl
    rw [e]; simp (maxSteps := 4000000) (disch := first | (simp only [qb, qd]; done) | (simp only [qb, qd]; omega) | omega) only [↓JN_eq, CTL3, OPS3, MEM3, List.length_cons, List.length_nil, List.take_zero, List.take_succ_cons, List.drop_zero, List.drop_succ_cons, List.take_nil, List.drop_nil, Nat.reduceAdd, Nat.reduceSub, Nat.reduceLeDiff, Int.reduceLT, Int.reduceLE, Int.reduceEq, cast0, reduceIte, Nat.reduceEqDiff, qc6, hb, e1, e2]
    exact ⟨.inl ⟨rfl, rfl, qo ..⟩, (Fr.refl H).set (W := On b) (.inl rfl) _⟩
  · have e : Op.bin .eql [cI l, .int .i32 118] = some (.bool false) := by
      rcases hl with rfl | rfl | rfl | rfl | rfl | rfl <;> first | rfl | exact absurd rfl h
    simp (maxSteps := 4000000) (disch := first | (simp only [qb, qd]; done) | (simp only [qb, qd]; omega) | omega) only [↓JN_eq, CTL3, OPS3, MEM3, List.length_cons, List.length_nil, List.take_zero, List.take_succ_cons, List.drop_zero, List.drop_succ_cons, List.take_nil, List.drop_nil, Nat.reduceAdd, Nat.reduceSub, Nat.reduceLeDiff, Int.reduceLT, Int.reduceLE, Int.reduceEq, cast0, reduceIte, Nat.reduceEqDiff, qc6, e]
    refine C3.q (qjl (M := M) hl h) fun v H' ⟨w, hv, hf2, hw, hap⟩ => ?_
    subst hv
    have hg : H'.get b = some (OR y.enc qc) := by rw [hf2.keep _ hlt (fun h => h), hb]
    have e1 : y.enc.length = 9 := rfl
    have e3 : offL l + 1 ≤ 9 := by rcases hl with rfl | rfl | rfl | rfl | rfl | rfl <;> decide
    simp (maxSteps := 4000000) (disch := first | (simp only [qb, qd]; done) | (simp only [qb, qd]; omega) | omega) only [↓JN_eq, CTL3, OPS3, MEM3, List.length_cons, List.length_nil, List.take_zero, List.take_succ_cons, List.drop_zero, List.drop_succ_cons, List.take_nil, List.drop_nil, Nat.reduceAdd, Nat.reduceSub, Nat.reduceLeDiff, Int.reduceLT, Int.reduceLE, Int.reduceEq, cast0, reduceIte, Nat.reduceEqDiff, qc6, hg, e1, e3, setN_row hl h]
    have hf3 : Fr (On b) H (H'.set b (OR (setN y l (wrapI .i64 u)).enc qc)) := (hf2.mono (W' := On b) fun _ _ q => q.elim).set (.inl rfl) _
    by_cases h4 : u ≤ 9223372036854775807
    · simp (maxSteps := 4000000) (disch := first | (simp only [qb, qd]; done) | (simp only [qb, qd]; omega) | omega) only [↓JN_eq, CTL3, OPS3, MEM3, List.length_cons, List.length_nil, List.take_zero, List.take_succ_cons, List.drop_zero, List.drop_succ_cons, List.take_nil, List.drop_nil, Nat.reduceAdd, Nat.reduceSub, Nat.reduceLeDiff, Int.reduceLT, Int.reduceLE, Int.reduceEq, cast0, reduceIte, Nat.reduceEqDiff, qc6, h4, qtl hl h]
      refine C3.q (qzk (M := M) (Sl.fr hw ((Fr.refl H').set (W := On b) (.inl rfl) _) ?_)) fun v H2 ⟨hv, hH⟩ => ?_
      · exact hap.imp id fun q => fun (r : slB w = b) => by omega
      subst hv; subst hH
      simp (maxSteps := 4000000) (disch := first | (simp only [qb, qd]; done) | (simp only [qb, qd]; omega) | omega) only [↓JN_eq, CTL3, OPS3, MEM3, List.length_cons, List.length_nil, List.take_zero, List.take_succ_cons, List.drop_zero, List.drop_succ_cons, List.take_nil, List.drop_nil, Nat.reduceAdd, Nat.reduceSub, Nat.reduceLeDiff, Int.reduceLT, Int.reduceLE, Int.reduceEq, cast0, reduceIte, Nat.reduceEqDiff, qc6]
      refine ⟨.inr ⟨h, ?_, qo ..⟩, hf3⟩
      simp only [mayN, if_neg h, h4, decide_true, Bool.true_and, get_set hl hl, if_true]
    · simp (maxSteps := 4000000) (disch := first | (simp only [qb, qd]; done) | (simp only [qb, qd]; omega) | omega) only [↓JN_eq, CTL3, OPS3, MEM3, List.length_cons, List.length_nil, List.take_zero, List.take_succ_cons, List.drop_zero, List.drop_succ_cons, List.take_nil, List.drop_nil, Nat.reduceAdd, Nat.reduceSub, Nat.reduceLeDiff, Int.reduceLT, Int.reduceLE, Int.reduceEq, cast0, reduceIte, Nat.reduceEqDiff, qc6, h4]
      exact ⟨.inr ⟨h, by simp [h4], qo ..⟩, hf3⟩
theorem qmp {H : AHeap} {k : Int} : CALLQ M yl [.int .i64 k] H fun v H' => v = .agg (fresh k 0 0).enc ∧ Fr Em H H' := by
  refine qs2 ?_
  by_cases h : 7 ≤ k
  · simp (maxSteps := 4000000) (disch := first | (simp only [qb, qd]; done) | (simp only [qb, qd]; omega) | omega) only [↓JN_eq, CTL3, OPS3, MEM3, List.length_cons, List.length_nil, List.take_zero, List.take_succ_cons, List.drop_zero, List.drop_succ_cons, List.take_nil, List.drop_nil, Nat.reduceAdd, Nat.reduceSub, Nat.reduceLeDiff, Int.reduceLT, Int.reduceLE, Int.reduceEq, cast0, reduceIte, Nat.reduceEqDiff, qls, h]
    refine ⟨by simp [fresh, h, Evt.enc], ?_⟩
    ((repeat (first | refine Fr.alloc ?_ _ | refine Fr.set ?_ (.inr (by first | omega | (simp only [qb, qd]; omega))) _)); first | exact Fr.refl _ | assumption)
  · simp (maxSteps := 4000000) (disch := first | (simp only [qb, qd]; done) | (simp only [qb, qd]; omega) | omega) only [↓JN_eq, CTL3, OPS3, MEM3, List.length_cons, List.length_nil, List.take_zero, List.take_succ_cons, List.drop_zero, List.drop_succ_cons, List.take_nil, List.drop_nil, Nat.reduceAdd, Nat.reduceSub, Nat.reduceLeDiff, Int.reduceLT, Int.reduceLE, Int.reduceEq, cast0, reduceIte, Nat.reduceEqDiff, qls, h]
    refine ⟨by simp [fresh, h, Evt.enc], ?_⟩
    ((repeat (first | refine Fr.alloc ?_ _ | refine Fr.set ?_ (.inr (by first | omega | (simp only [qb, qd]; omega))) _)); first | exact Fr.refl _ | assumption)
end Go.Am
namespace Go.Am
open Tr
variable {M : Mac} [MK M]
structure Tab (H : AHeap) : Prop where
  lt : 10 ≤ H.next
  named : H.cellsAt kj = some ((List.range 9).map fun k : Nat => AV.str (named (k : Nat)))
  kinds : H.cellsAt qbe = some ((List.range 9).map fun k : Nat => AV.str (kword (k : Nat)))
  pow : H.cellsAt xg = some ((List.range 20).map fun k : Nat => AV.int .u64 ((10 ^ k : Nat) : Int))
theorem Tab.em {H H' : AHeap} (h : Tab H) (f : Fr Em H H') : Tab H' := by
  have hl := h.lt
  exact ⟨Nat.le_trans hl f.next, (f.cells (show (0 : Nat) < H.next by omega) id).trans h.named, (f.cells (show (1 : Nat) < H.next by omega) id).trans h.kinds, (f.cells (show (2 : Nat) < H.next by omega) id).trans h.pow⟩
theorem Tab.nm {H : AHeap} (h : Tab H) {k : Int} (h1 : 1 ≤ k) (h2 : k ≤ 8) : Op.indexArr 9 1 [.ptr kj 0, .int .i64 k] = some (.ptr kj k.toNat) ∧ Op.load1 [.ptr kj k.toNat] H = some (.str (Tr.named k)) := by
  refine ⟨by rw [qmw (i := k.toNat) (by omega) (by omega), Nat.zero_add, Nat.mul_one], ?_⟩
  rw [kx h.named, List.getElem?_map, List.getElem?_range (by omega)]
  show some (AV.str (Tr.named (k.toNat : Nat))) = _
  rw [show ((k.toNat : Nat) : Int) = k by omega]
theorem qcm {k : Int} {l : UInt8} (h : l ∈ named k) : isL l ∧ l.toNat < 128 := by
  have := (qli k).1 l h
  refine ⟨this, ?_⟩
  rcases this with rfl | rfl | rfl | rfl | rfl | rfl <;> decide
theorem set_get {x y : Evt} (hx : EvR x) {l : UInt8} (hl : isL l) (hm : mayN l (getN x l) = true) {b : Nat} {v : AV} {H : AHeap} (h : SetQ y l (gU x l) b v H) : v = .bool true ∧ H.get b = some (OR (setN y l (getN x l)).enc qc) := by
  obtain ⟨h0, h1, h2⟩ := hx.get hl hm
  rcases h with ⟨rfl, h3, h4⟩ | ⟨hn, h3, h4⟩
  · exact ⟨h3, h4⟩
  · have h2 := h2.resolve_left hn
    have e1 : gU x l = getN x l := by rw [gU, if_neg hn]; exact qdf h0 h1
    have e2 : wrapI .i64 (gU x l) = getN x l := by rw [e1]; exact xm (by omega) h2
    rw [e2] at h3 h4
    rw [e1] at h3
    refine ⟨?_, h4⟩
    rw [h3, hm, decide_eq_true (by omega)]; rfl
theorem qwb {H : AHeap} {x : Evt} (hx : EvR x) (ht : Tab H) : CALLQ M wn [.agg x.enc] H fun v H' => v = .bool (fineB x) ∧ Fr Em H H' := by
  refine qvn ?_
  have hf1 : Fr Em H (H.alloc (OR x.enc qc)) := (Fr.refl H).alloc _
  have e0 : x.enc[0]? = some (.int .i64 x.kind) := rfl
  have e1 : x.enc[1]? = some (.int .i64 x.time) := rfl
  have e2 : x.enc[2]? = some (.int .i64 x.core) := rfl
  by_cases c1 : x.kind < 1
  · simp (maxSteps := 4000000) (disch := first | (simp only [qb, qd]; done) | (simp only [qb, qd]; omega) | omega) only [↓JN_eq, CTL3, OPS3, MEM3, List.length_cons, List.length_nil, List.take_zero, List.take_succ_cons, List.drop_zero, List.drop_succ_cons, List.take_nil, List.drop_nil, Nat.reduceAdd, Nat.reduceSub, Nat.reduceLeDiff, Int.reduceLT, Int.reduceLE, Int.reduceEq, cast0, reduceIte, Nat.reduceEqDiff, ju, c1, e0]
    exact ⟨by simp [fineB, show ¬ 1 ≤ x.kind by omega], hf1⟩
  by_cases c2 : 8 < x.kind
  · simp (maxSteps := 4000000) (disch := first | (simp only [qb, qd]; done) | (simp only [qb, qd]; omega) | omega) only [↓JN_eq, CTL3, OPS3, MEM3, List.length_cons, List.length_nil, List.take_zero, List.take_succ_cons, List.drop_zero, List.drop_succ_cons, List.take_nil, List.drop_nil, Nat.reduceAdd, Nat.reduceSub, Nat.reduceLeDiff, Int.reduceLT, Int.reduceLE, Int.reduceEq, cast0, reduceIte, Nat.reduceEqDiff, ju, c1, c2, e0]
    exact ⟨by simp [fineB, show ¬ x.kind ≤ 8 by omega], hf1⟩
  by_cases c3 : x.core < 0
  · simp (maxSteps := 4000000) (disch := first | (simp only [qb, qd]; done) | (simp only [qb, qd]; omega) | omega) only [↓JN_eq, CTL3, OPS3, MEM3, List.length_cons, List.length_nil, List.take_zero, List.take_succ_cons, List.drop_zero, List.drop_succ_cons, List.take_nil, List.drop_nil, Nat.reduceAdd, Nat.reduceSub, Nat.reduceLeDiff, Int.reduceLT, Int.reduceLE, Int.reduceEq, cast0, reduceIte, Nat.reduceEqDiff, ju, c1, c2, c3, e0, e2]
    exact ⟨by simp [fineB, show ¬ 0 ≤ x.core by omega], hf1⟩
  by_cases c4 : 4 ≤ x.core
  · simp (maxSteps := 4000000) (disch := first | (simp only [qb, qd]; done) | (simp only [qb, qd]; omega) | omega) only [↓JN_eq, CTL3, OPS3, MEM3, List.length_cons, List.length_nil, List.take_zero, List.take_succ_cons, List.drop_zero, List.drop_succ_cons, List.take_nil, List.drop_nil, Nat.reduceAdd, Nat.reduceSub, Nat.reduceLeDiff, Int.reduceLT, Int.reduceLE, Int.reduceEq, cast0, reduceIte, Nat.reduceEqDiff, ju, c1, c2, c3, c4, e0, e2]
    exact ⟨by simp [fineB, show ¬ x.core < 4 by omega], hf1⟩
  by_cases c5 : x.time < 0
  · simp (maxSteps := 4000000) (disch := first | (simp only [qb, qd]; done) | (simp only [qb, qd]; omega) | omega) only [↓JN_eq, CTL3, OPS3, MEM3, List.length_cons, List.length_nil, List.take_zero, List.take_succ_cons, List.drop_zero, List.drop_succ_cons, List.take_nil, List.drop_nil, Nat.reduceAdd, Nat.reduceSub, Nat.reduceLeDiff, Int.reduceLT, Int.reduceLE, Int.reduceEq, cast0, reduceIte, Nat.reduceEqDiff, ju, c1, c2, c3, c4, c5, e0, e1, e2]
    exact ⟨by simp [fineB, show ¬ 0 ≤ x.time by omega], hf1⟩
  simp (maxSteps := 4000000) (disch := first | (simp only [qb, qd]; done) | (simp only [qb, qd]; omega) | omega) only [↓JN_eq, CTL3, OPS3, MEM3, List.length_cons, List.length_nil, List.take_zero, List.take_succ_cons, List.drop_zero, List.drop_succ_cons, List.take_nil, List.drop_nil, Nat.reduceAdd, Nat.reduceSub, Nat.reduceLeDiff, Int.reduceLT, Int.reduceLE, Int.reduceEq, cast0, reduceIte, Nat.reduceEqDiff, ju, c1, c2, c3, c4, c5, e0, e1, e2]
  refine C3.q (qmp (M := M)) fun v H2 ⟨hv, hf2⟩ => ?_
  subst hv
  have hg : H2.get H.next = some (OR x.enc qc) := by rw [hf2.keep _ (by rw [xf]; omega) (fun h => h), qk]
  have hn2 := hf2.next
  rw [xf] at hn2
  have hlt := ht.lt
  have hf3 : Fr Em H (H2.alloc (OR (fresh x.kind x.core x.time).enc qc)) := (hf1.em hf2).alloc _
  obtain ⟨n1, n2⟩ := (ht.em hf3).nm (k := x.kind) (by omega) (by omega)
  simp (maxSteps := 4000000) (disch := first | (simp only [qb, qd]; done) | (simp only [qb, qd]; omega) | omega) only [↓JN_eq, CTL3, OPS3, MEM3, List.length_cons, List.length_nil, List.take_zero, List.take_succ_cons, List.drop_zero, List.drop_succ_cons, List.take_nil, List.drop_nil, Nat.reduceAdd, Nat.reduceSub, Nat.reduceLeDiff, Int.reduceLT, Int.reduceLE, Int.reduceEq, cast0, reduceIte, Nat.reduceEqDiff, ju, hg, e0, e1, e2, Tr.fresh, Evt.enc, ql6, qmm] at n2 ⊢
  simp (maxSteps := 4000000) (disch := first | (simp only [qb, qd]; done) | (simp only [qb, qd]; omega) | omega) only [↓JN_eq, CTL3, OPS3, MEM3, List.length_cons, List.length_nil, List.take_zero, List.take_succ_cons, List.drop_zero, List.drop_succ_cons, List.take_nil, List.drop_nil, Nat.reduceAdd, Nat.reduceSub, Nat.reduceLeDiff, Int.reduceLT, Int.reduceLE, Int.reduceEq, cast0, reduceIte, Nat.reduceEqDiff, ju, n1, n2, qff]
  obtain ⟨s, hs⟩ : ∃ s, s = named x.kind := ⟨_, rfl⟩
  rw [← hs]
  refine LOOP3.intro (fun n E Hc => ∃ p y, E = [(44, .ptr (H2.next + 1) 0), (3, .ptr H2.next 0), (2, .bool false), (1, .ptr H.next 0)] ∧ n = s.length - p ∧ p ≤ s.length ∧ Hc.get H.next = some (OR x.enc qc) ∧ Hc.get H2.next = some (OR y.enc qc) ∧ Hc.get (H2.next + 1) = some (.strIter s p) ∧ H2.next + 2 ≤ Hc.next ∧ Fr Em H Hc ∧ goSet x (s.drop p) y = goSet x s (fresh x.kind x.core x.time)) ?_ ?_
  · refine ⟨_, _, ⟨0, fresh x.kind x.core x.time, rfl, rfl, by omega, ?_, ?_, ?_, ?_, hf3.alloc _, rfl⟩, by simp only [↓JN_eq, CTL3, OPS3, cast0, reduceIte, Nat.reduceEqDiff]⟩
    · simp (maxSteps := 4000000) (disch := first | (simp only [qb, qd]; done) | (simp only [qb, qd]; omega) | omega) only [↓JN_eq, CTL3, OPS3, MEM3, List.length_cons, List.length_nil, List.take_zero, List.take_succ_cons, List.drop_zero, List.drop_succ_cons, List.take_nil, List.drop_nil, Nat.reduceAdd, Nat.reduceSub, Nat.reduceLeDiff, Int.reduceLT, Int.reduceLE, Int.reduceEq, cast0, reduceIte, Nat.reduceEqDiff, hg]
    · simp (maxSteps := 4000000) (disch := first | (simp only [qb, qd]; done) | (simp only [qb, qd]; omega) | omega) only [↓JN_eq, CTL3, OPS3, MEM3, List.length_cons, List.length_nil, List.take_zero, List.take_succ_cons, List.drop_zero, List.drop_succ_cons, List.take_nil, List.drop_nil, Nat.reduceAdd, Nat.reduceSub, Nat.reduceLeDiff, Int.reduceLT, Int.reduceLE, Int.reduceEq, cast0, reduceIte, Nat.reduceEqDiff]; rfl
    · simp (maxSteps := 4000000) (disch := first | (simp only [qb, qd]; done) | (simp only [qb, qd]; omega) | omega) only [↓JN_eq, CTL3, OPS3, MEM3, List.length_cons, List.length_nil, List.take_zero, List.take_succ_cons, List.drop_zero, List.drop_succ_cons, List.take_nil, List.drop_nil, Nat.reduceAdd, Nat.reduceSub, Nat.reduceLeDiff, Int.reduceLT, Int.reduceLE, Int.reduceEq, cast0, reduceIte, Nat.reduceEqDiff]
    · simp (maxSteps := 4000000) (disch := first | (simp only [qb, qd]; done) | (simp only [qb, qd]; omega) | omega) only [↓JN_eq, CTL3, OPS3, MEM3, List.length_cons, List.length_nil, List.take_zero, List.take_succ_cons, List.drop_zero, List.drop_succ_cons, List.take_nil, List.drop_nil, Nat.reduceAdd, Nat.reduceSub, Nat.reduceLeDiff, Int.reduceLT, Int.reduceLE, Int.reduceEq, cast0, reduceIte, Nat.reduceEqDiff]; omega
  rintro n E Hc ⟨p, y, rfl, rfl, hp, g1, g3, g4, hnx, hfc, hgo⟩
  have hfail : goSet x s (fresh x.kind x.core x.time) = none → fineB x = false := fun q => by simp [fineB, ← hs, q]
  rcases Nat.lt_or_ge p s.length with hlp | hlp
  · obtain ⟨l, hl⟩ : ∃ l, s[p]? = some l := ⟨s[p], by simp [hlp]⟩
    obtain ⟨hil, h128⟩ := qcm (hs ▸ List.mem_of_getElem? hl : l ∈ named x.kind)
    have hd : s.drop p = l :: s.drop (p + 1) := by rw [List.drop_eq_getElem_cons hlp]; congr 1; simpa [hlp] using hl
    simp (maxSteps := 4000000) (disch := first | (simp only [qb, qd]; done) | (simp only [qb, qd]; omega) | omega) only [↓JN_eq, CTL3, OPS3, MEM3, List.length_cons, List.length_nil, List.take_zero, List.take_succ_cons, List.drop_zero, List.drop_succ_cons, List.take_nil, List.drop_nil, Nat.reduceAdd, Nat.reduceSub, Nat.reduceLeDiff, Int.reduceLT, Int.reduceLE, Int.reduceEq, cast0, reduceIte, Nat.reduceEqDiff, ju, qis g4 hl h128, g1, ev9, evt9]
    have hfc2 : Fr Em H (Hc.set (H2.next + 1) (.strIter s (p + 1))) := hfc.set (.inr (by omega)) _
    refine C3.q (qt8 (M := M) hil) fun v H5 ⟨hv, hf5⟩ => ?_
    subst hv
    have hn5 := hf5.next
    rw [qbs] at hn5
    have k1 : H5.get H.next = some (OR x.enc qc) := by rw [hf5.keep _ (by rw [qbs]; omega) (fun h => h), qn (by omega), g1]
    have k3 : H5.get H2.next = some (OR y.enc qc) := by rw [hf5.keep _ (by rw [qbs]; omega) (fun h => h), qn (by omega), g3]
    have k4 : H5.get (H2.next + 1) = some (.strIter s (p + 1)) := by rw [hf5.keep _ (by rw [qbs]; omega) (fun h => h), qo]
    rw [hd, goSet] at hgo
    cases hm : mayN l (getN x l) with
    | false =>
      rw [hm] at hgo
      simp (maxSteps := 4000000) (disch := first | (simp only [qb, qd]; done) | (simp only [qb, qd]; omega) | omega) only [↓JN_eq, CTL3, OPS3, MEM3, List.length_cons, List.length_nil, List.take_zero, List.take_succ_cons, List.drop_zero, List.drop_succ_cons, List.take_nil, List.drop_nil, Nat.reduceAdd, Nat.reduceSub, Nat.reduceLeDiff, Int.reduceLT, Int.reduceLE, Int.reduceEq, cast0, reduceIte, Nat.reduceEqDiff, ju, hm]
      exact ⟨by rw [hfail hgo.symm], hfc2.em hf5⟩
    | true =>
      rw [hm, if_pos rfl] at hgo
      simp (maxSteps := 4000000) (disch := first | (simp only [qb, qd]; done) | (simp only [qb, qd]; omega) | omega) only [↓JN_eq, CTL3, OPS3, MEM3, List.length_cons, List.length_nil, List.take_zero, List.take_succ_cons, List.drop_zero, List.drop_succ_cons, List.take_nil, List.drop_nil, Nat.reduceAdd, Nat.reduceSub, Nat.reduceLeDiff, Int.reduceLT, Int.reduceLE, Int.reduceEq, cast0, reduceIte, Nat.reduceEqDiff, ju, hm]
      refine C3.q (qti (M := M) hil k3 (by omega)) fun v H6 ⟨hq, hf6⟩ => ?_
      obtain ⟨hv, k6⟩ := set_get hx hil hm hq
      subst hv
      simp (maxSteps := 4000000) (disch := first | (simp only [qb, qd]; done) | (simp only [qb, qd]; omega) | omega) only [↓JN_eq, CTL3, OPS3, MEM3, List.length_cons, List.length_nil, List.take_zero, List.take_succ_cons, List.drop_zero, List.drop_succ_cons, List.take_nil, List.drop_nil, Nat.reduceAdd, Nat.reduceSub, Nat.reduceLeDiff, Int.reduceLT, Int.reduceLE, Int.reduceEq, cast0, reduceIte, Nat.reduceEqDiff, ju]
      have hn6 := hf6.next
      refine ⟨_, _, ⟨p + 1, _, rfl, rfl, by omega, ?_, k6, ?_, by omega, ?_, hgo⟩, by simp only [↓JN_eq, CTL3, OPS3, cast0, reduceIte, Nat.reduceEqDiff], by omega⟩
      · rw [hf6.keep _ (by omega) (fun q : H.next = H2.next => by omega), k1]
      · rw [hf6.keep _ (by omega) (fun q : H2.next + 1 = H2.next => by omega), k4]
      · exact (hfc2.em hf5).trans hf6 fun b (q : b = H2.next) => .inr (by omega)
  · have hp : p = s.length := by omega
    subst hp
    rw [List.drop_length, goSet] at hgo
    simp (maxSteps := 4000000) (disch := first | (simp only [qb, qd]; done) | (simp only [qb, qd]; omega) | omega) only [↓JN_eq, CTL3, OPS3, MEM3, List.length_cons, List.length_nil, List.take_zero, List.take_succ_cons, List.drop_zero, List.drop_succ_cons, List.take_nil, List.drop_nil, Nat.reduceAdd, Nat.reduceSub, Nat.reduceLeDiff, Int.reduceLT, Int.reduceLE, Int.reduceEq, cast0, reduceIte, Nat.reduceEqDiff, ju, qjg g4 (Nat.le_refl _), g1, g3, ev9, evt9, ev_q]
    refine ⟨?_, hfc⟩
    simp only [fineB, ← hs, ← hgo]
    rw [decide_eq_true (show 1 ≤ x.kind ∧ x.kind ≤ 8 ∧ 0 ≤ x.core ∧ x.core < 4 ∧ 0 ≤ x.time by omega)]
    simp
theorem qio {x : Evt} : ∀ (ls : B) (y z : Evt), goSet x ls y = some z → ∀ l ∈ ls, mayN l (getN x l) = true
  | [], _, _, _, l, h => by cases h
  | k :: ls, y, z, h, l, hl => by
    rw [goSet] at h
    split at h
    · rename_i hm
      rcases List.mem_cons.1 hl with rfl | hl
      · exact hm
      · exact qio ls _ z h l hl
    · cases h
theorem o_shr7 (n : Nat) : Op.bin .shr [.int .u64 (n : Int), .int .u64 7] = some (.int .u64 ((n / 128 : Nat) : Int)) := by
  have := o_shr .u64 .u64 (n : Int) 7
  rw [show ((7 : Nat) : Int) = 7 from rfl] at this
  rw [this]
  have e : min 7 (IntKind.bits .u64) = 7 := rfl
  rw [e, Int.fdiv_eq_ediv_of_nonneg _ (by decide)]
  have : ((n : Int) / 2 ^ 7) = ((n / 128 : Nat) : Int) := by rw [show (2 : Int) ^ 7 = 128 from rfl]; omega
  rw [this]
theorem qt3 {H0 H : AHeap} {a : AV} {xs : B} {n : Nat} (ha : NewB H0 H a xs) (hn : n < 18446744073709551616) (hl : xs.length < 1000000) :
    CALLQ M ww [a, .int .u64 (n : Int)] H fun v H' => NewB H0 H' v (xs ++ putB n) ∧ Aft a H v H' := by
  refine qw1 ?_
  simp only [↓JN_eq, CTL3, OPS3, cast0, reduceIte, Nat.reduceEqDiff, qc7]
  refine LOOP3.intro (fun r E H' => ∃ m w ys, E = [(0, w), (1, .int .u64 (m : Nat))] ∧ r = m ∧ m < 18446744073709551616 ∧ NewB H0 H' w ys ∧ Aft a H w H' ∧ ys ++ putB m = xs ++ putB n ∧ ys.length < 1000000 + 20) ?_ ?_
  · exact ⟨_, _, ⟨n, a, xs, rfl, rfl, hn, ha, Aft.refl _ _, rfl, by omega⟩, by simp only [↓JN_eq, CTL3, OPS3, cast0, reduceIte, Nat.reduceEqDiff]⟩
  rintro r E H' ⟨m, w, ys, rfl, rfl, hm, hw, hf, heq, hyl⟩
  simp only [↓JN_eq, CTL3, OPS3, cast0, reduceIte, Nat.reduceEqDiff, qc7]
  have hb : ys.length ≤ 1000010 := by
    have h1 := congrArg List.length heq
    rw [List.length_append, List.length_append] at h1
    have := qf4 9 n (Nat.lt_trans hn (by decide))
    omega
  have ew : wrapI .u8 ((r : Nat) : Int) = ((r % 256 : Nat) : Int) := by rw [qor]; omega
  refine IF3.dec (fun hge => ?_) (fun hlt => ?_)
  · have e8 : (UInt8.ofNat (r % 128 + 128)).toNat = r % 128 + 128 := ofNat_lt (by omega)
    have e9 : r % 256 % 128 = r % 128 := by omega
    simp only [↓JN_eq, CTL3, OPS3, cast0, reduceIte, Nat.reduceEqDiff, qc7, ew, or128 (show r % 256 < 256 by omega), e9]
    refine hw.app4 (bytes := 1) (a := UInt8.ofNat (r % 128 + 128)) (by rw [encB, e8]; rfl) rfl rfl rfl (by omega) (by omega) (by omega) fun v' H2 hv' hf2 => ?_
    simp only [↓JN_eq, CTL3, OPS3, cast0, reduceIte, Nat.reduceEqDiff, qc7, o_shr7]
    refine ⟨_, _, ⟨r / 128, v', _, rfl, rfl, by omega, hv', hf.trans hf2, ?_, by rw [List.length_append, List.length_singleton]; omega⟩, by simp only [↓JN_eq, CTL3, OPS3, cast0, reduceIte, Nat.reduceEqDiff], by omega⟩
    rw [← heq, List.append_assoc, qt6 (n := r) (by omega)]; rfl
  · have e8 : (UInt8.ofNat r).toNat = r := ofNat_lt (by omega)
    have e9 : r % 256 = r := by omega
    simp only [↓JN_eq, CTL3, OPS3, cast0, reduceIte, Nat.reduceEqDiff, qc7, ew, e9]
    refine hw.app4 (bytes := 1) (a := UInt8.ofNat r) (by rw [encB, e8]; rfl) rfl rfl rfl (by omega) (by omega) (by omega) fun v' H2 hv' hf2 => ?_
    simp only [↓JN_eq, CTL3, OPS3, cast0, reduceIte, Nat.reduceEqDiff, qc7]
    rw [qo2 (by omega)] at heq
    rw [heq] at hv'
    exact ⟨hv', hf.trans hf2⟩
theorem qhn {α β : Type} {f : α → List β} {k : Nat} : ∀ {l : List α}, (∀ x ∈ l, (f x).length ≤ k) → (l.flatMap f).length ≤ l.length * k
  | [], _ => by simp
  | a :: l, h => by
    rw [List.flatMap_cons, List.length_append, List.length_cons, Nat.succ_mul]
    have := h a (List.mem_cons_self ..)
    have := qhn (l := l) fun x hx => h x (List.mem_cons_of_mem _ hx)
    omega
theorem qvj {H0 H : AHeap} {a : AV} {xs : B} {x : Evt} (ht : Tab H0) (hx : EvR x) (hfi : fineB x = true) (ha : NewB H0 H a xs) (hl : xs.length < 900000) :
    CALLQ M jm [a, .agg x.enc] H fun v H' => NewB H0 H' v (xs ++ encE x) ∧ Aft a H v H' := by
  refine qn9 ?_
  obtain ⟨⟨h1, h2, h3, h4, h5⟩, h6⟩ := qe6 hfi
  have e0 : x.enc[0]? = some (.int .i64 x.kind) := rfl
  have e1 : x.enc[1]? = some (.int .i64 x.time) := rfl
  have e2 : x.enc[2]? = some (.int .i64 x.core) := rfl
  have e8 : (UInt8.ofNat x.kind.toNat).toNat = x.kind.toNat := ofNat_lt (by omega)
  have w8 : wrapI .u8 x.kind = ((x.kind.toNat : Nat) : Int) := by rw [qor]; omega
  have wc : wrapI .u64 x.core = ((x.core.toNat : Nat) : Int) := by rw [qdf h3 (by omega)]; omega
  have wt : wrapI .u64 x.time = ((x.time.toNat : Nat) : Int) := by have := hx.time; rw [qdf h5 (by omega)]; omega
  have hf1 : Fr Em H (H.alloc (OR x.enc qc)) := (Fr.refl H).alloc _
  have ha1 := ha.em hf1
  simp (maxSteps := 4000000) (disch := first | (simp only [qb, qd]; done) | (simp only [qb, qd]; omega) | omega) only [↓JN_eq, CTL3, OPS3, MEM3, List.length_cons, List.length_nil, List.take_zero, List.take_succ_cons, List.drop_zero, List.drop_succ_cons, List.take_nil, List.drop_nil, Nat.reduceAdd, Nat.reduceSub, Nat.reduceLeDiff, Int.reduceLT, Int.reduceLE, Int.reduceEq, cast0, reduceIte, Nat.reduceEqDiff, jo, e0, w8]
  refine ha1.app4 (bytes := 1) (a := UInt8.ofNat x.kind.toNat) (by rw [encB, e8]; rfl) rfl rfl rfl (by omega) (by omega) (by omega) fun v' H2 hv' hf2 => ?_
  obtain ⟨hg, hl2, hn2⟩ := hf2.get (b := H.next) (by rw [xf]; omega) (ha.apartR (Nat.le_refl _))
  rw [qk] at hg
  simp (maxSteps := 4000000) (disch := first | (simp only [qb, qd]; done) | (simp only [qb, qd]; omega) | omega) only [↓JN_eq, CTL3, OPS3, MEM3, List.length_cons, List.length_nil, List.take_zero, List.take_succ_cons, List.drop_zero, List.drop_succ_cons, List.take_nil, List.drop_nil, Nat.reduceAdd, Nat.reduceSub, Nat.reduceLeDiff, Int.reduceLT, Int.reduceLE, Int.reduceEq, cast0, reduceIte, Nat.reduceEqDiff, jo, hg, e2, e1, wc, wt]
  refine C3.q (qt3 (M := M) hv' (by omega) (by rw [List.length_append, List.length_singleton]; omega)) fun v3 H3 ⟨hv3, hf3⟩ => ?_
  obtain ⟨hg3, hl3, hn3⟩ := hf3.get hl2 hn2
  rw [hg] at hg3
  have hcl : (putB x.core.toNat).length ≤ 10 := qf4 9 _ (Nat.lt_of_le_of_lt (show x.core.toNat ≤ 4 by omega) (by decide))
  simp (maxSteps := 4000000) (disch := first | (simp only [qb, qd]; done) | (simp only [qb, qd]; omega) | omega) only [↓JN_eq, CTL3, OPS3, MEM3, List.length_cons, List.length_nil, List.take_zero, List.take_succ_cons, List.drop_zero, List.drop_succ_cons, List.take_nil, List.drop_nil, Nat.reduceAdd, Nat.reduceSub, Nat.reduceLeDiff, Int.reduceLT, Int.reduceLE, Int.reduceEq, cast0, reduceIte, Nat.reduceEqDiff, jo, hg3, e1, qdi]
  refine C3.q (qt3 (M := M) hv3 (by have := hx.time; omega) (by simp only [List.length_append, List.length_singleton]; omega)) fun v4 H4 ⟨hv4, hf4⟩ => ?_
  obtain ⟨hg4, hl4, hn4⟩ := hf4.get hl3 hn3
  rw [hg3] at hg4
  have haf : Aft a H v4 H4 := ((hf2.trans hf3).trans hf4).pre hf1
  have htl : (putB x.time.toNat).length ≤ 10 := qf4 9 _ (Nat.lt_trans (show x.time.toNat < 9223372036854775808 by have := hx.time; omega) (by decide))
  have ht4 : Tab H4 := ht.em hv4.fr
  obtain ⟨n1, n2⟩ := ht4.nm (k := x.kind) (by omega) (by omega)
  simp (maxSteps := 4000000) (disch := first | (simp only [qb, qd]; done) | (simp only [qb, qd]; omega) | omega) only [↓JN_eq, CTL3, OPS3, MEM3, List.length_cons, List.length_nil, List.take_zero, List.take_succ_cons, List.drop_zero, List.drop_succ_cons, List.take_nil, List.drop_nil, Nat.reduceAdd, Nat.reduceSub, Nat.reduceLeDiff, Int.reduceLT, Int.reduceLE, Int.reduceEq, cast0, reduceIte, Nat.reduceEqDiff, jo, hg4, e0, n1] at n2 ⊢
  simp (maxSteps := 4000000) (disch := first | (simp only [qb, qd]; done) | (simp only [qb, qd]; omega) | omega) only [↓JN_eq, CTL3, OPS3, MEM3, List.length_cons, List.length_nil, List.take_zero, List.take_succ_cons, List.drop_zero, List.drop_succ_cons, List.take_nil, List.drop_nil, Nat.reduceAdd, Nat.reduceSub, Nat.reduceLeDiff, Int.reduceLT, Int.reduceLE, Int.reduceEq, cast0, reduceIte, Nat.reduceEqDiff, jo, n2, qff]
  obtain ⟨s, hs⟩ : ∃ s, s = named x.kind := ⟨_, rfl⟩
  rw [← hs]
  have hsl : s.length ≤ 4 := by rw [hs]; unfold named; (repeat' split) <;> decide
  have hv4l : (xs ++ [UInt8.ofNat x.kind.toNat] ++ putB x.core.toNat ++ putB x.time.toNat).length ≤ xs.length + 21 := by simp only [List.length_append, List.length_singleton]; omega
  generalize hys : xs ++ [UInt8.ofNat x.kind.toNat] ++ putB x.core.toNat ++ putB x.time.toNat = ys at hv4 hv4l
  have hfld : ∀ l ∈ s, 0 ≤ getN x l ∧ getN x l < 18446744073709551616 ∧ isL l ∧ (l = 118 ∨ getN x l < 9223372036854775808) := fun l hl => by
    have hil := (qcm (hs ▸ hl : l ∈ named x.kind)).1
    obtain ⟨q1, q2, q3⟩ := hx.get hil (qio _ _ _ h6 l (hs ▸ hl))
    exact ⟨q1, q2, hil, q3⟩
  refine LOOP3.intro (fun n E Hc => ∃ p w, E = [(28, .ptr H4.next 0), (0, w), (3, .ptr H.next 0)] ∧ n = s.length - p ∧ p ≤ s.length ∧ Hc.get H.next = some (OR x.enc qc) ∧ H.next < Hc.next ∧ ¬ OnS w H.next ∧ Hc.get H4.next = some (.strIter s p) ∧ H4.next < Hc.next ∧ ¬ OnS w H4.next ∧ NewB H0 Hc w (ys ++ (s.take p).flatMap fun l => putB (numB x l)) ∧ Aft a H w Hc) ?_ ?_
  · have hg5 : (H4.alloc (.strIter s 0)).get H.next = some (OR x.enc qc) := by rw [x6 hl4, hg4]
    exact ⟨_, _, ⟨0, v4, rfl, rfl, by omega, hg5, by rw [xf]; omega, hn4, qk _ _, by rw [xf]; omega, hv4.apartR (Nat.le_refl _), by simpa using hv4.em ((Fr.refl H4).alloc _), haf.em ((Fr.refl H4).alloc _)⟩, by simp only [↓JN_eq, CTL3, OPS3, cast0, reduceIte, Nat.reduceEqDiff]⟩
  rintro n E Hc ⟨p, w, rfl, rfl, hp, g1, g2, g3, g4, g5, g6, hw, hac⟩
  rcases Nat.lt_or_ge p s.length with hlp | hlp
  · obtain ⟨l, hl⟩ : ∃ l, s[p]? = some l := ⟨s[p], by simp [hlp]⟩
    obtain ⟨hil, h128⟩ := qcm (hs ▸ List.mem_of_getElem? hl : l ∈ named x.kind)
    obtain ⟨r0, r1, _, r2⟩ := hfld l (List.mem_of_getElem? hl)
    have egU : gU x l = ((numB x l : Nat) : Int) := by
      unfold gU numB
      split
      · rename_i h; subst h; simp only [getN] at r0 ⊢; (first | omega | (simp at r0 ⊢; omega))
      · rw [qdf r0 r1]; omega
    simp (maxSteps := 4000000) (disch := first | (simp only [qb, qd]; done) | (simp only [qb, qd]; omega) | omega) only [↓JN_eq, CTL3, OPS3, MEM3, List.length_cons, List.length_nil, List.take_zero, List.take_succ_cons, List.drop_zero, List.drop_succ_cons, List.take_nil, List.drop_nil, Nat.reduceAdd, Nat.reduceSub, Nat.reduceLeDiff, Int.reduceLT, Int.reduceLE, Int.reduceEq, cast0, reduceIte, Nat.reduceEqDiff, jo, qis g4 hl h128, g1, ev9, evt9]
    have hHn : H.next ≤ H4.next := by omega
    have hw1 := hw.setOff (b := H4.next) hv4.fr.next g6 (.strIter s (p + 1))
    have hac1 := hac.setOff hHn (.strIter s (p + 1))
    refine C3.q (qt8 (M := M) hil) fun v H5 ⟨hv, hf5⟩ => ?_
    subst hv
    have k1 : H5.get H.next = some (OR x.enc qc) := by rw [hf5.keep _ g2 (fun h => h), qn (by omega), g1]
    have k4 : H5.get H4.next = some (.strIter s (p + 1)) := by rw [hf5.keep _ g5 (fun h => h), qo]
    have hn5 := hf5.next
    rw [qbs] at hn5
    have hbl : ((s.take p).flatMap fun l => putB (numB x l)).length ≤ 40 := by
      refine Nat.le_trans (qhn (k := 10) fun l hl => ?_) (by rw [List.length_take]; omega)
      have := (hfld l (List.mem_of_mem_take hl)).2.1
      exact qf4 9 _ (Nat.lt_of_lt_of_le (show numB x l < 18446744073709551616 by unfold numB; omega) (by decide))
    simp (maxSteps := 4000000) (disch := first | (simp only [qb, qd]; done) | (simp only [qb, qd]; omega) | omega) only [↓JN_eq, CTL3, OPS3, MEM3, List.length_cons, List.length_nil, List.take_zero, List.take_succ_cons, List.drop_zero, List.drop_succ_cons, List.take_nil, List.drop_nil, Nat.reduceAdd, Nat.reduceSub, Nat.reduceLeDiff, Int.reduceLT, Int.reduceLE, Int.reduceEq, cast0, reduceIte, Nat.reduceEqDiff, jo, egU]
    refine C3.q (qt3 (M := M) (hw1.em hf5) (by unfold numB; omega) (by rw [List.length_append]; omega)) fun v6 H6 ⟨hv6, hf6⟩ => ?_
    obtain ⟨m1, m2, m3⟩ := hf6.get (show H.next < H5.next by omega) g3
    obtain ⟨m4, m5, m6⟩ := hf6.get (show H4.next < H5.next by omega) g6
    simp (maxSteps := 4000000) (disch := first | (simp only [qb, qd]; done) | (simp only [qb, qd]; omega) | omega) only [↓JN_eq, CTL3, OPS3, MEM3, List.length_cons, List.length_nil, List.take_zero, List.take_succ_cons, List.drop_zero, List.drop_succ_cons, List.take_nil, List.drop_nil, Nat.reduceAdd, Nat.reduceSub, Nat.reduceLeDiff, Int.reduceLT, Int.reduceLE, Int.reduceEq, cast0, reduceIte, Nat.reduceEqDiff, jo]
    refine ⟨_, _, ⟨p + 1, v6, rfl, rfl, by omega, by rw [m1, k1], m2, m3, by rw [m4, k4], m5, m6, ?_, (hac1.em hf5).trans hf6⟩, by simp only [↓JN_eq, CTL3, OPS3, cast0, reduceIte, Nat.reduceEqDiff], by omega⟩
    rw [List.take_add_one, hl, List.flatMap_append, ← List.append_assoc]
    simpa using hv6
  · have hp : p = s.length := by omega
    subst hp
    simp (maxSteps := 4000000) (disch := first | (simp only [qb, qd]; done) | (simp only [qb, qd]; omega) | omega) only [↓JN_eq, CTL3, OPS3, MEM3, List.length_cons, List.length_nil, List.take_zero, List.take_succ_cons, List.drop_zero, List.drop_succ_cons, List.take_nil, List.drop_nil, Nat.reduceAdd, Nat.reduceSub, Nat.reduceLeDiff, Int.reduceLT, Int.reduceLE, Int.reduceEq, cast0, reduceIte, Nat.reduceEqDiff, jo, qjg g4 (Nat.le_refl _)]
    rw [List.take_length, ← hys] at hw
    refine ⟨?_, hac⟩
    rw [hs] at hw
    simpa [encE] using hw
theorem Evt.one' (x : Evt) : allOne x.enc = true := rfl
theorem q14 {x : Evt} (hx : EvR x) (hf : fineB x = true) : (encE x).length ≤ 61 := by
  obtain ⟨⟨h1, h2, h3, h4, h5⟩, h6⟩ := qe6 hf
  have hsl : (named x.kind).length ≤ 4 := by unfold named; (repeat' split) <;> decide
  have hcl : (putB x.core.toNat).length ≤ 10 := qf4 9 _ (Nat.lt_of_le_of_lt (show x.core.toNat ≤ 4 by omega) (by decide))
  have htl : (putB x.time.toNat).length ≤ 10 := qf4 9 _ (Nat.lt_trans (show x.time.toNat < 9223372036854775808 by have := hx.time; omega) (by decide))
  have := qhn (l := named x.kind) (f := fun l => putB (numB x l)) (k := 10) fun l hl => by
    obtain ⟨q1, q2, q3⟩ := hx.get (qcm hl).1 (qio _ _ _ h6 l hl)
    exact qf4 9 _ (Nat.lt_of_lt_of_le (show numB x l < 18446744073709551616 by unfold numB; omega) (by decide))
  simp only [encE, List.length_cons, List.length_append]
  omega
def EncQ (h : List Evt) (H : AHeap) (v : AV) (H' : AHeap) : Prop := Fr Em H H' ∧ ((h.all fineB = true ∧ ∃ w, v = .tuple [w, .int .i64 0] ∧ NewB H H' w (h.flatMap encE)) ∨ (h.all fineB = false ∧ v = .tuple [.nils, .int .i64 2]))
theorem q3f {H : AHeap} {a : AV} {h : List Evt} (ha : SlT Evt.enc 9 H a h) (ht : Tab H) (hx : ∀ x ∈ h, EvR x) (hl : h.length ≤ 5000) :
    CALLQ M yb [a, .fn (.func jm) [] []] H (EncQ h H) := by
  refine qn4 ?_
  simp only [↓JN_eq, CTL3, OPS3, cast0, reduceIte, Nat.reduceEqDiff, yc, ha.len]
  refine LOOP3.intro (fun n E Hc => ∃ i w, E = [(9, a), (10, .int .i64 h.length), (11, .int .i64 (i : Nat)), (6, w), (1, .fn (.func jm) [] [])] ∧ n = h.length - i ∧ i ≤ h.length ∧ (h.take i).all fineB = true ∧ NewB H Hc w ((h.take i).flatMap encE)) ?_ ?_
  · exact ⟨_, _, ⟨0, .nils, rfl, rfl, by omega, by simp, New.nil H⟩, by simp only [↓JN_eq, CTL3, OPS3, cast0, reduceIte, Nat.reduceEqDiff]⟩
  rintro n E Hc ⟨i, w, rfl, rfl, hi, hfi, hw⟩
  simp only [↓JN_eq, CTL3, OPS3, cast0, reduceIte, Nat.reduceEqDiff, yc]
  refine IF3.dec (fun hlt => ?_) (fun hge => ?_)
  · have hlt : i < h.length := by omega
    obtain ⟨x, hxi⟩ : ∃ x, h[i]? = some x := ⟨h[i], by simp [hlt]⟩
    have hxm := List.mem_of_getElem? hxi
    have ha1 := ha.em hw.fr
    have htk : h.take (i + 1) = h.take i ++ [x] := by rw [List.take_add_one, hxi]; rfl
    have ew : wrapI .i64 ((i : Nat) + 1 : Int) = ((i + 1 : Nat) : Int) := xm (by omega) (by omega)
    have hbl : ((h.take i).flatMap encE).length ≤ 5000 * 61 := by
      refine Nat.le_trans (qhn (k := 61) fun y hy => q14 (hx y (List.mem_of_mem_take hy)) (List.all_eq_true.1 hfi y hy)) (Nat.mul_le_mul_right _ (by rw [List.length_take]; omega))
    simp (maxSteps := 4000000) (disch := first | (simp only [qb, qd]; done) | (simp only [qb, qd]; omega) | omega) only [↓JN_eq, CTL3, OPS3, MEM3, List.length_cons, List.length_nil, List.take_zero, List.take_succ_cons, List.drop_zero, List.drop_succ_cons, List.take_nil, List.drop_nil, Nat.reduceAdd, Nat.reduceSub, Nat.reduceLeDiff, Int.reduceLT, Int.reduceLE, Int.reduceEq, cast0, reduceIte, Nat.reduceEqDiff, yc, ha1.idx hxi rfl, ha1.loadN Evt.len (show 0 < 9 by omega) hxi, ev9, evt9, ql6, Evt.one', List.append_nil]
    have hf1 : Fr Em Hc (Hc.alloc (OR x.enc qc)) := (Fr.refl Hc).alloc _
    refine C3.q (qwb (M := M) (hx x hxm) (ht.em (hw.fr.em hf1))) fun v H2 ⟨hv, hf2⟩ => ?_
    subst hv
    have hg : H2.get Hc.next = some (OR x.enc qc) := by rw [hf2.keep _ (by rw [xf]; omega) (fun h => h), qk]
    have hw2 := hw.em (hf1.em hf2)
    cases hq : fineB x with
    | false =>
      simp (maxSteps := 4000000) (disch := first | (simp only [qb, qd]; done) | (simp only [qb, qd]; omega) | omega) only [↓JN_eq, CTL3, OPS3, MEM3, List.length_cons, List.length_nil, List.take_zero, List.take_succ_cons, List.drop_zero, List.drop_succ_cons, List.take_nil, List.drop_nil, Nat.reduceAdd, Nat.reduceSub, Nat.reduceLeDiff, Int.reduceLT, Int.reduceLE, Int.reduceEq, cast0, reduceIte, Nat.reduceEqDiff, yc, hq]
      exact ⟨hw2.fr, .inr ⟨by
        rw [Bool.eq_false_iff]; intro hall
        have := List.all_eq_true.1 hall x hxm
        rw [hq] at this; exact absurd this (by decide), rfl⟩⟩
    | true =>
      simp (maxSteps := 4000000) (disch := first | (simp only [qb, qd]; done) | (simp only [qb, qd]; omega) | omega) only [↓JN_eq, CTL3, OPS3, MEM3, List.length_cons, List.length_nil, List.take_zero, List.take_succ_cons, List.drop_zero, List.drop_succ_cons, List.take_nil, List.drop_nil, Nat.reduceAdd, Nat.reduceSub, Nat.reduceLeDiff, Int.reduceLT, Int.reduceLE, Int.reduceEq, cast0, reduceIte, Nat.reduceEqDiff, yc, hq, hg, ev9, evt9, List.nil_append, List.append_nil]
      refine C3.q (qvj (M := M) ht (hx x hxm) hq hw2 (by omega)) fun v3 H3 ⟨hv3, hf3⟩ => ?_
      simp only [↓JN_eq, CTL3, OPS3, cast0, reduceIte, Nat.reduceEqDiff, yc, ew]
      exact ⟨_, _, ⟨i + 1, v3, rfl, rfl, by omega, by rw [htk, List.all_append, hfi]; simp [hq], by rw [htk, List.flatMap_append]; simpa using hv3⟩, by simp only [↓JN_eq, CTL3, OPS3, cast0, reduceIte, Nat.reduceEqDiff], by omega⟩
  · simp only [↓JN_eq, CTL3, OPS3, cast0, reduceIte, Nat.reduceEqDiff, yc]
    rw [List.take_of_length_le (by omega)] at hfi hw
    exact ⟨hw.fr, .inl ⟨hfi, w, rfl, hw⟩⟩
theorem qyi {H : AHeap} {a : AV} {h : List Evt} (ha : SlT Evt.enc 9 H a h) (ht : Tab H) (hx : ∀ x ∈ h, EvR x) (hl : h.length ≤ 5000) :
    CALLQ M kp [a] H (EncQ h H) := by
  refine qrn ?_
  simp only [↓JN_eq, CTL3, OPS3, cast0, reduceIte, Nat.reduceEqDiff, qgg]
  refine C3.q (q3f (M := M) ha ht hx hl) fun v H' ⟨hf, hq⟩ => ?_
  rcases hq with ⟨h1, w, rfl, h3⟩ | ⟨h1, rfl⟩
  · simp (maxSteps := 4000000) (disch := first | (simp only [qb, qd]; done) | (simp only [qb, qd]; omega) | omega) only [↓JN_eq, CTL3, OPS3, MEM3, List.length_cons, List.length_nil, List.take_zero, List.take_succ_cons, List.drop_zero, List.drop_succ_cons, List.take_nil, List.drop_nil, Nat.reduceAdd, Nat.reduceSub, Nat.reduceLeDiff, Int.reduceLT, Int.reduceLE, Int.reduceEq, cast0, reduceIte, Nat.reduceEqDiff, qgg]; exact ⟨hf, .inl ⟨h1, w, rfl, h3⟩⟩
  · simp (maxSteps := 4000000) (disch := first | (simp only [qb, qd]; done) | (simp only [qb, qd]; omega) | omega) only [↓JN_eq, CTL3, OPS3, MEM3, List.length_cons, List.length_nil, List.take_zero, List.take_succ_cons, List.drop_zero, List.drop_succ_cons, List.take_nil, List.drop_nil, Nat.reduceAdd, Nat.reduceSub, Nat.reduceLeDiff, Int.reduceLT, Int.reduceLE, Int.reduceEq, cast0, reduceIte, Nat.reduceEqDiff, qgg]; exact ⟨hf, .inr ⟨h1, rfl⟩⟩
end Go.Am
