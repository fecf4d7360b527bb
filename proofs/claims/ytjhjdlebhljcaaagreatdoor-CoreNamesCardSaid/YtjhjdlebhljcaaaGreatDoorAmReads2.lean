/- MORE READS: cells of slices, strings of bytes, casts, equality. -/
import Derived.Test.YtjhjdlebhljcaaaGreatDoorAmReads
import Derived.Laws.Cover3
import Derived.Laws.Pointers
namespace Go.Am
set_option linter.unusedVariables false
set_option linter.unusedSimpArgs false
section
variable {P : Program} {base : Nat} {D : Nat → Prop} {θ : Th} {H : AHeap} {w : World}

def isStr : AV → Bool
  | .str _ => true
  | _ => false

theorem firstCells_run (hh : HR P base D θ H w) {x : AV} {c : Value} {size n k : Nat} {l : List AV} (hx : VR D θ x c) (hk : lenV x = some k) (hn : n ≤ k) (hs : isStr x = false)
    (h : firstCells H size n x = some l) : ∃ a len cap, c = .slice a len cap ∧ len = k ∧ ((a = none ∧ l = [] ∧ n = 0 ∧ k = 0) ∨
      ∃ ad cs, a = some ad ∧ (loadCells ad (n * size)).run P w = .ok cs.toArray w ∧ VRL D θ l cs ∧ l.length = n * size) := by
  have hz : ∀ a, (loadCells a 0).run P w = .ok ([] : List Value).toArray w := fun a => rfl
  cases x <;> simp only [lenV, reduceCtorEq, Option.some.injEq] at hk
  case str s => cases hs
  case nils =>
    subst hk
    simp only [firstCells, Option.some.injEq] at h; subst h
    exact ⟨none, 0, 0, hx.now.symm, rfl, .inl ⟨rfl, rfl, by omega, rfl⟩⟩
  case slice b o n' cp =>
    subst hk
    simp only [firstCells] at h
    refine ⟨_, _, _, hx.now.symm, rfl, .inr ?_⟩
    cases hb : Nat.beq n 0 with
    | true =>
      have : n = 0 := by simpa using hb
      subst this
      rw [hb] at h; injection h with h; subst h
      exact ⟨_, [], rfl, by simpa using hz _, .nil, by simp⟩
    | false =>
      rw [hb] at h
      obtain ⟨cs, h1, h2, h3⟩ := hh.loadN h
      exact ⟨_, cs, rfl, h1, h2, h3⟩
  case eslice b =>
    subst hk
    have : n = 0 := by omega
    subst this
    simp only [firstCells, Nat.beq, cond_true, Option.some.injEq] at h; subst h
    exact ⟨_, _, _, hx.now.symm, rfl, .inr ⟨_, [], rfl, by simpa using hz _, .nil, by simp⟩⟩
  case gslice b i m s alt n' =>
    subst hk
    simp only [firstCells] at h
    refine ⟨_, _, _, hx.now.symm, rfl, .inr ?_⟩
    cases hb : Nat.beq n 0 with
    | true =>
      have : n = 0 := by simpa using hb
      subst this
      rw [hb] at h; injection h with h; subst h
      exact ⟨_, [], rfl, by simpa using hz _, .nil, by simp⟩
    | false =>
      rw [hb] at h
      simp only [cond_false] at h
      cases hc : (Nat.beq s size && Nat.blt i m) with
      | false => rw [hc] at h; cases h
      | true =>
        rw [hc] at h
        simp only [Bool.and_eq_true, Nat.beq_eq, Nat.blt_eq] at hc
        obtain ⟨rfl, hi⟩ := hc
        obtain ⟨cs, h1, h2, h3⟩ := hh.loadN h
        refine ⟨_, cs, rfl, ?_, h2, h3⟩
        rw [if_neg (by omega)]
        exact h1

theorem bytesOf_conc : ∀ (l : List AV) (cs : List Value) (s : List UInt8), VRL D θ l cs → bytesOf l = some s → ∃ ns : List Int, cs = ns.map (Value.int .u8) ∧ ns.map (fun n => UInt8.ofNat n.toNat) = s
  | [], cs, s, h, hs => by
    injection hs with hs; subst hs
    rw [h.nil_inv]; exact ⟨[], rfl, rfl⟩
  | x :: l, cs, s, h, hs => by
    obtain ⟨c, cs', rfl, h1, h2⟩ := h.uncons
    simp only [bytesOf, Option.bind_eq_some_iff] at hs
    obtain ⟨b, hb, r, hr, hs⟩ := hs
    injection hs with hs; subst hs
    obtain ⟨ns, rfl, e⟩ := bytesOf_conc l cs' r h2 hr
    unfold byteOf at hb
    split at hb
    · rename_i n
      injection hb with hb; subst hb
      exact ⟨n :: ns, by rw [← h1.now]; rfl, by simp [e]⟩
    · cases hb

theorem fold_push (ns : List Int) (acc : List UInt8) : ns.foldl (fun r n => r.push (UInt8.ofNat n.toNat)) (⟨acc.toArray⟩ : ByteArray) = ⟨(acc ++ ns.map (fun n => UInt8.ofNat n.toNat)).toArray⟩ := by
  induction ns generalizing acc with
  | nil => simp
  | cons n ns ih =>
    simp only [List.foldl_cons, List.map_cons]
    have : (⟨acc.toArray⟩ : ByteArray).push (UInt8.ofNat n.toNat) = ⟨(acc ++ [UInt8.ofNat n.toNat]).toArray⟩ := by simp [ByteArray.push]
    rw [this, ih]; simp

theorem read_strOfBytes {o : Oper} {src dst e : TypeId} {x : Operand} (ho : o.op = .convert src dst x) (h1 : P.underlying src = some (.slice e)) (he : P.underlying e = some (.int .u8)) (h2 : P.underlying dst = some .string) :
    ReadOK P o [x] Op.strOfBytes := by
  intro base D θ H ρ w vs v hh h hv
  unfold Op.strOfBytes at hv
  split at hv
  · cases hv
  · rename_i a hns
    obtain ⟨x', hx', ha⟩ := h.len1
    simp only [List.cons.injEq, and_true] at hx'; subst hx'
    simp only [Option.bind_eq_some_iff] at hv
    obtain ⟨n, hn, l, hl, s, hs, hv⟩ := hv
    injection hv with hv; subst hv
    have hstr : isStr a = false := by
      cases a <;> first | rfl | exact absurd rfl (hns _)
    obtain ⟨ad, len, cap, hc, rfl, hcase⟩ := firstCells_run hh ha hn (Nat.le_refl _) hstr hl
    refine ⟨_, .inl ?_, .str s⟩
    simp only [execOp, ho, hc, Sem.run_bind, run_convert_bytes_string w src dst e _ _ _ h1 he h2]
    rcases hcase with ⟨rfl, rfl, _, _⟩ | ⟨ad, cs, rfl, g1, g2, g3⟩
    · injection hs with hs; subst hs
      simp [Conv.bytesToString]
      rfl
    · obtain ⟨ns, rfl, e2⟩ := bytesOf_conc _ _ _ g2 hs
      rw [Nat.mul_one] at g1
      rw [run_bytesToString w ad len cap ns g1]
      have := fold_push ns []
      simp only [List.nil_append, e2] at this
      simp only [Result.andThen_ok, Sem.run_pure]
      rw [show (ByteArray.empty) = (⟨([] : List UInt8).toArray⟩ : ByteArray) from rfl, this]
  · cases hv
end
end Go.Am
