/- ARGUMENTS: slices. -/
import Derived.Test.YtkfheegmlgfdoaaTAmArgs
namespace Go.Am
open Go.RowKit
set_option linter.unusedVariables false
set_option linter.unusedSimpArgs false

theorem cells_some {W : World} {k o n : Nat} {cs : List Value} (hn : 0 < n) (h : W.cells? 0 ⟨k, o, none⟩ n = some cs) : ∃ arr e fz, W.heap[k]? = some (.cells arr e fz) ∧ cs = (arr.toList.drop o).take n ∧ o + n ≤ arr.size := by
  unfold World.cells? at h
  rw [if_pos (Nat.zero_le _)] at h
  have hlen := mapM_some_length h
  have hget := fun i (hi : i < n) => mapM_some_get h i i (by simp [hi])
  obtain ⟨c0, h0⟩ : ∃ c, W.cell? ⟨k, o, none⟩ = some c := by
    have := hget 0 hn
    have hl : 0 < cs.length := by rw [hlen]; simpa using hn
    exact ⟨cs[0], by simpa [Addr.add, hl] using this⟩
  obtain ⟨arr, e, fz, hh⟩ : ∃ arr e fz, W.heap[k]? = some (.cells arr e fz) := by
    unfold World.cell? at h0
    split at h0
    · rename_i arr e fz hh; exact ⟨arr, e, fz, hh⟩
    · cases h0
  refine ⟨arr, e, fz, hh, ?_, ?_⟩
  · refine List.ext_getElem? fun i => ?_
    by_cases hi : i < n
    · have := hget i hi
      rw [addr_add, cell_of hh] at this
      rw [List.getElem?_take, if_pos hi, List.getElem?_drop]
      rw [← Array.getElem?_toList] at this
      exact this.symm
    · rw [List.getElem?_eq_none (by rw [hlen]; simp; omega), List.getElem?_eq_none (by simp; omega)]
  · have := hget (n - 1) (by omega)
    rw [addr_add, cell_of hh] at this
    have hl : n - 1 < cs.length := by rw [hlen]; simp; omega
    rw [List.getElem?_eq_getElem hl] at this
    have := (Array.getElem?_eq_some_iff.1 this).1
    omega
theorem flatten_take {α : Type} {L : List α} {size : Nat} : ∀ {cs : List (List α)} {o : Nat}, (∀ (i : Nat) c, cs[i]? = some c → c = (L.drop (o + i * size)).take size ∧ c.length = size) → cs.flatten = (L.drop o).take (cs.length * size)
  | [], o, _ => by simp
  | c :: cs, o, h => by
    obtain ⟨h1, h2⟩ := h 0 c rfl
    rw [Nat.zero_mul, Nat.add_zero] at h1
    have ih := flatten_take (cs := cs) (o := o + size) fun i d hd => by
      have := h (i + 1) d (by simpa using hd)
      rw [show o + size + i * size = o + (i + 1) * size from by rw [Nat.succ_mul]; omega]; exact this
    rw [List.flatten_cons, ih, List.length_cons, Nat.succ_mul, Nat.add_comm (cs.length * size), List.take_add, List.drop_drop, ← h1]

section
variable {P : Program}
/-- a slice of elements of which `R` holds -/
def SlP (R : List AV → Prop) (size : Nat) (H : AHeap) (u : AV) : Prop := ∃ ls : List (List AV), (∀ l ∈ ls, R l ∧ l.length = size) ∧ Sl H size u ls.length ls.flatten
theorem SlP.em {R : List AV → Prop} {size : Nat} {H H' : AHeap} {u : AV} (h : SlP R size H u) (f : Fr Em H H') : SlP R size H' u := by
  obtain ⟨ls, h1, h2⟩ := h; exact ⟨ls, h1, h2.em f⟩
/-- a block without a row -/
theorem Step.bare {W : World} {θ : Th} {n : Nat} {gl : GL} (h : Good W θ n gl) (k off : Nat) : Step W θ n gl (θ.add n k off 0) (n + 1) gl := by
  have hag : Ag (Lt n) θ (θ.add n k off 0) := θ.add_ag n k off 0 (Nat.lt_irrefl n)
  have hd : ∀ b, Lt n b → Lt (n + 1) b := fun b hb => Nat.lt_succ_of_lt hb
  refine ⟨Nat.le_succ n, hag, fun b l' hm => ?_, fun b hb => rfl⟩
  obtain ⟨h1, pre, cs, post, e, fz, h2, h3, h4⟩ := h b l' hm
  obtain ⟨q1, q2, _⟩ := hag b h1
  exact ⟨Nat.lt_succ_of_lt h1, pre, cs, post, e, fz, by rw [q1]; exact h2, by rw [q2]; exact h3, h4.up hag hd⟩
theorem conc_len (θ : Th) (l : List AV) : (concL θ l).length = l.length := by rw [concL_eq]; simp
theorem arg_slice {t e : TypeId} {R : List AV → Prop} (ht : P.underlying t = some (.slice e)) (hR : FlatP P e R) (hs : 0 < P.cellsOf e) {H : Type} {enc : TypeId × Value → H} {W : World} {sp : Nat → Bool} {held : Bool} {fuel : Nat} {v : Value} {d : DataW H} {ps : List MemPlace}
    (h : DataW.trod enc P W 0 sp held fuel t [v] = some (d, ps)) (hok : ∀ a len cap, v = .slice (some a) len cap → a.spot = none) {θ : Th} {n : Nat} {gl : GL} (hg : Good W θ n gl) :
    ∃ θ' n' gl' u, Step W θ n gl θ' n' gl' ∧ VR (Lt n') θ' u v ∧ SlP R (P.cellsOf e) (givenHeap gl' n') u ∧ (u = .nils ∨ slB u < n') := by
  cases fuel with
  | zero => cases h
  | succ f =>
    have key : v = .slice none 0 0 ∨ ∃ a len cap, v = .slice (some a) len cap ∧ len ≤ cap ∧ ∀ i, i < len → ∃ cs x, W.cells? 0 (a.add (i * P.cellsOf e)) (P.cellsOf e) = some cs ∧ DataW.trod enc P W 0 sp held f e cs = some x := by
      cases v with
      | slice p len cap =>
        cases p with
        | none =>
          left
          simp only [DataW.trod, ht] at h
          split at h <;> first | (cases h; done) | skip
          all_goals simp_all
        | some a =>
          right
          simp only [DataW.trod, ht] at h
          split at h
          · rename_i hb
            simp only [Option.bind_eq_some_iff] at h
            obtain ⟨elems, he, _⟩ := h
            refine ⟨a, len, cap, rfl, hb.2.1, fun i hi => ?_⟩
            have hl := mapM_some_length he
            have := mapM_some_get he i i (by simp [hi])
            have hi' : i < elems.length := by rw [hl]; simpa using hi
            rw [List.getElem?_eq_getElem hi'] at this
            obtain ⟨cs, q1, q2⟩ := Option.bind_eq_some_iff.1 this
            exact ⟨cs, _, q1, q2⟩
          · cases h
      | _ => simp [DataW.trod, ht] at h
    rcases key with rfl | ⟨a, len, cap, rfl, hlc, hel⟩
    · exact ⟨θ, n, gl, .nils, Step.refl hg, fun _ _ => rfl, ⟨[], by simp, by simp, rfl⟩, .inl rfl⟩
    · obtain ⟨k, o, s⟩ := a
      have hsp : s = none := hok _ _ _ rfl
      subst hsp
      by_cases h0 : len = 0
      · subst h0
        refine ⟨_, _, _, .slice n 0 0 cap, Step.bare hg k o, ?_, ⟨[], by simp, by simp, rfl, Nat.zero_le _, .inl rfl⟩, .inr (Nat.lt_succ_self n)⟩
        have := VR.slice (D := Lt (n + 1)) (θ := θ.add n k o 0) (b := n) (o := 0) (n := 0) (c := cap) (Nat.lt_succ_self n : Lt (n + 1) n)
        obtain ⟨q1, q2, _⟩ := θ.add_new n k o 0
        simpa [conc, q1, q2] using this
      · -- the elements
        have hex : ∀ i : Nat, ∃ l, i < len → (R l ∧ l.length = P.cellsOf e) ∧ ∃ cs, W.cells? 0 ⟨k, o + i * P.cellsOf e, none⟩ (P.cellsOf e) = some cs ∧ ∀ θ, concL θ l = cs := fun i => by
          by_cases hi : i < len
          · obtain ⟨cs, x, h1, h2⟩ := hel i hi
            rw [addr_add] at h1
            obtain ⟨l, h3, h4⟩ := hR enc W 0 sp held f cs x.1 x.2 h2
            refine ⟨l, fun _ => ⟨⟨h3, ?_⟩, cs, h1, h4⟩⟩
            rw [← conc_len θ l, h4]
            have := cells_some hs h1
            obtain ⟨arr, e', fz, q1, q2, q3⟩ := this
            rw [q2]; simp; omega
          · exact ⟨[], fun h => (hi h).elim⟩
        obtain ⟨F, hF⟩ := Classical.axiomOfChoice hex
        obtain ⟨_, cs0, hc0, _⟩ := hF 0 (by omega)
        obtain ⟨arr, e', fz, hh, _, _⟩ := cells_some hs hc0
        have hlast := hF (len - 1) (by omega)
        obtain ⟨_, csl, hcl, _⟩ := hlast
        obtain ⟨arr', e2, fz2, hh', _, hle⟩ := cells_some hs hcl
        rw [hh] at hh'; injection hh' with hh'; injection hh' with q1 q2 q3; subst q1
        have hmul : (len - 1) * P.cellsOf e + P.cellsOf e = len * P.cellsOf e := by rw [← Nat.succ_mul]; congr 1; omega
        let ls := (List.range len).map F
        have hls : ls.length = len := by simp [ls]
        have hlsg : ∀ (i : Nat) l, ls[i]? = some l → i < len ∧ l = F i := fun i l hl => by
          simp only [ls, List.getElem?_map, Option.map_eq_some_iff] at hl
          obtain ⟨j, hj, rfl⟩ := hl
          have hi : i < len := by have := lt_of_get hj; simpa using this
          simp [hi] at hj
          exact ⟨hi, by rw [hj]⟩
        have hcat : ∀ θ, concL θ ls.flatten = (arr.toList.drop o).take (len * P.cellsOf e) := fun θ => by
          have h1 : concL θ ls.flatten = (ls.map (concL θ)).flatten := by
            rw [concL_eq, List.map_flatten]; congr 1; refine List.map_congr_left fun l _ => ?_; rw [concL_eq]
          rw [h1, flatten_take (L := arr.toList) (o := o) (size := P.cellsOf e) fun i c hc => ?_, List.length_map, hls]
          rw [List.getElem?_map, Option.map_eq_some_iff] at hc
          obtain ⟨l, hl, rfl⟩ := hc
          obtain ⟨hi, rfl⟩ := hlsg i l hl
          obtain ⟨⟨_, h3⟩, cs, h4, h5⟩ := hF i hi
          obtain ⟨arr', e2, fz2, hh', h6, h7⟩ := cells_some hs h4
          rw [hh] at hh'; injection hh' with hh'; injection hh' with q1 q2 q3; subst q1
          exact ⟨by rw [h5 θ]; exact h6, by rw [conc_len, h3]⟩
        have hsz : o + len * P.cellsOf e ≤ arr.size := by omega
        have hflen : ls.flatten.length = len * P.cellsOf e := by rw [← conc_len θ, hcat θ, List.length_take, List.length_drop, Array.length_toList]; omega
        have hrow := Step.row (l := ls.flatten) (k := k) (off := o) (pre := arr.toList.take o) (cs := (arr.toList.drop o).take (len * P.cellsOf e)) (post := arr.toList.drop (o + len * P.cellsOf e)) (e := e') (fz := fz) hg (by
          rw [hh]; congr 2
          have hq : arr.toList.take o ++ (arr.toList.drop o).take (len * P.cellsOf e) ++ arr.toList.drop (o + len * P.cellsOf e) = arr.toList := by
            rw [List.append_assoc, ← List.drop_drop, List.take_append_drop, List.take_append_drop]
          rw [hq]) (by simp; omega) (fun θ' _ => hcat θ')
        refine ⟨_, _, _, .slice n 0 len cap, hrow, ?_, ⟨ls, fun l hl => ?_, ?_⟩, .inr (Nat.lt_succ_self n)⟩
        · have := VR.slice (D := Lt (n + 1)) (θ := θ.add n k o 0) (b := n) (o := 0) (n := len) (c := cap) (Nat.lt_succ_self n : Lt (n + 1) n)
          obtain ⟨q1, q2, _⟩ := θ.add_new n k o 0
          simpa [conc, q1, q2] using this
        · obtain ⟨i, hi⟩ := List.mem_iff_getElem?.1 hl
          obtain ⟨hi', rfl⟩ := hlsg i l hi
          exact (hF i hi').1
        · refine ⟨by rw [hflen, hls], hls.symm, by rw [hls]; exact hlc, .inr ⟨Nat.lt_succ_self n, ls.flatten, cellsAt_row (fz := (0, 0)) (e := 0) (ow := false) ?_, ?_⟩⟩
          · show (givenRows ((n, ls.flatten) :: gl) .nil).get n = _
            rw [givenRows, T.get_set, if_pos rfl]
          · rw [hls, takeAt_eq, if_pos (by omega), List.drop_zero, List.take_of_length_le (by omega)]
end
end Go.Am
