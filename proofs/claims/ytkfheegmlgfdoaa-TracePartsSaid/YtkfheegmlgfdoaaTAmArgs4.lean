/- ARGUMENTS: slices of slices, structs that hold slices. -/
import Derived.Test.YtkfheegmlgfdoaaTAmArgs3
namespace Go.Am
open Go.RowKit
set_option linter.unusedVariables false
set_option linter.unusedSimpArgs false
section
variable {P : Program}
/-- all data of the type can be laid as rows, and `R` holds of its cells -/
def RdP (P : Program) (t : TypeId) (R : AHeap → List AV → Prop) : Prop :=
  (∀ H H' l, R H l → Fr Em H H' → R H' l) ∧ ∀ {Hh : Type} (enc : TypeId × Value → Hh) (W : World) (held : Bool) (fuel : Nat) (cs : List Value) (d : DataW Hh) (ps : List MemPlace),
    DataW.trod enc P W 0 (fun _ => true) held fuel t cs = some (d, ps) → ∀ (θ : Th) (n : Nat) (gl : GL), Good W θ n gl → ∃ θ' n' gl' l, Step W θ n gl θ' n' gl' ∧ VRL (Lt n') θ' l cs ∧ R (givenHeap gl' n') l
theorem rd_flat {t : TypeId} {R : List AV → Prop} (h : FlatP P t R) : RdP P t fun _ l => R l :=
  ⟨fun _ _ _ h _ => h, fun enc W held fuel cs d ps ht θ n gl hg => by
    obtain ⟨l, h1, h2⟩ := h enc W 0 _ held fuel cs d ps ht
    exact ⟨θ, n, gl, l, Step.refl hg, fun θ' _ => h2 θ', h1⟩⟩
/-- several, one behind the other -/
theorem rd_many {e : TypeId} {R : AHeap → List AV → Prop} (hR : RdP P e R) {Hh : Type} (enc : TypeId × Value → Hh) (W : World) (held : Bool) (fuel : Nat) : ∀ (css : List (List Value)), (∀ cs ∈ css, ∃ x, DataW.trod enc P W 0 (fun _ => true) held fuel e cs = some x) →
    ∀ (θ : Th) (n : Nat) (gl : GL), Good W θ n gl → ∃ (θ' : Th) (n' : Nat) (gl' : GL) (ls : List (List AV)), Step W θ n gl θ' n' gl' ∧ VRL (Lt n') θ' ls.flatten css.flatten ∧ ls.length = css.length ∧ ∀ (i : Nat) l cs, ls[i]? = some l → css[i]? = some cs → R (givenHeap gl' n') l ∧ l.length = cs.length
  | [], _, θ, n, gl, hg => ⟨θ, n, gl, [], Step.refl hg, .nil, rfl, fun i l cs h => by simp at h⟩
  | cs :: css, h, θ, n, gl, hg => by
    obtain ⟨x, hx⟩ := h cs (by simp)
    obtain ⟨θ1, n1, gl1, l, s1, v1, r1⟩ := hR.2 enc W held fuel cs x.1 x.2 hx θ n gl hg
    obtain ⟨θ2, n2, gl2, ls, s2, v2, q2, q3⟩ := rd_many hR enc W held fuel css (fun c hc => h c (by simp [hc])) θ1 n1 gl1 s1.good
    refine ⟨θ2, n2, gl2, l :: ls, s1.trans s2, ?_, by simp [q2], fun i l' cs' h1 h2 => ?_⟩
    · rw [List.flatten_cons, List.flatten_cons]
      exact (v1.up s2.ag fun b hb => Nat.lt_of_lt_of_le hb s2.le).app v2
    · cases i with
      | zero =>
        simp at h1 h2; subst h1; subst h2
        exact ⟨hR.1 _ _ _ r1 s2.fr, v1.length.symm⟩
      | succ i => exact q3 i l' cs' (by simpa using h1) (by simpa using h2)
/-- a slice of elements of which `R` holds -/
def SlR (R : AHeap → List AV → Prop) (size : Nat) (H : AHeap) (u : AV) : Prop := ∃ ls : List (List AV), (∀ l ∈ ls, R H l ∧ l.length = size) ∧ Sl H size u ls.length ls.flatten ∧ (u = .nils ∨ slB u < H.next)
theorem SlR.em {R : AHeap → List AV → Prop} (hm : ∀ H H' l, R H l → Fr Em H H' → R H' l) {size : Nat} {H H' : AHeap} {u : AV} (h : SlR R size H u) (f : Fr Em H H') : SlR R size H' u := by
  obtain ⟨ls, h1, h2, h3⟩ := h
  exact ⟨ls, fun l hl => ⟨hm _ _ _ (h1 l hl).1 f, (h1 l hl).2⟩, h2.em f, h3.imp id fun q => Nat.lt_of_lt_of_le q f.next⟩
def encSpot : Option Nat → Nat
  | none => 0
  | some z => z + 1
theorem spot_enc (s : Option Nat) : spotOf (encSpot s) = s := by cases s <;> rfl
/-- an empty slice's block -/
theorem Step.bare' {W : World} {θ : Th} {n : Nat} {gl : GL} (h : Good W θ n gl) (k off ext : Nat) : Step W θ n gl (θ.add n k off ext) (n + 1) gl := by
  have hag : Ag (Lt n) θ (θ.add n k off ext) := θ.add_ag n k off ext (Nat.lt_irrefl n)
  have hd : ∀ b, Lt n b → Lt (n + 1) b := fun b hb => Nat.lt_succ_of_lt hb
  refine ⟨Nat.le_succ n, hag, fun b l' hm => ?_, fun b hb => rfl⟩
  obtain ⟨h1, pre, cs, post, e, fz, h2, h3, h4⟩ := h b l' hm
  obtain ⟨q1, q2, _⟩ := hag b h1
  exact ⟨Nat.lt_succ_of_lt h1, pre, cs, post, e, fz, by rw [q1]; exact h2, by rw [q2]; exact h3, h4.up hag hd⟩
theorem spot_of_cells {W : World} {a : Addr} {n : Nat} {cs : List Value} (hn : 0 < n) (h : W.cells? 0 a n = some cs) : a.spot = none := by
  unfold World.cells? at h
  rw [if_pos (Nat.zero_le _)] at h
  have := mapM_some_get h 0 0 (by simp [hn])
  have hl : 0 < cs.length := by rw [mapM_some_length h]; simpa using hn
  rw [List.getElem?_eq_getElem hl] at this
  exact World.cell?_spot (by simpa [Addr.add] using this)
theorem rd_slice {t e : TypeId} {R : AHeap → List AV → Prop} (ht : P.underlying t = some (.slice e)) (hR : RdP P e R) (hs : 0 < P.cellsOf e) : RdP P t fun H l => ∃ u, l = [u] ∧ SlR R (P.cellsOf e) H u := by
  refine ⟨fun H H' l ⟨u, h1, h2⟩ f => ⟨u, h1, h2.em hR.1 f⟩, ?_⟩
  intro Hh enc W held fuel cs0 d ps h θ n gl hg
  cases fuel with
  | zero => cases h
  | succ f =>
    have key : cs0 = [.slice none 0 0] ∨ ∃ a len cap, cs0 = [.slice (some a) len cap] ∧ len ≤ cap ∧ (∀ i, i < len → ∃ cs x, W.cells? 0 (a.add (i * P.cellsOf e)) (P.cellsOf e) = some cs ∧ DataW.trod enc P W 0 (fun _ => true) held f e cs = some x) ∧ (len < cap → ∃ cs, W.cells? 0 (a.add (len * P.cellsOf e)) (P.cellsOf e) = some cs) := by
      simp only [DataW.trod, ht] at h
      split at h <;> first | (cases h; done) | skip
      all_goals first | (rename_i h1; cases h1; done) | skip
      · left; rfl
      · right
        rename_i e' a len cap h1
        injection h1 with h1; injection h1 with h1; subst h1
        split at h
        · rename_i hb
          simp only [Option.bind_eq_some_iff, if_true, Option.map_eq_some_iff] at h
          obtain ⟨elems, he, rest, hre, _⟩ := h
          refine ⟨a, len, cap, rfl, hb.2.1, fun i hi => ?_, fun hlt => ?_⟩
          · have hl := mapM_some_length he
            have := mapM_some_get he i i (by simp [hi])
            have hi' : i < elems.length := by rw [hl]; simpa using hi
            rw [List.getElem?_eq_getElem hi'] at this
            obtain ⟨cs, q1, q2⟩ := Option.bind_eq_some_iff.1 this
            exact ⟨cs, _, q1, q2⟩
          · have hl := mapM_some_length hre
            have := mapM_some_get hre 0 0 (by rw [List.getElem?_range (by omega)])
            have hi' : 0 < rest.length := by rw [hl]; simp; omega
            rw [List.getElem?_eq_getElem hi', Nat.add_zero] at this
            obtain ⟨cs, q1, q2⟩ := Option.bind_eq_some_iff.1 this
            exact ⟨cs, q1⟩
        · cases h
    rcases key with rfl | ⟨a, len, cap, rfl, hlc, hel, hre⟩
    · exact ⟨θ, n, gl, [.nils], Step.refl hg, fun _ _ => rfl, .nils, rfl, [], by simp, ⟨by simp, rfl⟩, .inl rfl⟩
    · obtain ⟨k, o, s⟩ := a
      by_cases h0 : cap = 0
      · subst h0
        have : len = 0 := by omega
        subst this
        have hst := Step.bare' hg k o (encSpot s)
        refine ⟨_, _, _, [.eslice n], hst, .one ?_, .eslice n, rfl, [], by simp, ⟨by simp, rfl, Nat.lt_succ_self n⟩, .inr (Nat.lt_succ_self n)⟩
        intro θ' hθ
        obtain ⟨q1, q2, q3⟩ := θ.add_new n k o (encSpot s)
        obtain ⟨r1, r2, r3⟩ := hθ n (Nat.lt_succ_self n)
        simp only [conc, r1, r2, r3, q1, q2, q3, spot_enc]
      · have hsp : s = none := by
          by_cases hl0 : len = 0
          · subst hl0
            obtain ⟨cs, hc⟩ := hre (by omega)
            rw [Nat.zero_mul] at hc
            exact spot_of_cells hs (by simpa [Addr.add] using hc)
          · obtain ⟨cs, x, hc, _⟩ := hel 0 (by omega)
            rw [Nat.zero_mul] at hc
            exact spot_of_cells hs (by simpa [Addr.add] using hc)
        subst hsp
        by_cases hl0 : len = 0
        · subst hl0
          refine ⟨_, _, _, [.slice n 0 0 cap], Step.bare hg k o, .one ?_, .slice n 0 0 cap, rfl, [], by simp, ⟨by simp, rfl, Nat.zero_le _, .inl rfl⟩, .inr (Nat.lt_succ_self n)⟩
          have := VR.slice (D := Lt (n + 1)) (θ := θ.add n k o 0) (b := n) (o := 0) (n := 0) (c := cap) (Nat.lt_succ_self n : Lt (n + 1) n)
          obtain ⟨q1, q2, _⟩ := θ.add_new n k o 0
          simpa [conc, q1, q2] using this
        · have hex : ∀ i : Nat, ∃ cs, i < len → W.cells? 0 ⟨k, o + i * P.cellsOf e, none⟩ (P.cellsOf e) = some cs ∧ ∃ x, DataW.trod enc P W 0 (fun _ => true) held f e cs = some x := fun i => by
            by_cases hi : i < len
            · obtain ⟨cs, x, h1, h2⟩ := hel i hi
              rw [addr_add] at h1
              exact ⟨cs, fun _ => ⟨h1, x, h2⟩⟩
            · exact ⟨[], fun h => (hi h).elim⟩
          obtain ⟨F, hF⟩ := Classical.axiomOfChoice hex
          let css := (List.range len).map F
          have hcl : css.length = len := by simp [css]
          have hcg : ∀ (i : Nat) c, css[i]? = some c → i < len ∧ c = F i := fun i c hc => by
            simp only [css, List.getElem?_map, Option.map_eq_some_iff] at hc
            obtain ⟨j, hj, rfl⟩ := hc
            have hi : i < len := by have := lt_of_get hj; simpa using this
            rw [List.getElem?_range hi] at hj
            injection hj with hj; subst hj
            exact ⟨hi, rfl⟩
          obtain ⟨arr, e', fz, hh, _, _⟩ := cells_some hs (hF 0 (by omega)).1
          obtain ⟨arr', e2, fz2, hh', _, hle⟩ := cells_some hs (hF (len - 1) (by omega)).1
          rw [hh] at hh'; injection hh' with hh'; injection hh' with q1 q2 q3; subst q1
          have hmul : (len - 1) * P.cellsOf e + P.cellsOf e = len * P.cellsOf e := by rw [← Nat.succ_mul]; congr 1; omega
          have hone : ∀ (i : Nat) c, css[i]? = some c → c = (arr.toList.drop (o + i * P.cellsOf e)).take (P.cellsOf e) ∧ c.length = P.cellsOf e := fun i c hc => by
            obtain ⟨hi, rfl⟩ := hcg i c hc
            obtain ⟨arr', e2, fz2, hh', h6, h7⟩ := cells_some hs (hF i hi).1
            rw [hh] at hh'; injection hh' with hh'; injection hh' with q1 q2 q3; subst q1
            exact ⟨h6, by rw [h6]; simp; omega⟩
          have hcat : css.flatten = (arr.toList.drop o).take (len * P.cellsOf e) := by rw [flatten_take hone, hcl]
          obtain ⟨θ1, n1, gl1, ls, s1, v1, l1, r1⟩ := rd_many hR enc W held f css (fun c hc => by
            obtain ⟨i, hi⟩ := List.mem_iff_getElem?.1 hc
            obtain ⟨hi', rfl⟩ := hcg i c hi
            exact (hF i hi').2) θ n gl hg
          rw [hcat] at v1
          have hsz : o + len * P.cellsOf e ≤ arr.size := by omega
          have hls : ls.length = len := by rw [l1, hcl]
          have hflen : ls.flatten.length = len * P.cellsOf e := by rw [← v1.length, List.length_take, List.length_drop, Array.length_toList]; omega
          have hrow := Step.row (l := ls.flatten) (k := k) (off := o) (pre := arr.toList.take o) (cs := (arr.toList.drop o).take (len * P.cellsOf e)) (post := arr.toList.drop (o + len * P.cellsOf e)) (e := e') (fz := fz) s1.good (by
            rw [hh]; congr 2
            have hq : arr.toList.take o ++ (arr.toList.drop o).take (len * P.cellsOf e) ++ arr.toList.drop (o + len * P.cellsOf e) = arr.toList := by
              rw [List.append_assoc, ← List.drop_drop, List.take_append_drop, List.take_append_drop]
            rw [hq]) (by simp; omega) v1
          refine ⟨_, _, _, [.slice n1 0 len cap], s1.trans hrow, .one ?_, .slice n1 0 len cap, rfl, ls, fun l hl => ?_, ⟨by rw [hflen, hls], hls.symm, by rw [hls]; exact hlc, .inr ⟨Nat.lt_succ_self n1, ls.flatten, cellsAt_row (fz := (0, 0)) (e := 0) (ow := false) ?_, ?_⟩⟩, .inr (Nat.lt_succ_self n1)⟩
          · have := VR.slice (D := Lt (n1 + 1)) (θ := θ1.add n1 k o 0) (b := n1) (o := 0) (n := len) (c := cap) (Nat.lt_succ_self n1 : Lt (n1 + 1) n1)
            obtain ⟨q1, q2, _⟩ := θ1.add_new n1 k o 0
            simpa [conc, q1, q2] using this
          · obtain ⟨i, hi⟩ := List.mem_iff_getElem?.1 hl
            have hil : i < css.length := by rw [← l1]; exact lt_of_get hi
            obtain ⟨q1, q2⟩ := r1 i l css[i] hi (by simp [hil])
            exact ⟨hR.1 _ _ _ q1 hrow.fr, by rw [q2]; exact (hone i _ (by simp [hil])).2⟩
          · show (givenRows ((n1, ls.flatten) :: gl1) .nil).get n1 = _
            rw [givenRows, T.get_set, if_pos rfl]
          · rw [hls, takeAt_eq, if_pos (by omega), List.drop_zero, List.take_of_length_le (by omega)]
end
end Go.Am
