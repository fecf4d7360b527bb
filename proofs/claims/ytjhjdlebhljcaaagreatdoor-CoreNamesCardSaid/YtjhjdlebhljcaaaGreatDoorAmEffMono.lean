/- EFFECTS: THE MACHINE's NUMBERS OF BLOCKS ONLY GROW. -/
import Derived.Test.YtjhjdlebhljcaaaGreatDoorAmEffects2
namespace Go.Am
set_option linter.unusedVariables false
set_option linter.unusedSimpArgs false

/-- the numbers of blocks only grow; whatever is new bears a new number, and is the machine's own -/
def Ext (H H' : AHeap) : Prop := H.next ≤ H'.next ∧ ∀ b o, H'.get b = some o → (∃ o', H.get b = some o' ∧ (own o' = true → own o = true)) ∨ (H.next ≤ b ∧ b < H'.next ∧ own o = true)
theorem Ext.refl (H : AHeap) : Ext H H := ⟨Nat.le_refl _, fun b o h => .inl ⟨o, h, fun h => h⟩⟩
theorem Ext.trans {H H' H'' : AHeap} (h : Ext H H') (h' : Ext H' H'') : Ext H H'' := by
  refine ⟨Nat.le_trans h.1 h'.1, fun b o hb => ?_⟩
  rcases h'.2 b o hb with ⟨o', h1, h0⟩ | ⟨h1, h2, h3⟩
  · rcases h.2 b o' h1 with ⟨o'', h3, h4⟩ | ⟨h3, h4, h5⟩
    · exact .inl ⟨o'', h3, fun q => h0 (h4 q)⟩
    · exact .inr ⟨h3, Nat.lt_of_lt_of_le h4 h'.1, h0 h5⟩
  · exact .inr ⟨Nat.le_trans h.1 h1, h2, h3⟩
theorem Ext.set {H : AHeap} {b : Nat} {o : AObj} (h : H.get b = some o) (o' : AObj) (ho : own o = true → own o' = true) : Ext H (H.set b o') := by
  refine ⟨Nat.le_refl _, fun x ox hx => ?_⟩
  rw [AHeap.get_set] at hx
  split at hx
  · rename_i e; subst e
    injection hx with hx; subst hx
    exact .inl ⟨o, h, ho⟩
  · exact .inl ⟨ox, hx, fun h => h⟩
theorem Ext.alloc (H : AHeap) (o : AObj) (ho : own o = true) : Ext H (H.alloc o) := by
  refine ⟨Nat.le_succ _, fun x ox hx => ?_⟩
  rw [AHeap.get_alloc] at hx
  split at hx
  · rename_i e; subst e
    injection hx with hx; subst hx
    exact .inr ⟨Nat.le_refl _, Nat.lt_succ_self _, ho⟩
  · exact .inl ⟨ox, hx, fun h => h⟩
theorem Ext.kill (H : AHeap) (b : Nat) : Ext H (H.kill b) := ⟨Nat.le_refl _, fun x ox hx => .inl ⟨ox, kill_sub H b x ox hx, fun h => h⟩⟩
theorem mapAt_get {H : AHeap} {b : Nat} {m : List (AV × AV × Nat) × Nat} (h : H.mapAt b = some m) : ∃ o, H.get b = some o := by
  unfold AHeap.mapAt at h
  split at h
  · exact ⟨_, by assumption⟩
  · cases h

def OpMono : AOp → Prop
  | .alloc f => ∀ vs ob mk, f vs = some (ob, mk) → own ob = true
  | .eff f => ∀ vs H v H', f vs H = some (v, H') → Ext H H'
  | _ => True

theorem cond_some {α : Type} {c : Bool} {a b : Option α} {x : α} (h : cond c a b = some x) : (c = true ∧ a = some x) ∨ (c = false ∧ b = some x) := by
  cases c <;> simp_all

theorem store_ext {H H' : AHeap} {b o : Nat} {l : List AV} (h : H.store b o l = some H') : Ext H H' := by
  unfold AHeap.store at h
  rcases cond_some h with ⟨_, h⟩ | ⟨_, h⟩
  · split at h
    · rename_i hg
      rcases cond_some h with ⟨_, h⟩ | ⟨_, h⟩
      · simp only [Option.bind_eq_some_iff, Option.some.injEq] at h
        obtain ⟨_, _, rfl⟩ := h; exact Ext.set hg _ (fun _ => rfl)
      · cases h
    · rename_i hg
      rcases cond_some h with ⟨_, h⟩ | ⟨_, h⟩
      · simp only [Option.bind_eq_some_iff, Option.some.injEq] at h
        obtain ⟨_, _, rfl⟩ := h; exact Ext.set hg _ (fun _ => rfl)
      · cases h
    · cases h
  · cases h

theorem mono_store (n : Nat) : OpMono (.eff (Op.store n)) := by
  intro vs H v H' h
  unfold Op.store at h
  split at h
  · rcases cond_some h with ⟨_, h⟩ | ⟨_, h⟩
    · simp only [Option.bind_eq_some_iff, Option.some.injEq, Prod.mk.injEq] at h
      obtain ⟨_, h1, _, rfl⟩ := h
      exact store_ext h1
    · cases h
  · cases h
theorem mono_mapUpdate (q : EqTree) : OpMono (.eff (Op.mapUpdate q)) := by
  intro vs H v H' h
  unfold Op.mapUpdate at h
  split at h
  · rcases cond_some h with ⟨_, h⟩ | ⟨_, h⟩
    · simp only [Option.bind_eq_some_iff] at h
      obtain ⟨m, hm, r, _, h⟩ := h
      obtain ⟨ob, hob⟩ := mapAt_get hm
      split at h
      · simp only [Option.bind_eq_some_iff] at h
        obtain ⟨e, _, h⟩ := h
        rcases cond_some h with ⟨_, h⟩ | ⟨_, h⟩
        · injection h with h; injection h with _ h; subst h; exact Ext.set hob _ (fun _ => rfl)
        · cases h
      · injection h with h; injection h with _ h; subst h; exact Ext.set hob _ (fun _ => rfl)
    · cases h
  · cases h
theorem mono_mapDelete (q : EqTree) : OpMono (.eff (Op.mapDelete q)) := by
  intro vs H v H' h
  unfold Op.mapDelete at h
  split at h
  · rcases cond_some h with ⟨_, h⟩ | ⟨_, h⟩
    · injection h with h; injection h with _ h; subst h; exact Ext.refl _
    · cases h
  · rcases cond_some h with ⟨_, h⟩ | ⟨_, h⟩
    · simp only [Option.bind_eq_some_iff] at h
      obtain ⟨m, hm, r, _, h⟩ := h
      obtain ⟨ob, hob⟩ := mapAt_get hm
      split at h <;> (injection h with h; injection h with _ h; subst h; exact Ext.set hob _ (fun _ => rfl))
    · cases h
  · cases h
theorem mono_nextStr : OpMono (.eff Op.nextStr) := by
  intro vs H v H' h
  unfold Op.nextStr at h
  split at h
  · split at h
    · rename_i hg
      split at h
      · rcases cond_some h with ⟨_, h⟩ | ⟨_, h⟩
        · injection h with h; injection h with _ h; subst h; exact Ext.set hg _ (fun _ => rfl)
        · cases h
      · injection h with h; injection h with _ h; subst h; exact Ext.refl _
    · cases h
  · cases h
theorem mono_clearMap : OpMono (.eff Op.clearMap) := by
  intro vs H v H' h
  unfold Op.clearMap at h
  split at h
  · injection h with h; injection h with _ h; subst h; exact Ext.refl _
  · simp only [Option.bind_eq_some_iff] at h
    obtain ⟨m, hm, h⟩ := h
    obtain ⟨ob, hob⟩ := mapAt_get hm
    injection h with h; injection h with _ h; subst h; exact Ext.set hob _ (fun _ => rfl)
  · cases h
theorem mono_copy (n : Nat) : OpMono (.eff (Op.copy n)) := by
  intro vs H v H' h
  unfold Op.copy at h
  split at h
  · cases h
  · simp only [Option.bind_eq_some_iff] at h
    obtain ⟨_, _, _, _, _, _, h⟩ := h
    rcases cond_some h with ⟨_, h⟩ | ⟨_, h⟩
    · injection h with h; injection h with _ h; subst h; exact Ext.refl _
    · simp only [Option.bind_eq_some_iff, Option.some.injEq, Prod.mk.injEq] at h
      obtain ⟨_, _, _, h1, _, rfl⟩ := h
      exact store_ext h1
  · cases h
theorem mono_clearSl (z : List AV) : OpMono (.eff (Op.clearSl z)) := by
  intro vs H v H' h
  unfold Op.clearSl at h
  split at h
  · cases h
  · simp only [Option.bind_eq_some_iff] at h
    obtain ⟨_, _, h⟩ := h
    rcases cond_some h with ⟨_, h⟩ | ⟨_, h⟩
    · injection h with h; injection h with _ h; subst h; exact Ext.refl _
    · simp only [Option.bind_eq_some_iff, Option.some.injEq, Prod.mk.injEq] at h
      obtain ⟨_, _, _, h1, _, rfl⟩ := h
      exact store_ext h1
  · cases h
theorem mono_markStr : OpMono (.eff Op.markStr) := by
  intro vs H v H' h
  unfold Op.markStr at h
  split at h
  · split at h
    · rename_i hg; injection h with h; injection h with _ h; subst h; exact Ext.set hg _ (fun _ => rfl)
    · cases h
  · cases h
theorem mono_strOfPtr (u : Nat) : OpMono (.eff (Op.strOfPtr u)) := by
  intro vs H v H' h
  unfold Op.strOfPtr at h
  split at h
  · rcases cond_some h with ⟨_, h⟩ | ⟨_, h⟩
    · injection h with h; injection h with _ h; subst h; exact Ext.refl _
    · cases h
  · rcases cond_some h with ⟨_, h⟩ | ⟨_, h⟩
    · injection h with h; injection h with _ h; subst h; exact Ext.refl _
    · rcases cond_some h with ⟨_, h⟩ | ⟨_, h⟩
      · cases h
      · split at h
        · rename_i hg
          rcases cond_some h with ⟨_, h⟩ | ⟨_, h⟩
          · simp only [Option.bind_eq_some_iff, Option.some.injEq, Prod.mk.injEq] at h
            obtain ⟨_, _, _, _, _, rfl⟩ := h; exact Ext.set hg _ (fun _ => rfl)
          · cases h
        · rename_i hg
          rcases cond_some h with ⟨_, h⟩ | ⟨_, h⟩
          · simp only [Option.bind_eq_some_iff, Option.some.injEq, Prod.mk.injEq] at h
            obtain ⟨_, _, _, _, _, rfl⟩ := h; exact Ext.set hg _ (fun _ => rfl)
          · cases h
        · cases h
  · cases h
theorem grown_next {H H' : AHeap} {e s n : Nat} {c : List AV} {fz : Nat × Nat} {v : AV} (h : some (grownV H e s n c fz) = some (v, H')) : Ext H H' := by
  injection h with h; injection h with _ h; subst h; exact Ext.alloc _ _ rfl
theorem mono_append (e s z : Nat) : OpMono (.eff (Op.append e s z)) := by
  intro vs H v H' h
  unfold Op.append at h
  split at h
  · simp only [Option.bind_eq_some_iff] at h
    obtain ⟨n, _, new, _, h⟩ := h
    rcases cond_some h with ⟨_, h⟩ | ⟨_, h⟩
    · unfold appendV at h
      split at h
      · rcases cond_some h with ⟨_, h⟩ | ⟨_, h⟩
        · injection h with h; injection h with _ h; subst h; exact Ext.refl _
        · rcases cond_some h with ⟨_, h⟩ | ⟨_, h⟩
          · exact grown_next h
          · cases h
      · rcases cond_some h with ⟨_, h⟩ | ⟨_, h⟩
        · rcases cond_some h with ⟨_, h⟩ | ⟨_, h⟩
          · injection h with h; injection h with _ h; subst h; exact Ext.refl _
          · simp only [Option.bind_eq_some_iff, Option.some.injEq, Prod.mk.injEq] at h
            obtain ⟨_, h1, _, rfl⟩ := h
            exact store_ext h1
        · rcases cond_some h with ⟨_, h⟩ | ⟨_, h⟩
          · simp only [Option.bind_eq_some_iff] at h
            obtain ⟨_, _, h⟩ := h
            exact grown_next h
          · cases h
      · rcases cond_some h with ⟨_, h⟩ | ⟨_, h⟩
        · rcases cond_some h with ⟨_, h⟩ | ⟨_, h⟩
          · injection h with h; injection h with _ h; subst h; exact Ext.refl _
          · cases h
        · rcases cond_some h with ⟨_, h⟩ | ⟨_, h⟩
          · rcases cond_some h with ⟨_, h⟩ | ⟨_, h⟩
            · simp only [Option.bind_eq_some_iff, Option.some.injEq, Prod.mk.injEq] at h
              obtain ⟨_, h1, _, rfl⟩ := h
              exact store_ext h1
            · rcases cond_some h with ⟨_, h⟩ | ⟨_, h⟩
              · split at h
                · rcases cond_some h with ⟨_, h⟩ | ⟨_, h⟩
                  · rcases cond_some h with ⟨_, h⟩ | ⟨_, h⟩
                    · exact (Ext.kill _ _).trans (grown_next (H := H.kill _) h)
                    · rcases cond_some h with ⟨_, h⟩ | ⟨_, h⟩
                      · simp only [Option.bind_eq_some_iff] at h
                        obtain ⟨_, _, h⟩ := h
                        exact (Ext.kill _ _).trans (grown_next (H := H.kill _) h)
                      · rcases cond_some h with ⟨_, h⟩ | ⟨_, h⟩
                        · simp only [Option.bind_eq_some_iff] at h
                          obtain ⟨_, _, h⟩ := h
                          exact (Ext.kill _ _).trans (grown_next (H := H.kill _) h)
                        · cases h
                  · cases h
                · cases h
              · cases h
          · cases h
      · cases h
    · cases h
  · cases h

end Go.Am
