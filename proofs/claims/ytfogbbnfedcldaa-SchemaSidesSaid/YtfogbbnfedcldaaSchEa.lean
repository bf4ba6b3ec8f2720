/- SCHEMA: plain laws for the law SchemaSides: an index's states in two catalogs side by side. Printed by mac.py. -/
import Derived.Test.YtfogbbnfedcldaaSchZb
namespace Go.Proofs.Ytfogbbnfedcldaa
open Go.RowKit

/-- The states of one index in a catalog, and in the next one. -/
structure Sides (old now : Int) : Prop where
  r1 : old = 4 → 2 ≤ now ∧ now ≤ 5
  r2 : now = 4 → 2 ≤ old ∧ old ≤ 5
  w1 : (2 ≤ old ∧ old ≤ 5) → 1 ≤ now ∧ now ≤ 7
  w2 : (2 ≤ now ∧ now ≤ 5) → 1 ≤ old ∧ old ≤ 7
  p : now ≠ old → now = 4 → old = 3
  b : now ≠ old → now = 3 → old = 2
theorem Sides.same (s : Int) : Sides s s := by constructor <;> omega
theorem Sides.next {frm to : Int} (h : to = nextF frm) (_hne : to ≠ frm) : Sides frm to := by
  unfold nextF at h
  split at h
  · constructor <;> omega
  · split at h <;> constructor <;> omega
theorem stateV_mem {c : GCatalog} (h : RightP c) {x : GIndex} (hx : x ∈ c.fIndexes) : stateV c x.fID = x.fState := by
  unfold stateV
  rw [first_mem (f := fun x : GIndex => x.fID) (h.xid.imp fun hab e => by omega) hx zIdx]
theorem stateV_not {c : GCatalog} {d : Int} (h : ∀ x ∈ c.fIndexes, x.fID ≠ d) : stateV c d = 0 := by
  unfold stateV
  rw [firstB_none (P := fun x : GIndex => decide (x.fID = d)) (z := zIdx) (fun x hx => decide_eq_false (h x hx))]
  rfl
theorem stateV_same {c n : GCatalog} (hc : RightP c) (hn : RightP n) {d : Int} (h : ∀ x : GIndex, x.fID = d → (x ∈ c.fIndexes ↔ x ∈ n.fIndexes)) : stateV n d = stateV c d := by
  by_cases he : ∃ x ∈ c.fIndexes, x.fID = d
  · obtain ⟨x, hx, rfl⟩ := he
    rw [stateV_mem hc hx, stateV_mem hn ((h x rfl).1 hx)]
  · rw [stateV_not (c := c) fun x hx e => he ⟨x, hx, e⟩, stateV_not (c := n) fun x hx e => he ⟨x, (h x e).2 hx, e⟩]
theorem sides_of_same {c n : GCatalog} (hc : RightP c) (hn : RightP n) {d : Int} (h : ∀ x : GIndex, x.fID = d → (x ∈ c.fIndexes ↔ x ∈ n.fIndexes)) : Sides (stateV c d) (stateV n d) := by
  rw [stateV_same hc hn h]; exact Sides.same _
theorem sides_set {c : GCatalog} (hc : RightP c) {k : Nat} (hk : k < c.fIndexes.length) {y : GIndex} (hn : RightP (setAt c k y)) (hy : y.fID = c.fIndexes[k].fID) (hs : Sides c.fIndexes[k].fState y.fState) (d : Int) : Sides (stateV c d) (stateV (setAt c k y) d) := by
  by_cases hd : c.fIndexes[k].fID = d
  · subst hd
    have h1 := stateV_mem hc (List.getElem_mem hk)
    have h2 : stateV (setAt c k y) y.fID = y.fState := stateV_mem hn (List.mem_set hk y)
    rw [hy] at h2
    rw [h1, h2]; exact hs
  · refine sides_of_same hc hn fun x hx => ?_
    show x ∈ c.fIndexes ↔ x ∈ c.fIndexes.set k y
    constructor
    · intro hm
      obtain ⟨i, hi, rfl⟩ := List.mem_iff_getElem.1 hm
      have hne : k ≠ i := fun e => hd (by subst e; exact hx)
      exact List.mem_iff_getElem.2 ⟨i, by simpa using hi, by rw [List.getElem_set_ne hne]⟩
    · intro hm
      rcases List.mem_or_eq_of_mem_set hm with h | h
      · exact h
      · subst h; exact absurd (hy.symm.trans hx) hd
theorem sides_cut {c : GCatalog} (hc : RightP c) {k : Nat} (hk : k < c.fIndexes.length) (hs : Sides c.fIndexes[k].fState 0) (d : Int) : Sides (stateV c d) (stateV (cutAt c k) d) := by
  have hn := right_cutAt hc k
  have huniq : ∀ i (hi : i < c.fIndexes.length), c.fIndexes[i].fID = c.fIndexes[k].fID → i = k := by
    intro i hi e
    rcases Nat.lt_trichotomy i k with h | h | h
    · have := List.pairwise_iff_getElem.1 hc.xid i k hi hk h; omega
    · exact h
    · have := List.pairwise_iff_getElem.1 hc.xid k i hk hi h; omega
  by_cases hd : c.fIndexes[k].fID = d
  · subst hd
    have h1 := stateV_mem hc (List.getElem_mem hk)
    have h2 : stateV (cutAt c k) c.fIndexes[k].fID = 0 := stateV_not fun x hx e => by
      have hx' : x ∈ c.fIndexes.eraseIdx k := hx
      obtain ⟨i, hi, hne, rfl⟩ := List.mem_eraseIdx_iff_getElem.1 hx'
      exact hne (huniq i hi e)
    rw [h1, h2]; exact hs
  · refine sides_of_same hc hn fun x hx => ?_
    show x ∈ c.fIndexes ↔ x ∈ c.fIndexes.eraseIdx k
    constructor
    · intro hm
      obtain ⟨i, hi, rfl⟩ := List.mem_iff_getElem.1 hm
      exact List.mem_eraseIdx_iff_getElem.2 ⟨i, hi, fun e => hd (by subst e; exact hx), rfl⟩
    · exact fun hm => List.mem_of_mem_eraseIdx hm
theorem sides_step {c : GCatalog} (h : RightP c) (i frm to : Int) (bad : Bool) (d : Int) : Sides (stateV c d) (stateV (stepF c i frm to bad).1 d) := by
  have hn := step_right h i frm to bad
  have := stepF_to c i frm to bad
  generalize stepF c i frm to bad = r at this hn
  cases this with
  | none => exact Sides.same _
  | no => exact Sides.same _
  | cut k hk h1 h2 h3 h4 =>
    have h5 := (indexB_state (h.xok _ (List.getElem_mem hk)).2.2.2).1
    have hs : Sides c.fIndexes[k].fState 0 := by rw [h2, ← h3]; exact Sides.next h4 (by omega)
    exact sides_cut h hk hs d
  | set k hk h1 h2 h3 h4 =>
    refine sides_set h hk hn rfl ?_ d
    show Sides c.fIndexes[k].fState to
    rw [h2]
    rcases h4 with ⟨h5, h6⟩ | ⟨-, rfl, rfl⟩
    · exact Sides.next h5 h6
    · constructor <;> omega
theorem sides_drop {c : GCatalog} (h : RightP c) (nm : List UInt8) (d : Int) : Sides (stateV c d) (stateV (dropF c nm).1 d) := by
  have hn := drop_right h nm
  have := dropF_to c nm
  generalize dropF c nm = r at this hn
  cases this with
  | none => exact Sides.same _
  | no => exact Sides.same _
  | set k hk s h1 h2 =>
    refine sides_set h hk hn rfl ?_ d
    show Sides c.fIndexes[k].fState s
    generalize c.fIndexes[k].fState = q at h2
    constructor <;> omega
theorem sides_tab (c : GCatalog) (t : GTable) (d : Int) : Sides (stateV c d) (stateV (addTableF c t).1 d) := by
  have := addTableF_to c t
  generalize addTableF c t = r at this
  cases this with
  | no => exact Sides.same _
  | put => exact Sides.same _
theorem sides_idx {c : GCatalog} (h : RightP c) (x : GIndex) (tn : List UInt8) (d : Int) : Sides (stateV c d) (stateV (addIndexF c x tn).1 d) := by
  have hn := addIndex_right h x tn
  have := addIndexF_to c x tn
  generalize addIndexF c x tn = r at this hn
  cases this with
  | no => exact Sides.same _
  | put t ht htn h1 h2 h3 h4 =>
    by_cases hd : c.fNext = d
    · subst hd
      have e1 : stateV c c.fNext = 0 := stateV_not fun y hy e => by have := (h.xok y hy).2.1; omega
      have e2 : stateV (putX c (newX c x t.fID)) (newX c x t.fID).fID = (newX c x t.fID).fState := stateV_mem hn (List.mem_append_right _ (List.mem_singleton.2 rfl))
      have e3 : stateV (putX c (newX c x t.fID)) c.fNext = 1 := e2
      show Sides (stateV c c.fNext) (stateV (putX c (newX c x t.fID)) c.fNext)
      rw [e1, e3]
      constructor <;> omega
    · refine sides_of_same h hn fun y hy => ?_
      show y ∈ c.fIndexes ↔ y ∈ c.fIndexes ++ [newX c x t.fID]
      rw [List.mem_append, List.mem_singleton]
      refine ⟨.inl, fun hm => hm.elim id fun e => ?_⟩
      subst e
      exact absurd hy hd
end Go.Proofs.Ytfogbbnfedcldaa
