/- SCHEMA: the plain laws of right catalogs. Printed by mac.py. -/
import Derived.Test.YtfogbbnfedcldaaSchY
namespace Go.Proofs.Ytfogbbnfedcldaa
open Go.RowKit

theorem rise {α : Type} (l : List α) (id : α → Int) (last : Nat → Int) (h0 : last 0 = 0) (hs : ∀ i (h : i < l.length), last (i + 1) = id l[i]) :
    (∀ i (h : i < l.length), last i < id l[i]) ↔ l.Pairwise (fun a b => id a < id b) ∧ ∀ x ∈ l, 0 < id x := by
  constructor
  · intro h
    have key : ∀ j (hj : j < l.length), 0 < id l[j] ∧ ∀ i (hi : i < j), id (l[i]'(by omega)) < id l[j] := by
      intro j
      induction j with
      | zero => intro hj; exact ⟨by have := h 0 hj; rw [h0] at this; exact this, fun i hi => by omega⟩
      | succ j ih =>
        intro hj
        have h1 := h (j + 1) hj
        rw [hs j (by omega)] at h1
        obtain ⟨i1, i2⟩ := ih (by omega)
        refine ⟨by omega, fun i hi => ?_⟩
        rcases Nat.lt_succ_iff_lt_or_eq.1 hi with h2 | rfl
        · have := i2 i h2; omega
        · exact h1
    refine ⟨List.pairwise_iff_getElem.2 fun i j hi hj hij => (key j hj).2 i hij, fun x hx => ?_⟩
    obtain ⟨i, hi, rfl⟩ := List.mem_iff_getElem.1 hx
    exact (key i hi).1
  · rintro ⟨h1, h2⟩ i hi
    cases i with
    | zero => rw [h0]; exact h2 _ (List.getElem_mem hi)
    | succ i => rw [hs i (by omega)]; exact List.pairwise_iff_getElem.1 h1 i (i + 1) (by omega) hi (by omega)
theorem unlike {α β : Type} [DecidableEq β] (l : List α) (f : α → β) : (∀ i (h : i < l.length), findB (fun o => decide (f o = f l[i])) l = (i : Int)) ↔ l.Pairwise (fun a b => f a ≠ f b) := by
  constructor
  · intro h
    refine List.pairwise_iff_getElem.2 fun i j hi hj hij e => ?_
    have h1 := h j hj
    have h2 := findB_le (P := fun o => decide (f o = f l[j])) i hi (decide_eq_true e)
    omega
  · intro h i hi
    refine findB_at i hi (fun j hj x hx => ?_) (decide_eq_true rfl)
    have hj' : j < l.length := by omega
    rw [List.getElem?_eq_getElem hj'] at hx
    cases hx
    exact decide_eq_false (List.pairwise_iff_getElem.1 h j i hj' hi hj)
theorem allB_iff {n : Nat} {Q : Nat → Bool} : allB n Q = true ↔ ∀ i, i < n → Q i = true := by
  unfold allB; simp
/-- A right catalog. -/
structure RightP (c : GCatalog) : Prop where
  v0 : 0 ≤ c.fVersion
  n1 : 1 ≤ c.fNext
  n2 : c.fNext ≤ 1073741824
  t6 : c.fTables.length ≤ 6
  x10 : c.fIndexes.length ≤ 10
  tid : c.fTables.Pairwise (fun a b => a.fID < b.fID)
  tok : ∀ t ∈ c.fTables, 0 < t.fID ∧ t.fID < c.fNext ∧ tableB t = true
  tnm : c.fTables.Pairwise (fun a b => a.fName ≠ b.fName)
  xid : c.fIndexes.Pairwise (fun a b => a.fID < b.fID)
  xok : ∀ x ∈ c.fIndexes, 0 < x.fID ∧ x.fID < c.fNext ∧ (tabOf c x.fID).2 = false ∧ indexB c x = true
  xnm : c.fIndexes.Pairwise (fun a b => a.fName ≠ b.fName)
theorem rightB_iff {c : GCatalog} : rightB c = true ↔ RightP c := by
  have hT : (∀ i, i < c.fTables.length → tabQ c i = true) ↔ ((c.fTables.Pairwise (fun a b => a.fID < b.fID) ∧ ∀ t ∈ c.fTables, 0 < t.fID) ∧ (∀ t ∈ c.fTables, t.fID < c.fNext ∧ tableB t = true) ∧ c.fTables.Pairwise (fun a b => a.fName ≠ b.fName)) := by
    rw [← rise c.fTables (·.fID) (lastT c) rfl (fun i h => lastT_succ h), ← unlike c.fTables (·.fName)]
    constructor
    · intro h
      have k : ∀ i (hi : i < c.fTables.length), _ := fun i hi => by
        have := h i hi
        rw [tabQ_at hi] at this
        unfold tabOk at this
        simp only [Bool.and_eq_true, decide_eq_true_eq] at this
        exact this
      refine ⟨fun i hi => (k i hi).1, fun t ht => ?_, fun i hi => (k i hi).2.2.2⟩
      obtain ⟨i, hi, rfl⟩ := List.mem_iff_getElem.1 ht
      exact ⟨(k i hi).2.1, (k i hi).2.2.1⟩
    · rintro ⟨h1, h2, h3⟩ i hi
      rw [tabQ_at hi]
      unfold tabOk
      simp only [Bool.and_eq_true, decide_eq_true_eq]
      exact ⟨h1 i hi, (h2 _ (List.getElem_mem hi)).1, (h2 _ (List.getElem_mem hi)).2, h3 i hi⟩
  have hX : (∀ i, i < c.fIndexes.length → idxQ c i = true) ↔ ((c.fIndexes.Pairwise (fun a b => a.fID < b.fID) ∧ ∀ t ∈ c.fIndexes, 0 < t.fID) ∧ (∀ x ∈ c.fIndexes, x.fID < c.fNext ∧ (tabOf c x.fID).2 = false ∧ indexB c x = true) ∧ c.fIndexes.Pairwise (fun a b => a.fName ≠ b.fName)) := by
    rw [← rise c.fIndexes (·.fID) (lastX c) rfl (fun i h => lastX_succ h), ← unlike c.fIndexes (·.fName)]
    constructor
    · intro h
      have k : ∀ i (hi : i < c.fIndexes.length), _ := fun i hi => by
        have := h i hi
        rw [idxQ_at hi] at this
        unfold idxOk at this
        simp only [Bool.and_eq_true, decide_eq_true_eq, Bool.not_eq_true'] at this
        exact this
      refine ⟨fun i hi => (k i hi).1, fun t ht => ?_, fun i hi => (k i hi).2.2.2.2⟩
      obtain ⟨i, hi, rfl⟩ := List.mem_iff_getElem.1 ht
      exact ⟨(k i hi).2.1, (k i hi).2.2.1, (k i hi).2.2.2.1⟩
    · rintro ⟨h1, h2, h3⟩ i hi
      rw [idxQ_at hi]
      unfold idxOk
      simp only [Bool.and_eq_true, decide_eq_true_eq, Bool.not_eq_true']
      have := h2 _ (List.getElem_mem hi)
      exact ⟨h1 i hi, this.1, this.2.1, this.2.2, h3 i hi⟩
  unfold rightB headB
  rw [Bool.and_eq_true, Bool.and_eq_true, allB_iff, allB_iff, hT, hX, decide_eq_true_eq]
  constructor
  · rintro ⟨⟨a1, a2, a3, a4, a5⟩, ⟨⟨b1, b2⟩, b3, b4⟩, ⟨d1, d2⟩, d3, d4⟩
    exact ⟨a1, a2, a3, a4, a5, b1, fun t ht => ⟨b2 t ht, b3 t ht⟩, b4, d1, fun x hx => ⟨d2 x hx, d3 x hx⟩, d4⟩
  · intro h
    exact ⟨⟨h.v0, h.n1, h.n2, h.t6, h.x10⟩, ⟨⟨h.tid, fun t ht => (h.tok t ht).1⟩, fun t ht => (h.tok t ht).2, h.tnm⟩, ⟨h.xid, fun t ht => (h.xok t ht).1⟩, fun t ht => (h.xok t ht).2, h.xnm⟩
end Go.Proofs.Ytfogbbnfedcldaa
