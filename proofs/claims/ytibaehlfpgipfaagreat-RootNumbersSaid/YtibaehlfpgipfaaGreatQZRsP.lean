/- ROOT: how great what it keeps may be: plain. Printed by mac.py. -/
import Derived.Test.YtibaehlfpgipfaaGreatQZRoV
import Derived.Test.YtibaehlfpgipfaaGreatQZEnc
namespace Go.Proofs.YtibaehlfpgipfaaGreat
open Go.RowKit
def FitT (t : GTable) : Prop := t.fName.length ≤ 20 ∧ t.fColumns.length ≤ 6 ∧ (∀ c ∈ t.fColumns, c.fName.length ≤ 20) ∧ t.fKey.length ≤ 6
def FitX (x : GIndex) : Prop := x.fName.length ≤ 20 ∧ x.fColumns.length ≤ 6
def FitC (c : GCatalog) : Prop := c.fTables.length ≤ 6 ∧ c.fIndexes.length ≤ 10 ∧ (∀ t ∈ c.fTables, FitT t) ∧ ∀ x ∈ c.fIndexes, FitX x
theorem nameB_le {l : List UInt8} (h : nameB l = true) : l.length ≤ 20 := by
 unfold nameB at h
 simp only [Bool.and_eq_true, decide_eq_true_eq] at h
 exact h.2.2
theorem tableB_fit {t : GTable} (h : tableB t = true) : FitT t := by
 obtain ⟨h1, h2⟩ := tableB_small h
 unfold tableB at h
 simp only [Bool.and_eq_true] at h
 refine ⟨nameB_le h.1, h1, fun c hc => ?_, h2⟩
 obtain ⟨i, hi, rfl⟩ := List.mem_iff_getElem.1 hc
 have hq := h.2.2.2.1
 unfold allB at hq
 have := of_decide_eq_true hq i hi
 rw [colQ_at hi] at this
 unfold colOk at this
 simp only [Bool.and_eq_true] at this
 exact nameB_le this.1
theorem FitC.table {c : GCatalog} {t : GTable} (h : FitC c) : FitC (addTableF c t).1 := by
 unfold addTableF
 split
 ·exact h
 ·rename_i h1
  split
  ·exact h
  ·split
   ·exact h
   ·rename_i h3
    have hb := tableB_fit (t := t) (by cases hq : tableB t with | true => rfl | false => exact absurd hq h1)
    refine ⟨?_, h.2.1, fun d hd => ?_, h.2.2.2⟩
    ·show (c.fTables ++ [_]).length ≤ _
     rw [List.length_append, List.length_singleton]; omega
    ·rcases List.mem_append.1 hd with hd | hd
     ·exact h.2.2.1 d hd
     ·have : d = { t with fID := c.fNext } := by simpa using hd
      subst this
      exact hb
theorem tabOf_fit {c : GCatalog} (h : FitC c) (d : Int) (hd : (tabOf c d).2 = true) : (tabOf c d).1.fColumns.length ≤ 6 := by
 unfold tabOf firstB at hd ⊢
 cases hf : c.fTables.find? (fun t => decide (t.fID = d)) with
 | none => rw [hf] at hd; cases hd
 | some t => exact (h.2.2.1 t (List.mem_of_find?_eq_some hf)).2.1
theorem FitC.index {c : GCatalog} {x : GIndex} {tn : List UInt8} (h : FitC c) : FitC (addIndexF c x tn).1 := by
 unfold addIndexF
 simp only
 split
 ·exact h
 ·split
  ·exact h
  ·rename_i h2
   split
   ·exact h
   ·split
    ·exact h
    ·rename_i h4
     refine ⟨h.1, ?_, h.2.2.1, fun y hy => ?_⟩
     ·show (c.fIndexes ++ [_]).length ≤ _
      rw [List.length_append, List.length_singleton]
      omega
     ·rcases List.mem_append.1 hy with hy | hy
      ·exact h.2.2.2 y hy
      ·have e : y = newX c x (firstB (fun t => decide (t.fName = tn)) c.fTables zTab).1.fID := by simpa using hy
       rw [← e] at h2
       have hq : indexB c y = true := by cases hq : indexB c y with | true => rfl | false => exact absurd hq h2
       unfold indexB at hq
       simp only [Bool.and_eq_true] at hq
       have hc := tabOf_fit h _ hq.1
       refine ⟨nameB_le hq.2.1, ?_⟩
       have h5 := hq.2.2.1
       unfold placesB at h5
       have h6 := of_decide_eq_true h5
       rw [show min ((tabOf c y.fTable).1.fColumns.length : Int) 6 = (((tabOf c y.fTable).1.fColumns.length : Nat) : Int) by omega] at h6
       have := goodP_len _ _ h6.1
       omega
theorem FitC.set {c : GCatalog} (h : FitC c) (k : Nat) (x : GIndex) (hx : FitX x) : FitC (setAt c k x) := by
 refine ⟨h.1, ?_, h.2.2.1, fun y hy => ?_⟩
 ·show (c.fIndexes.set k x).length ≤ _
  rw [List.length_set]; exact h.2.1
 ·rcases List.mem_or_eq_of_mem_set hy with hy | rfl
  ·exact h.2.2.2 y hy
  ·exact hx
theorem FitC.cut {c : GCatalog} (h : FitC c) (k : Nat) : FitC (cutAt c k) := by
 refine ⟨h.1, ?_, h.2.2.1, fun y hy => h.2.2.2 y (List.mem_of_mem_eraseIdx hy)⟩
 show (c.fIndexes.eraseIdx k).length ≤ _
 exact Nat.le_trans (List.length_eraseIdx_le _ _) h.2.1
theorem FitC.drop {c : GCatalog} {nm : List UInt8} (h : FitC c) : FitC (dropF c nm).1 := by
 unfold dropF
 rcases findB_cases (fun x : GIndex => decide (x.fName = nm)) c.fIndexes with ⟨h1, -⟩ | ⟨k, hk, h1, -, -⟩
 ·rw [h1, atI_neg]; exact h
 ·rw [h1, atI_nat hk]
  have hx := h.2.2.2 _ (List.getElem_mem hk)
  unfold dropAt
  split
  ·exact h.set k _ hx
  ·split
   ·exact h.set k _ hx
   ·exact h
theorem FitC.step {c : GCatalog} {d f t : Int} {bad : Bool} (h : FitC c) : FitC (stepF c d f t bad).1 := by
 unfold stepF
 rcases findB_cases (fun x : GIndex => decide (x.fID = d)) c.fIndexes with ⟨h1, -⟩ | ⟨k, hk, h1, -, -⟩
 ·rw [h1, atI_neg]; exact h
 ·rw [h1, atI_nat hk]
  have hx := h.2.2.2 _ (List.getElem_mem hk)
  unfold stepAt
  split
  ·exact h
  ·split
   ·exact h.cut k
   ·exact h.set k _ hx
def FitG (r : GRoutes) : Prop := (∀ o ∈ r.fSpans, o.fFrom.length ≤ 600) ∧ r.fCut.length ≤ 600
theorem FitG.still {r : GRoutes} (h : FitG r) : FitG (stillF r) := ⟨h.1, Nat.zero_le _⟩
theorem FitG.cut {r : GRoutes} (h : FitG r) (g : Int) (l : List UInt8) : FitG (cutF r g l).1 := by
 unfold cutF
 split
 ·exact h
 ·split
  ·exact h
  ·split
   ·exact h
   ·rename_i h3
    exact ⟨h.1, by show l.length ≤ 600; omega⟩
theorem FitG.moved {r : GRoutes} (h : FitG r) (g : Int) : FitG (movedF r g).1 := by
 unfold movedF
 split
 ·exact h
 ·split
  ·exact h
  ·refine FitG.still ⟨fun o ho => ?_, h.2⟩
   unfold newRF insG at ho
   simp only [List.mem_append, List.mem_cons] at ho
   rcases ho with ho | rfl | ho
   ·exact h.1 o (List.mem_of_mem_take ho)
   ·exact h.2
   ·exact h.1 o (List.mem_of_mem_drop ho)
structure FitR (R : RootS) : Prop where
 cats : ∀ c ∈ R.cats, FitC c
 rts : FitG R.routes
theorem lastC_mem {R : RootS} (h : R.cats ≠ []) : lastC R ∈ R.cats := by
 unfold lastC
 rw [List.getLast?_eq_some_getLast h]
 exact List.getLast_mem h
theorem FitR.change {R : RootS} (h : FitR R) (id : Int) (y : GCatalog × Int) (hy : FitC y.1) : FitR (changeP R id y).2 := by
 unfold changeP
 split
 ·refine ⟨fun c hc => ?_, h.rts⟩
  have hc' : c ∈ R.cats ++ [y.1] := hc
  rcases List.mem_append.1 hc' with hc | hc
  ·exact h.cats c hc
  ·have : c = y.1 := by simpa using hc
   rw [this]; exact hy
 ·exact h
theorem dec_fit {R : RootS} (h : FitR R) (t : Int) (b : Bool) : FitR (decideF R t b).2.2 := by
 unfold decideF
 repeat' split
 all_goals exact ⟨h.cats, h.rts⟩
theorem FitR.move {R : RootS} (h : FitR R) (k x : Int) (f : Bool) (l : List UInt8) : FitR (moveF R k x f l).2 := by
 unfold moveF moveP
 split
 ·refine ⟨h.cats, ?_⟩
  show FitG (moveY R k x f l).2.1
  unfold moveY
  repeat' split
  all_goals first | exact h.rts | exact h.rts.cut _ _ | exact h.rts.still | exact h.rts.moved _
 ·exact h
theorem FitR.run {R : RootS} (h : FitR R) (he : R.cats ≠ []) (c : GCommand) : FitR (runF R c).2 := by
 have hl := h.cats _ (lastC_mem he)
 unfold runF
 split
 ·exact ⟨h.cats, h.rts⟩
 split
 ·exact dec_fit h _ _
 split
 ·exact dec_fit h _ _
 split
 ·exact h.change _ _ hl.table
 split
 ·exact h.change _ _ hl.index
 split
 ·exact h.change _ _ hl.drop
 split
 ·exact h.change _ _ hl.step
 split
 ·exact h.move _ _ _ _
 split
 ·exact h
 ·exact h
theorem sum_le {α : Type} (f : α → Nat) (m : Nat) : ∀ (l : List α), (∀ x ∈ l, f x ≤ m) → sumOf f l ≤ l.length * m + 1
 | [], _ => by simp [sumOf]
 | x :: l, h => by
  have h1 := sum_le f m l (fun y hy => h y (by simp [hy]))
  have h2 := h x (by simp)
  unfold sumOf at h1 ⊢
  rw [List.map_cons, List.sum_cons, List.length_cons, Nat.succ_mul]
  omega
end Go.Proofs.YtibaehlfpgipfaaGreat
