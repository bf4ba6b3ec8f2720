/- SCHEMA: the plain laws of what is added, let go, and goes on. Printed by mac.py. -/
import Derived.Test.YtfogbbnfedcldaaSchZ
namespace Go.Proofs.Ytfogbbnfedcldaa
open Go.RowKit

section
variable {α : Type} {P : α → Bool} {l : List α} {z y : α}
theorem firstB_app_true (h : (firstB P l z).2 = true) : firstB P (l ++ [y]) z = firstB P l z := by
  unfold firstB at *
  rw [List.find?_append]
  cases hf : l.find? P with
  | none => rw [hf] at h; cases h
  | some x => rfl
theorem firstB_app_no (h : P y = false) : firstB P (l ++ [y]) z = firstB P l z := by
  unfold firstB
  rw [List.find?_append]
  cases hf : l.find? P with
  | none => simp [h]
  | some x => rfl
theorem firstB_app_new (h : (firstB P l z).2 = false) (hy : P y = true) : firstB P (l ++ [y]) z = (y, true) := by
  unfold firstB at *
  rw [List.find?_append]
  cases hf : l.find? P with
  | none => simp [hy]
  | some x => rw [hf] at h; cases h
end
theorem first_mem {α β : Type} [DecidableEq β] {l : List α} {f : α → β} (h : l.Pairwise (fun a b => f a ≠ f b)) {y : α} (hy : y ∈ l) (z : α) : firstB (fun o => decide (f o = f y)) l z = (y, true) := by
  obtain ⟨i, hi, rfl⟩ := List.mem_iff_getElem.1 hy
  exact firstB_some (P := fun o => decide (f o = f l[i])) i hi (decide_eq_true rfl) (fun j hj => decide_eq_false (List.pairwise_iff_getElem.1 h j i (by omega) hi hj))
theorem map_set_same {α β : Type} {l : List α} {f : α → β} {k : Nat} {y : α} (hk : k < l.length) (h : f y = f l[k]) : (l.set k y).map f = l.map f := by
  rw [List.map_set, h]
  apply List.ext_getElem
  · simp
  · intro i h1 h2
    rw [List.getElem_set]
    by_cases e : k = i
    · subst e; simp
    · rw [if_neg e]
theorem pair_set {α β : Type} {R : β → β → Prop} {l : List α} {f : α → β} {k : Nat} {y : α} (hk : k < l.length) (h : f y = f l[k]) (hp : l.Pairwise (fun a b => R (f a) (f b))) : (l.set k y).Pairwise (fun a b => R (f a) (f b)) := by
  rw [← List.pairwise_map (f := f) (R := R)] at hp ⊢
  rw [map_set_same hk h]; exact hp
theorem tabOf_tables {c d : GCatalog} (h : d.fTables = c.fTables) (i : Int) : tabOf d i = tabOf c i := by unfold tabOf; rw [h]
theorem indexB_tables {c d : GCatalog} (h : d.fTables = c.fTables) (x : GIndex) : indexB d x = indexB c x := by unfold indexB; rw [tabOf_tables h]
theorem indexB_state {c : GCatalog} {x : GIndex} (h : indexB c x = true) : 1 ≤ x.fState ∧ x.fState ≤ 7 := by
  unfold indexB at h
  simp only [Bool.and_eq_true, decide_eq_true_eq] at h
  exact h.2.2.2
theorem indexB_set {c : GCatalog} {x : GIndex} (h : indexB c x = true) {s : Int} {b : Bool} (h1 : 1 ≤ s) (h7 : s ≤ 7) : indexB c { x with fState := s, fBad := b } = true := by
  unfold indexB at *
  simp only [Bool.and_eq_true, decide_eq_true_eq] at h ⊢
  exact ⟨h.1, h.2.1, h.2.2.1, h1, h7⟩
theorem right_setAt {c : GCatalog} (h : RightP c) {k : Nat} (hk : k < c.fIndexes.length) {y : GIndex} (h1 : y.fID = c.fIndexes[k].fID) (h2 : y.fName = c.fIndexes[k].fName) (h3 : indexB c y = true) : RightP (setAt c k y) where
  v0 := by have := h.v0; show 0 ≤ c.fVersion + 1; omega
  n1 := h.n1
  n2 := h.n2
  t6 := h.t6
  x10 := by show (c.fIndexes.set k y).length ≤ 10; rw [List.length_set]; exact h.x10
  tid := h.tid
  tok := h.tok
  tnm := h.tnm
  xid := pair_set (R := (· < ·)) (f := (·.fID)) hk h1 h.xid
  xok := fun x hx => by
    rw [tabOf_tables (c := c) (d := setAt c k y) rfl, indexB_tables (c := c) (d := setAt c k y) rfl]
    rcases List.mem_or_eq_of_mem_set hx with hx | rfl
    · exact h.xok x hx
    · have := h.xok _ (List.getElem_mem hk)
      rw [h1]; exact ⟨this.1, this.2.1, this.2.2.1, h3⟩
  xnm := pair_set (R := (· ≠ ·)) (f := (·.fName)) hk h2 h.xnm
theorem right_cutAt {c : GCatalog} (h : RightP c) (k : Nat) : RightP (cutAt c k) where
  v0 := by have := h.v0; show 0 ≤ c.fVersion + 1; omega
  n1 := h.n1
  n2 := h.n2
  t6 := h.t6
  x10 := Nat.le_trans (List.length_eraseIdx_le _ _) h.x10
  tid := h.tid
  tok := h.tok
  tnm := h.tnm
  xid := h.xid.sublist (List.eraseIdx_sublist _ _)
  xok := fun x hx => by
    rw [tabOf_tables (c := c) (d := cutAt c k) rfl, indexB_tables (c := c) (d := cutAt c k) rfl]
    exact h.xok x ((List.eraseIdx_sublist _ _).subset hx)
  xnm := h.xnm.sublist (List.eraseIdx_sublist _ _)
theorem nextF_in {s : Int} (h1 : 1 ≤ s) (h7 : s ≤ 7) : 0 ≤ nextF s ∧ nextF s ≤ 7 := by
  unfold nextF
  split
  · constructor <;> omega
  · split <;> constructor <;> omega
theorem atI_cases {α β : Type} {P : α → Bool} {l : List α} {z : β} {f : Nat → α → β} : ((∀ x ∈ l, P x = false) ∧ atI (findB P l) l z f = z) ∨ ∃ (k : Nat) (h : k < l.length), P l[k] = true ∧ (∀ j (hj : j < k), P (l[j]'(by omega)) = false) ∧ atI (findB P l) l z f = f k l[k] := by
  rcases findB_cases P l with ⟨h1, h2⟩ | ⟨k, hk, h1, h2, h3⟩
  · exact .inl ⟨h2, by rw [h1, atI_neg]⟩
  · exact .inr ⟨k, hk, h2, h3, by rw [h1, atI_nat hk]⟩
/-- What a step does. -/
inductive StepTo (c : GCatalog) (d frm to : Int) (bad : Bool) : GCatalog × Int → Prop
  | none : (∀ x ∈ c.fIndexes, x.fID ≠ d) → StepTo c d frm to bad (c, 5)
  | no (k : Nat) (h : k < c.fIndexes.length) : c.fIndexes[k].fID = d → (c.fIndexes[k].fState ≠ frm ∨ (¬(to = nextF c.fIndexes[k].fState ∧ to ≠ frm) ∧ ¬(bad = true ∧ frm = 3 ∧ to = 6))) → StepTo c d frm to bad (c, 7)
  | cut (k : Nat) (h : k < c.fIndexes.length) : c.fIndexes[k].fID = d → c.fIndexes[k].fState = frm → to = 0 → to = nextF frm → StepTo c d frm to bad (cutAt c k, 0)
  | set (k : Nat) (h : k < c.fIndexes.length) : c.fIndexes[k].fID = d → c.fIndexes[k].fState = frm → to ≠ 0 → ((to = nextF frm ∧ to ≠ frm) ∨ (bad = true ∧ frm = 3 ∧ to = 6)) → StepTo c d frm to bad (setAt c k { c.fIndexes[k] with fState := to, fBad := bad || c.fIndexes[k].fBad }, 0)
theorem stepF_to (c : GCatalog) (d frm to : Int) (bad : Bool) : StepTo c d frm to bad (stepF c d frm to bad) := by
  unfold stepF
  rcases atI_cases (P := fun x : GIndex => decide (x.fID = d)) (l := c.fIndexes) (z := ((c, 5) : GCatalog × Int)) (f := stepAt frm to bad c) with ⟨h1, h2⟩ | ⟨k, hk, h1, -, h2⟩
  · rw [h2]; exact .none fun x hx => of_decide_eq_false (h1 x hx)
  · rw [h2]
    have h1 := of_decide_eq_true h1
    unfold stepAt
    by_cases hn : c.fIndexes[k].fState ≠ frm ∨ (¬(to = nextF c.fIndexes[k].fState ∧ to ≠ frm) ∧ ¬(bad = true ∧ frm = 3 ∧ to = 6))
    · rw [if_pos hn]; exact .no k hk h1 hn
    · rw [if_neg hn]
      have hs : c.fIndexes[k].fState = frm := Classical.byContradiction fun e => hn (.inl e)
      have hw : (to = nextF frm ∧ to ≠ frm) ∨ (bad = true ∧ frm = 3 ∧ to = 6) := Classical.byContradiction fun e => hn (.inr ⟨fun g => e (.inl (by rw [hs] at g; exact g)), fun g => e (.inr g)⟩)
      by_cases h0 : to = 0
      · rw [if_pos h0]
        exact .cut k hk h1 hs h0 (by rcases hw with h | h <;> omega)
      · rw [if_neg h0]; exact .set k hk h1 hs h0 hw
theorem step_right {c : GCatalog} (h : RightP c) (d frm to : Int) (bad : Bool) : RightP (stepF c d frm to bad).1 := by
  have := stepF_to c d frm to bad
  generalize stepF c d frm to bad = r at this
  cases this with
  | none => exact h
  | no => exact h
  | cut k => exact right_cutAt h k
  | set k hk h1 h2 h3 h4 =>
    have hx := (h.xok _ (List.getElem_mem hk)).2.2.2
    have hs := indexB_state hx
    rw [h2] at hs
    have := nextF_in hs.1 hs.2
    exact right_setAt h hk rfl rfl (indexB_set hx (by rcases h4 with h | h <;> omega) (by rcases h4 with h | h <;> omega))
/-- What letting go does. -/
inductive DropTo (c : GCatalog) (nm : List UInt8) : GCatalog × Int → Prop
  | none : (∀ x ∈ c.fIndexes, x.fName ≠ nm) → DropTo c nm (c, 5)
  | no (k : Nat) (h : k < c.fIndexes.length) : c.fIndexes[k].fName = nm → ¬(1 ≤ c.fIndexes[k].fState ∧ c.fIndexes[k].fState ≤ 4) → DropTo c nm (c, 7)
  | set (k : Nat) (h : k < c.fIndexes.length) (s : Int) : c.fIndexes[k].fName = nm → ((c.fIndexes[k].fState = 4 ∧ s = 5) ∨ (1 ≤ c.fIndexes[k].fState ∧ c.fIndexes[k].fState < 4 ∧ s = 6)) → DropTo c nm (setAt c k { c.fIndexes[k] with fState := s }, 0)
theorem dropF_to (c : GCatalog) (nm : List UInt8) : DropTo c nm (dropF c nm) := by
  unfold dropF
  rcases atI_cases (P := fun x : GIndex => decide (x.fName = nm)) (l := c.fIndexes) (z := ((c, 5) : GCatalog × Int)) (f := dropAt c) with ⟨h1, h2⟩ | ⟨k, hk, h1, -, h2⟩
  · rw [h2]; exact .none fun x hx => of_decide_eq_false (h1 x hx)
  · rw [h2]
    have h1 := of_decide_eq_true h1
    unfold dropAt
    by_cases h4 : c.fIndexes[k].fState = 4
    · rw [if_pos h4]; exact .set k hk 5 h1 (.inl ⟨h4, rfl⟩)
    · rw [if_neg h4]
      by_cases h5 : 1 ≤ c.fIndexes[k].fState ∧ c.fIndexes[k].fState < 4
      · rw [if_pos h5]; exact .set k hk 6 h1 (.inr ⟨h5.1, h5.2, rfl⟩)
      · rw [if_neg h5]; exact .no k hk h1 (by omega)
theorem drop_right {c : GCatalog} (h : RightP c) (nm : List UInt8) : RightP (dropF c nm).1 := by
  have := dropF_to c nm
  generalize dropF c nm = r at this
  cases this with
  | none => exact h
  | no => exact h
  | set k hk s h1 h2 =>
    have hx := (h.xok _ (List.getElem_mem hk)).2.2.2
    exact right_setAt h hk rfl rfl (indexB_set (b := c.fIndexes[k].fBad) hx (by omega) (by omega))
/-- What adding a table does. -/
inductive TabTo (c : GCatalog) (t : GTable) : GCatalog × Int → Prop
  | no (e : Int) : 0 < e → TabTo c t (c, e)
  | put : tableB t = true → (firstB (fun x => decide (x.fName = t.fName)) c.fTables zTab).2 = false → c.fTables.length < 6 → c.fNext < 1073741824 → TabTo c t ({ c with fVersion := c.fVersion + 1, fNext := c.fNext + 1, fTables := c.fTables ++ [{ t with fID := c.fNext }] }, 0)
theorem addTableF_to (c : GCatalog) (t : GTable) : TabTo c t (addTableF c t) := by
  unfold addTableF
  by_cases h1 : tableB t = false
  · rw [if_pos h1]; exact .no 9 (by decide)
  rw [if_neg h1]
  by_cases h2 : (firstB (fun x => decide (x.fName = t.fName)) c.fTables zTab).2 = true
  · rw [if_pos h2]; exact .no 6 (by decide)
  rw [if_neg h2]
  by_cases h3 : 6 ≤ c.fTables.length ∨ 1073741824 ≤ c.fNext
  · rw [if_pos h3]; exact .no 4 (by decide)
  rw [if_neg h3]
  exact .put (by simpa using h1) (by simpa using h2) (by omega) (by omega)
theorem addTable_right {c : GCatalog} (h : RightP c) (t : GTable) : RightP (addTableF c t).1 := by
  have := addTableF_to c t
  generalize addTableF c t = r at this
  cases this with
  | no => exact h
  | put h1 h2 h3 h4 =>
    have htab : ∀ d, d ≠ c.fNext → tabOf { c with fVersion := c.fVersion + 1, fNext := c.fNext + 1, fTables := c.fTables ++ [{ t with fID := c.fNext }] } d = tabOf c d := fun d hd => by
      unfold tabOf
      exact firstB_app_no (decide_eq_false (fun e => hd e.symm))
    refine ⟨by have := h.v0; show 0 ≤ c.fVersion + 1; omega, by have := h.n1; show 1 ≤ c.fNext + 1; omega, by show c.fNext + 1 ≤ _; omega, by show (c.fTables ++ [_]).length ≤ 6; simp; omega, h.x10, ?_, ?_, ?_, h.xid, ?_, h.xnm⟩
    · refine List.pairwise_append.2 ⟨h.tid, List.pairwise_singleton _ _, fun a ha b hb => ?_⟩
      rw [List.mem_singleton] at hb; subst hb
      exact (h.tok a ha).2.1
    · intro x hx
      rcases List.mem_append.1 hx with hx | hx
      · have := h.tok x hx
        exact ⟨this.1, by show x.fID < c.fNext + 1; omega, this.2.2⟩
      · rw [List.mem_singleton] at hx; subst hx
        exact ⟨by have := h.n1; show 0 < c.fNext; omega, by show c.fNext < c.fNext + 1; omega, h1⟩
    · refine List.pairwise_append.2 ⟨h.tnm, List.pairwise_singleton _ _, fun a ha b hb => ?_⟩
      rw [List.mem_singleton] at hb; subst hb
      exact of_decide_eq_false (firstB_false h2 a ha)
    · intro x hx
      obtain ⟨x1, x2, x3, x4⟩ := h.xok x hx
      refine ⟨x1, by show x.fID < c.fNext + 1; omega, by rw [htab _ (by omega)]; exact x3, ?_⟩
      have hxt : (tabOf c x.fTable).2 = true := by unfold indexB at x4; simp only [Bool.and_eq_true] at x4; exact x4.1
      have hne : x.fTable ≠ c.fNext := by
        have := firstB_true hxt
        have h5 := of_decide_eq_true this.2
        have h6 := (h.tok _ this.1).2.1
        omega
      unfold indexB at *
      rw [htab _ hne]; exact x4
/-- What adding an index does. -/
inductive IdxTo (c : GCatalog) (x : GIndex) (tn : List UInt8) : GCatalog × Int → Prop
  | no (e : Int) : 0 < e → IdxTo c x tn (c, e)
  | put (t : GTable) : t ∈ c.fTables → t.fName = tn → indexB c (newX c x t.fID) = true → (∀ y ∈ c.fIndexes, y.fName ≠ x.fName) → c.fIndexes.length < 10 → c.fNext < 1073741824 → IdxTo c x tn (putX c (newX c x t.fID), 0)
theorem addIndexF_to (c : GCatalog) (x : GIndex) (tn : List UInt8) : IdxTo c x tn (addIndexF c x tn) := by
  unfold addIndexF
  obtain ⟨r, hr⟩ : ∃ r, r = firstB (fun t => decide (t.fName = tn)) c.fTables zTab := ⟨_, rfl⟩
  show IdxTo c x tn (if (firstB (fun t => decide (t.fName = tn)) c.fTables zTab).2 = false then (c, 5) else if indexB c (newX c x (firstB (fun t => decide (t.fName = tn)) c.fTables zTab).1.fID) = false then (c, 9)
    else if 0 ≤ findB (fun y => decide (y.fName = x.fName)) c.fIndexes then (c, 6) else if 10 ≤ c.fIndexes.length ∨ 1073741824 ≤ c.fNext then (c, 4) else (putX c (newX c x (firstB (fun t => decide (t.fName = tn)) c.fTables zTab).1.fID), 0))
  rw [← hr]
  by_cases h1 : r.2 = false
  · rw [if_pos h1]; exact .no 5 (by decide)
  rw [if_neg h1]
  by_cases h2 : indexB c (newX c x r.1.fID) = false
  · rw [if_pos h2]; exact .no 9 (by decide)
  rw [if_neg h2]
  by_cases h3 : 0 ≤ findB (fun y => decide (y.fName = x.fName)) c.fIndexes
  · rw [if_pos h3]; exact .no 6 (by decide)
  rw [if_neg h3]
  by_cases h4 : 10 ≤ c.fIndexes.length ∨ 1073741824 ≤ c.fNext
  · rw [if_pos h4]; exact .no 4 (by decide)
  rw [if_neg h4]
  have hf := firstB_true (P := fun t : GTable => decide (t.fName = tn)) (l := c.fTables) (z := zTab) (by rw [← hr]; simpa using h1)
  rw [← hr] at hf
  refine .put r.1 hf.1 (of_decide_eq_true hf.2) (by simpa using h2) (fun y hy => ?_) (by omega) (by omega)
  rcases findB_cases (fun y : GIndex => decide (y.fName = x.fName)) c.fIndexes with ⟨-, g⟩ | ⟨k, hk, g, -⟩
  · exact of_decide_eq_false (g y hy)
  · omega
theorem addIndex_right {c : GCatalog} (h : RightP c) (x : GIndex) (tn : List UInt8) : RightP (addIndexF c x tn).1 := by
  have := addIndexF_to c x tn
  generalize addIndexF c x tn = r at this
  cases this with
  | no => exact h
  | put t ht htn h1 h2 h3 h4 =>
    refine ⟨by have := h.v0; show 0 ≤ c.fVersion + 1; omega, by have := h.n1; show 1 ≤ c.fNext + 1; omega, by show c.fNext + 1 ≤ _; omega, h.t6, by show (c.fIndexes ++ [_]).length ≤ 10; simp; omega, h.tid, fun t ht => ?_, h.tnm, ?_, ?_, ?_⟩
    · have := h.tok t ht
      exact ⟨this.1, by show t.fID < c.fNext + 1; omega, this.2.2⟩
    · refine List.pairwise_append.2 ⟨h.xid, List.pairwise_singleton _ _, fun a ha b hb => ?_⟩
      rw [List.mem_singleton] at hb; subst hb
      exact (h.xok a ha).2.1
    · intro y hy
      show 0 < y.fID ∧ y.fID < c.fNext + 1 ∧ (tabOf (putX c (newX c x t.fID)) y.fID).2 = false ∧ indexB (putX c (newX c x t.fID)) y = true
      rw [tabOf_tables (c := c) (d := putX c (newX c x t.fID)) rfl, indexB_tables (c := c) (d := putX c (newX c x t.fID)) rfl]
      rcases List.mem_append.1 hy with hy | hy
      · obtain ⟨x1, x2, x3, x4⟩ := h.xok y hy
        exact ⟨x1, by show y.fID < c.fNext + 1; omega, x3, x4⟩
      · rw [List.mem_singleton] at hy; subst hy
        refine ⟨by have := h.n1; show 0 < c.fNext; omega, by show c.fNext < c.fNext + 1; omega, ?_, h1⟩
        refine tabOf_not_mem fun hm => ?_
        obtain ⟨t', ht', e⟩ := List.mem_map.1 hm
        have h5 := (h.tok t' ht').2.1
        have e' : t'.fID = c.fNext := e
        omega
    · refine List.pairwise_append.2 ⟨h.xnm, List.pairwise_singleton _ _, fun a ha b hb => ?_⟩
      rw [List.mem_singleton] at hb; subst hb
      exact h2 a ha
end Go.Proofs.Ytfogbbnfedcldaa
