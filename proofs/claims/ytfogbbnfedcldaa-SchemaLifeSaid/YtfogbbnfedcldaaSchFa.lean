/- SCHEMA: plain laws for the law SchemaLife: an index's life. Printed by mac.py. -/
import Derived.Test.YtfogbbnfedcldaaSchD0
namespace Go.Proofs.Ytfogbbnfedcldaa
open Go.RowKit

/-- An index of one's own behind all others. -/
def endX (x1 : GIndex) (s : Int) (b : Bool) : GIndex := { x1 with fState := s, fBad := b }
def LC (c : GCatalog) (x1 : GIndex) (s : Int) (b : Bool) (v : Int) : GCatalog := { c with fVersion := v, fNext := c.fNext + 1, fIndexes := c.fIndexes ++ [endX x1 s b] }
def CC (c : GCatalog) (v : Int) : GCatalog := { c with fVersion := v, fNext := c.fNext + 1 }
theorem find_last {α : Type} {P : α → Bool} {l : List α} {y : α} (h : ∀ x ∈ l, P x = false) (hy : P y = true) : findB P (l ++ [y]) = (l.length : Int) :=
  findB_at l.length (by simp) (fun j hj x hx => h x (by rw [List.getElem?_append_left hj] at hx; exact List.mem_of_getElem? hx)) (by simp [hy])
theorem last_at {c : GCatalog} {x1 : GIndex} {s : Int} {b : Bool} {v : Int} (h : c.fIndexes.length < (LC c x1 s b v).fIndexes.length) : (LC c x1 s b v).fIndexes[c.fIndexes.length] = endX x1 s b := List.getElem_concat_length (l := c.fIndexes) (a := endX x1 s b) rfl h
theorem last_len {c : GCatalog} {x1 : GIndex} {s : Int} {b : Bool} {v : Int} : c.fIndexes.length < (LC c x1 s b v).fIndexes.length := by
  show c.fIndexes.length < (c.fIndexes ++ [endX x1 s b]).length
  simp
theorem life_put {c : GCatalog} {x1 y : GIndex} {s : Int} {b : Bool} {v : Int} {s' : Int} {b' : Bool} (hy : y = endX x1 s' b') : setAt (LC c x1 s b v) c.fIndexes.length y = LC c x1 s' b' (v + 1) := by
  subst hy
  unfold setAt LC
  simp
section
variable {c : GCatalog} {x1 : GIndex}
theorem life_step (hid : ∀ x ∈ c.fIndexes, x.fID ≠ x1.fID) (s tt : Int) (b bad : Bool) (v : Int) (hn : tt ≠ 0) (h : (tt = nextF s ∧ tt ≠ s) ∨ (bad = true ∧ s = 3 ∧ tt = 6)) : stepF (LC c x1 s b v) x1.fID s tt bad = (LC c x1 tt (bad || b) (v + 1), 0) := by
  unfold stepF
  rw [show findB (fun x => decide (x.fID = x1.fID)) (LC c x1 s b v).fIndexes = ((c.fIndexes.length : Nat) : Int) from find_last (fun x hx => decide_eq_false (hid x hx)) (decide_eq_true rfl), atI_nat last_len, last_at last_len,
    stepAt_set (x := endX x1 s b) (frm := s) rfl h hn]
  exact congrArg (·, (0 : Int)) (life_put (s' := tt) (b' := bad || b) rfl)
theorem life_cut (hid : ∀ x ∈ c.fIndexes, x.fID ≠ x1.fID) (b bad : Bool) (v : Int) : stepF (LC c x1 7 b v) x1.fID 7 0 bad = (CC c (v + 1), 0) := by
  unfold stepF
  rw [show findB (fun x => decide (x.fID = x1.fID)) (LC c x1 7 b v).fIndexes = ((c.fIndexes.length : Nat) : Int) from find_last (fun x hx => decide_eq_false (hid x hx)) (decide_eq_true rfl), atI_nat last_len, last_at last_len,
    stepAt_cut (x := endX x1 7 b) (frm := 7) rfl (.inl ⟨show (0 : Int) = nextF 7 by decide, by decide⟩) rfl]
  unfold cutAt LC CC
  simp [List.eraseIdx_append_of_length_le]
theorem life_drop (hnm : ∀ x ∈ c.fIndexes, x.fName ≠ x1.fName) (b : Bool) (v : Int) : dropF (LC c x1 4 b v) x1.fName = (LC c x1 5 b (v + 1), 0) := by
  unfold dropF
  rw [show findB (fun x => decide (x.fName = x1.fName)) (LC c x1 4 b v).fIndexes = ((c.fIndexes.length : Nat) : Int) from find_last (fun x hx => decide_eq_false (hnm x hx)) (decide_eq_true rfl), atI_nat last_len, last_at last_len]
  unfold dropAt
  rw [if_pos (show (endX x1 4 b).fState = 4 from rfl)]
  exact congrArg (·, (0 : Int)) (life_put (s' := 5) (b' := b) rfl)
theorem life_again (hnm : ∀ x ∈ c.fIndexes, x.fName ≠ x1.fName) (b : Bool) (v : Int) : dropF (LC c x1 5 b v) x1.fName = (LC c x1 5 b v, 7) := by
  unfold dropF
  rw [show findB (fun x => decide (x.fName = x1.fName)) (LC c x1 5 b v).fIndexes = ((c.fIndexes.length : Nat) : Int) from find_last (fun x hx => decide_eq_false (hnm x hx)) (decide_eq_true rfl), atI_nat last_len, last_at last_len]
  unfold dropAt
  rw [if_neg (show ¬(endX x1 5 b).fState = 4 from by show ¬(5 : Int) = 4; decide), if_neg (show ¬(1 ≤ (endX x1 5 b).fState ∧ (endX x1 5 b).fState < 4) from by show ¬(1 ≤ (5 : Int) ∧ (5 : Int) < 4); decide)]
theorem life_find (hnm : ∀ x ∈ c.fIndexes, x.fName ≠ x1.fName) (s : Int) (b : Bool) (v : Int) : firstB (fun o => decide (o.fName = x1.fName)) (LC c x1 s b v).fIndexes zIdx = (endX x1 s b, true) :=
  firstB_app_new (by rw [firstB_none (fun x hx => decide_eq_false (hnm x hx))]) (decide_eq_true rfl)
theorem life_gone (hnm : ∀ x ∈ c.fIndexes, x.fName ≠ x1.fName) (v : Int) : firstB (fun o => decide (o.fName = x1.fName)) (CC c v).fIndexes zIdx = (zIdx, false) :=
  firstB_none (fun x hx => decide_eq_false (hnm x hx))
end
/-- The steps. -/
def stL (bad : Bool) : List Int := if bad then [2, 3, 6, 7, 0] else [2, 3, 4]
/-- The state ahead of a round. -/
def sAt (bad : Bool) (k : Nat) : Int := (1 :: stL bad).getD k 0
def bAt (bad : Bool) (k : Nat) : Bool := bad && decide (3 ≤ k)
/-- The catalog ahead of a round. -/
def NC (c : GCatalog) (x1 : GIndex) (bad : Bool) (k : Nat) : GCatalog := if bad && decide (k = 5) then CC c (c.fVersion + 1 + k) else LC c x1 (sAt bad k) (bAt bad k) (c.fVersion + 1 + k)
/-- What a round does. -/
structure Round (c : GCatalog) (x1 : GIndex) (bad : Bool) (k : Nat) (s tt : Int) (bb : Bool) (n m : GCatalog) : Prop where
  step : stepF n x1.fID s tt bb = (m, 0)
  ver : m.fVersion = n.fVersion + 1
  nv : n.fVersion = c.fVersion + 1 + k
  find : tt ≠ 0 → firstB (fun o => decide (o.fName = x1.fName)) m.fIndexes zIdx = (endX x1 tt (bAt bad (k + 1)), true)
  gone : tt = 0 → firstB (fun o => decide (o.fName = x1.fName)) m.fIndexes zIdx = (zIdx, false) ∧ m.fIndexes.length = c.fIndexes.length ∧ m.fNext = c.fNext + 1
theorem life_round {c : GCatalog} {x1 : GIndex} (hid : ∀ x ∈ c.fIndexes, x.fID ≠ x1.fID) (hnm : ∀ x ∈ c.fIndexes, x.fName ≠ x1.fName) (bad : Bool) (k : Nat) (hk : k < (stL bad).length) :
    Round c x1 bad k (sAt bad k) (stL bad)[k] (bad && (stL bad)[k] == 6) (NC c x1 bad k) (NC c x1 bad (k + 1)) := by
  have key : ∀ (s tt : Int) (b bb : Bool) (j : Nat), NC c x1 bad k = LC c x1 s b (c.fVersion + 1 + k) → NC c x1 bad (k + 1) = LC c x1 tt (bb || b) (c.fVersion + 1 + (k + 1 : Nat)) → tt ≠ 0 → ((tt = nextF s ∧ tt ≠ s) ∨ (bb = true ∧ s = 3 ∧ tt = 6)) → (bb || b) = bAt bad (k + 1) → j = k →
      Round c x1 bad k s tt bb (NC c x1 bad k) (NC c x1 bad (k + 1)) := by
    intro s tt b bb j e1 e2 h0 h1 h2 _
    rw [e1, e2]
    refine ⟨?_, ?_, rfl, fun _ => ?_, fun h => absurd h h0⟩
    · rw [life_step hid s tt b bb _ h0 h1, show c.fVersion + 1 + ((k + 1 : Nat) : Int) = c.fVersion + 1 + (k : Int) + 1 by omega]
    · show c.fVersion + 1 + ((k + 1 : Nat) : Int) = c.fVersion + 1 + (k : Int) + 1; omega
    · rw [← h2]; exact life_find hnm _ _ _
  cases bad with
  | false =>
    have hk' : k < 3 := hk
    match k, hk' with
    | 0, _ => exact key 1 2 false false 0 rfl rfl (by decide) (.inl ⟨by decide, by decide⟩) rfl rfl
    | 1, _ => exact key 2 3 false false 1 rfl rfl (by decide) (.inl ⟨by decide, by decide⟩) rfl rfl
    | 2, _ => exact key 3 4 false false 2 rfl rfl (by decide) (.inl ⟨by decide, by decide⟩) rfl rfl
  | true =>
    have hk' : k < 5 := hk
    match k, hk' with
    | 0, _ => exact key 1 2 false false 0 rfl rfl (by decide) (.inl ⟨by decide, by decide⟩) rfl rfl
    | 1, _ => exact key 2 3 false false 1 rfl rfl (by decide) (.inl ⟨by decide, by decide⟩) rfl rfl
    | 2, _ => exact key 3 6 false true 2 rfl rfl (by decide) (.inr ⟨rfl, rfl, rfl⟩) rfl rfl
    | 3, _ => exact key 6 7 true false 3 rfl rfl (by decide) (.inl ⟨by decide, by decide⟩) rfl rfl
    | 4, _ =>
      show Round c x1 true 4 7 0 false (LC c x1 7 true (c.fVersion + 1 + (4 : Nat))) (CC c (c.fVersion + 1 + (5 : Nat)))
      refine ⟨?_, ?_, rfl, fun h => absurd rfl h, fun _ => ⟨life_gone hnm _, rfl, rfl⟩⟩
      · rw [life_cut hid, show c.fVersion + 1 + ((4 : Nat) : Int) + 1 = c.fVersion + 1 + ((5 : Nat) : Int) by omega]
      · show c.fVersion + 1 + ((5 : Nat) : Int) = c.fVersion + 1 + ((4 : Nat) : Int) + 1; omega
/-- The catalog in the second loop. -/
def MC (c : GCatalog) (x1 : GIndex) (k : Nat) : GCatalog := if k < 3 then LC c x1 (5 + k) false (c.fVersion + 5 + k) else CC c (c.fVersion + 5 + k)
theorem life_away {c : GCatalog} {x1 : GIndex} (hid : ∀ x ∈ c.fIndexes, x.fID ≠ x1.fID) (hnm : ∀ x ∈ c.fIndexes, x.fName ≠ x1.fName) (k : Nat) (hk : k < 3) :
    stepF (MC c x1 k) x1.fID (5 + k) (nextF (5 + k)) false = (MC c x1 (k + 1), 0) ∧ firstB (fun o => decide (o.fName = x1.fName)) (MC c x1 k).fIndexes zIdx = (endX x1 (5 + k) false, true) := by
  have e : ∀ j : Nat, j < 3 → MC c x1 j = LC c x1 (5 + j) false (c.fVersion + 5 + j) := fun j h => by unfold MC; rw [if_pos h]
  refine ⟨?_, by rw [e k hk]; exact life_find hnm _ _ _⟩
  match k, hk with
  | 0, _ =>
    rw [e 0 (by decide), e 1 (by decide)]
    exact (life_step hid 5 6 false false _ (by decide) (.inl ⟨by decide, by decide⟩)).trans (by rw [show c.fVersion + 5 + ((0 : Nat) : Int) + 1 = c.fVersion + 5 + ((1 : Nat) : Int) by omega]; rfl)
  | 1, _ =>
    rw [e 1 (by decide), e 2 (by decide)]
    exact (life_step hid 6 7 false false _ (by decide) (.inl ⟨by decide, by decide⟩)).trans (by rw [show c.fVersion + 5 + ((1 : Nat) : Int) + 1 = c.fVersion + 5 + ((2 : Nat) : Int) by omega]; rfl)
  | 2, _ =>
    rw [e 2 (by decide)]
    exact (life_cut hid false false _).trans (by rw [show c.fVersion + 5 + ((2 : Nat) : Int) + 1 = c.fVersion + 5 + ((3 : Nat) : Int) by omega]; rfl)
end Go.Proofs.Ytfogbbnfedcldaa
