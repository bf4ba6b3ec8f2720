/- SCHEMA: which tables are right, by the reference. Printed by gen22.py. -/
import Derived.Test.YtibaehlfpgipfaaSch9
namespace Go.Proofs.Ytibaehlfpgipfaa
open Go.RowKit

theorem findB_le {α : Type} {P : α → Bool} {l : List α} (k : Nat) (h : k < l.length) (hp : P l[k] = true) : findB P l ≤ (k : Int) := by
  rcases findB_cases P l with ⟨h1, h2⟩ | ⟨j, hj, h1, h2, h3⟩
  · rw [h1]; omega
  · rw [h1]
    have : ¬ k < j := fun hk => by rw [h3 k hk] at hp; cases hp
    omega
theorem findB_here {C : List GColumn} {i : Nat} (h : i < C.length) (hn : ∀ j (hj : j < i), (C[j]'(by omega)).fName ≠ C[i].fName) : findB (fun o => decide (o.fName = C[i].fName)) C = (i : Int) :=
  findB_at i h (fun j hj x hx => by rw [List.getElem?_eq_getElem (by omega)] at hx; cases hx; exact decide_eq_false (hn j hj)) (decide_eq_true rfl)
theorem findB_not {C : List GColumn} {i k : Nat} (h : i < C.length) (hk : k < i) (he : (C[k]'(by omega)).fName = C[i].fName) : findB (fun o => decide (o.fName = C[i].fName)) C ≠ (i : Int) := by
  have := findB_le (P := fun o : GColumn => decide (o.fName = C[i].fName)) k (by omega : k < C.length) (decide_eq_true he)
  omega
section
attribute [local go_sem ↓] ldz_Column stz_Column
end
end Go.Proofs.Ytibaehlfpgipfaa
