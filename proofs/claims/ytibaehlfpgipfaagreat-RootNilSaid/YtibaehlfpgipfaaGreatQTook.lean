/- WHAT BYTES ARE TAKEN AS: the ends of both readers. -/
import Derived.Test.YtibaehlfpgipfaaGreatQIn
import Derived.Test.YtibaehlfpgipfaaGreatQRead3
namespace Go.Proofs.YtibaehlfpgipfaaGreat
open Go.RowKit

/-- The thing that all of the bytes are, or why they are none. -/
def endP {α : Type} (z : α) (y : α × RdS) : α × Int := if endS y.2 = 0 then (y.1, 0) else (z, endS y.2)
theorem endP_ok {α : Type} {z : α} {y : α × RdS} (h : endS y.2 = 0) : endP z y = (y.1, 0) := by unfold endP; rw [if_pos h]
theorem endP_no {α : Type} {z : α} {y : α × RdS} (h : endS y.2 ≠ 0) : endP z y = (z, endS y.2) := by unfold endP; rw [if_neg h]
def takeP {α : Type} (f : Ps α) (z : α) (l : List UInt8) : α × Int := endP z (f ⟨l, 0, 0, []⟩)
theorem Sees.endS {s s0 : RdS} {bad : Int} (h : Sees s s0 bad) : endS s = if bad ≠ 0 then bad else endS s0 := by
  by_cases he : s.e = 0
  · obtain ⟨h1, h2, h3⟩ := h.fine he
    subst h1
    unfold Go.Proofs.YtibaehlfpgipfaaGreat.endS
    simp [he, h2, h3, h.B]
  · have h1 := h.e
    by_cases hb : bad = 0
    · subst hb
      simp only [ne_eq, not_true_eq_false, if_false] at h1 ⊢
      unfold Go.Proofs.YtibaehlfpgipfaaGreat.endS
      rw [if_pos he, if_pos (by rw [← h1]; exact he), h1]
    · rw [if_pos hb] at h1 ⊢
      unfold Go.Proofs.YtibaehlfpgipfaaGreat.endS
      rw [if_pos he, h1]
end Go.Proofs.YtibaehlfpgipfaaGreat
