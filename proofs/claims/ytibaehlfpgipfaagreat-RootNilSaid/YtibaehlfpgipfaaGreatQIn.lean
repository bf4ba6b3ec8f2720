/- THE REFERENCE's READER OF STRUCTS: a reader, and a fault of its own; its leaves. -/
import Derived.Test.YtibaehlfpgipfaaGreatQRef
import Derived.Test.YtibaehlfpgipfaaGreatQPars
namespace Go.Proofs.YtibaehlfpgipfaaGreat
open Go.RowKit

/-- What is seen of it: the same bytes; the first fault; the same place, while there is none. -/
structure Sees (s s0 : RdS) (bad : Int) : Prop where
  B : s.B = s0.B
  e : s.e = if bad ≠ 0 then bad else s0.e
  pos : s.e = 0 → s.pos = s0.pos
theorem Sees.fine {s s0 : RdS} {bad : Int} (h : Sees s s0 bad) (he : s.e = 0) : bad = 0 ∧ s0.e = 0 ∧ s.pos = s0.pos := by
  have h1 := h.e
  rw [he] at h1
  by_cases hb : bad = 0
  · rw [if_neg (by simpa using hb)] at h1
    exact ⟨hb, h1.symm, h.pos he⟩
  · rw [if_pos hb] at h1
    exact absurd h1.symm hb
theorem Sees.numS {s s0 : RdS} {bad : Int} (h : Sees s s0 bad) (he : s.e = 0) (m : Nat) : (numS m s).1 = (numS m s0).1 ∧ Sees (numS m s).2 (numS m s0).2 bad := by
  obtain ⟨h1, h2, h3⟩ := h.fine he
  have hB := h.B
  obtain ⟨B, q, e, r⟩ := s
  obtain ⟨B0, q0, e0, r0⟩ := s0
  simp only at he h2 h3 hB
  subst h1 he h2 h3 hB
  clear h
  by_cases hL : (lookB (B.drop q)).2.2 = 0
  · by_cases hm : m < (lookB (B.drop q)).1
    · have key : ∀ r, Go.Proofs.YtibaehlfpgipfaaGreat.numS m ⟨B, q, 0, r⟩ = (0, ⟨B, q, 9, r⟩) := fun r => by unfold Go.Proofs.YtibaehlfpgipfaaGreat.numS; rw [if_neg (by simp), if_neg (by simpa using hL), if_pos hm]
      rw [key, key]
      exact ⟨rfl, rfl, by simp, fun _ => rfl⟩
    · have key : ∀ r, Go.Proofs.YtibaehlfpgipfaaGreat.numS m ⟨B, q, 0, r⟩ = ((lookB (B.drop q)).1, ⟨B, q + (lookB (B.drop q)).2.1, 0, r⟩) := fun r => by unfold Go.Proofs.YtibaehlfpgipfaaGreat.numS; rw [if_neg (by simp), if_neg (by simpa using hL), if_neg hm]
      rw [key, key]
      exact ⟨rfl, rfl, by simp, fun _ => rfl⟩
  · have key : ∀ r, Go.Proofs.YtibaehlfpgipfaaGreat.numS m ⟨B, q, 0, r⟩ = (0, ⟨B, q, (lookB (B.drop q)).2.2, r⟩) := fun r => by unfold Go.Proofs.YtibaehlfpgipfaaGreat.numS; rw [if_neg (by simp), if_pos (by simpa using hL)]
    rw [key, key]
    exact ⟨rfl, rfl, by simp, fun _ => rfl⟩
theorem Sees.textS {s s0 : RdS} {bad : Int} (h : Sees s s0 bad) (he : s.e = 0) (m : Nat) : (textS m s).1 = (textS m s0).1 ∧ Sees (textS m s).2 (textS m s0).2 bad := by
  obtain ⟨h1, h2, h3⟩ := h.fine he
  obtain ⟨n1, n2⟩ := h.numS he m
  have hB := h.B
  subst h1
  have hE : (Go.Proofs.YtibaehlfpgipfaaGreat.numS m s).2.e = (Go.Proofs.YtibaehlfpgipfaaGreat.numS m s0).2.e := by have := n2.e; simpa using this
  by_cases hz : (Go.Proofs.YtibaehlfpgipfaaGreat.numS m s0).2.e = 0
  · have hp := n2.pos (by rw [hE, hz])
    have e1 : Go.Proofs.YtibaehlfpgipfaaGreat.textS m s = if s0.B.length - (Go.Proofs.YtibaehlfpgipfaaGreat.numS m s0).2.pos < (Go.Proofs.YtibaehlfpgipfaaGreat.numS m s0).1 then ([], { s with e := 8 }) else ((s0.B.drop (Go.Proofs.YtibaehlfpgipfaaGreat.numS m s0).2.pos).take (Go.Proofs.YtibaehlfpgipfaaGreat.numS m s0).1, { s with pos := (Go.Proofs.YtibaehlfpgipfaaGreat.numS m s0).2.pos + (Go.Proofs.YtibaehlfpgipfaaGreat.numS m s0).1 }) := by
      unfold Go.Proofs.YtibaehlfpgipfaaGreat.textS; rw [if_neg (by simpa using he), if_neg (by rw [hE]; simpa using hz), n1, hp, hB]
    have e2 : Go.Proofs.YtibaehlfpgipfaaGreat.textS m s0 = if s0.B.length - (Go.Proofs.YtibaehlfpgipfaaGreat.numS m s0).2.pos < (Go.Proofs.YtibaehlfpgipfaaGreat.numS m s0).1 then ([], { s0 with e := 8 }) else ((s0.B.drop (Go.Proofs.YtibaehlfpgipfaaGreat.numS m s0).2.pos).take (Go.Proofs.YtibaehlfpgipfaaGreat.numS m s0).1, { s0 with pos := (Go.Proofs.YtibaehlfpgipfaaGreat.numS m s0).2.pos + (Go.Proofs.YtibaehlfpgipfaaGreat.numS m s0).1 }) := by
      unfold Go.Proofs.YtibaehlfpgipfaaGreat.textS; rw [if_neg (by simpa using h2), if_neg (by simpa using hz)]
    rw [e1, e2]
    by_cases hc : s0.B.length - (Go.Proofs.YtibaehlfpgipfaaGreat.numS m s0).2.pos < (Go.Proofs.YtibaehlfpgipfaaGreat.numS m s0).1
    · rw [if_pos hc, if_pos hc]
      exact ⟨rfl, hB, by simp, fun _ => h3⟩
    · rw [if_neg hc, if_neg hc]
      exact ⟨rfl, hB, by simp [he, h2], fun _ => rfl⟩
  · have e1 : Go.Proofs.YtibaehlfpgipfaaGreat.textS m s = ([], (Go.Proofs.YtibaehlfpgipfaaGreat.numS m s).2) := by
      unfold Go.Proofs.YtibaehlfpgipfaaGreat.textS; rw [if_neg (by simpa using he), if_pos (by rw [hE]; exact hz)]
    have e2 : Go.Proofs.YtibaehlfpgipfaaGreat.textS m s0 = ([], (Go.Proofs.YtibaehlfpgipfaaGreat.numS m s0).2) := by
      unfold Go.Proofs.YtibaehlfpgipfaaGreat.textS; rw [if_neg (by simpa using h2), if_pos hz]
    rw [e1, e2]
    exact ⟨rfl, n2⟩
theorem textS_rest (m : Nat) (s : RdS) : (Go.Proofs.YtibaehlfpgipfaaGreat.textS m s).2.rest = s.rest := by
  unfold Go.Proofs.YtibaehlfpgipfaaGreat.textS; split
  · rfl
  · split
    · exact numS_rest m s
    · split <;> rfl
theorem numS_stuck {s : RdS} (he : s.e ≠ 0) (m : Nat) : numS m s = (0, s) := by unfold numS; rw [if_pos he]
theorem textS_stuck {s : RdS} (he : s.e ≠ 0) (m : Nat) : textS m s = ([], s) := by unfold textS; rw [if_pos he]
theorem zag_zero : zag 0 = 0 := rfl
section
variable (x : Nat) (p : Nat → Prop) (s : RdS) (w : World)
end
def NewBut (n c : Nat) (w' : World) : Nat → Prop := fun b => n ≤ b ∧ b < w'.heap.size ∧ b ≠ c
end Go.Proofs.YtibaehlfpgipfaaGreat
