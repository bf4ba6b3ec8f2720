/- THE REFERENCE's READER: its methods read what the program's do. -/
import Derived.Test.YtibaehlfpgipfaaGreatQReadLaws
namespace Go.Proofs.YtibaehlfpgipfaaGreat
open Go.RowKit

/-- The reference's 'Num': whatever the fault, the same state. -/
theorem numS_ref (s : RdS) : numS maxU s = if s.e ≠ 0 then (0, s) else ((lookB (s.B.drop s.pos)).1, { s with pos := s.pos + (lookB (s.B.drop s.pos)).2.1, e := (lookB (s.B.drop s.pos)).2.2 }) := by
  unfold numS
  by_cases h : s.e = 0
  · have h' : ¬ s.e ≠ 0 := by simpa using h
    rw [if_neg h', if_neg h']
    rcases lookB_fine (s.B.drop s.pos) with ⟨a, b, -, -, -⟩ | ⟨a, b, c⟩
    · rw [if_neg (show ¬ (lookB (s.B.drop s.pos)).2.2 ≠ 0 by simpa using a), if_neg (show ¬ maxU < (lookB (s.B.drop s.pos)).1 by unfold maxU; omega), a, ← h]
    · rw [if_pos (show (lookB (s.B.drop s.pos)).2.2 ≠ 0 by omega), b, c]; rfl
  · rw [if_pos h, if_pos h]
set_option maxRecDepth 100000 in
set_option maxHeartbeats 1000000 in
theorem numS_rest (m : Nat) (s : RdS) : (numS m s).2.rest = s.rest := by
  unfold numS; split
  · rfl
  · split
    · rfl
    · split <;> rfl

/-- The reference's 'small' and the program's 'num' up to most come to one. -/
theorem numS_most (m : Nat) (s : RdS) : numS m s = if (numS maxU s).2.e = 0 ∧ m < (numS maxU s).1 then (0, { s with e := 9 }) else numS maxU s := by
  rw [numS_ref]
  unfold numS
  by_cases h : s.e = 0
  · have h' : ¬ s.e ≠ 0 := by simpa using h
    simp only [if_neg h']
    rcases lookB_fine (s.B.drop s.pos) with ⟨a, b, -, -, -⟩ | ⟨a, b, c⟩
    · rw [if_neg (show ¬ (lookB (s.B.drop s.pos)).2.2 ≠ 0 by simpa using a)]
      by_cases hm : m < (lookB (s.B.drop s.pos)).1
      · rw [if_pos hm, if_pos ⟨a, hm⟩]
      · rw [if_neg hm, if_neg (fun x => hm x.2), a, ← h]
    · rw [if_pos (show (lookB (s.B.drop s.pos)).2.2 ≠ 0 by omega), if_neg (fun x => by have := x.1; omega), b, c]; rfl
  · simp only [if_pos h]
    rw [if_neg (fun x => h x.1)]
theorem numS_bad (m : Nat) (s : RdS) (h : (numS m s).2.e ≠ 0) : (numS m s).1 = 0 := by
  unfold numS at *
  split
  · rfl
  · split
    · rfl
    · split
      · rfl
      · rename_i h1 h2 h3; rw [if_neg h1, if_neg h2, if_neg h3] at h; exact absurd h h1

/-! ### quiet contracts: draws alone -/
theorem Left_rq (r : Nat) (p : Nat → Prop) (s : RdS) (w : World) (h : IsRd w 151 r p s) :
    Calls Tryz.prog 88 #[.pointer (some ⟨r, 0, none⟩)] w fun e w' => e = .returned (.int .i64 ((s.B.length - s.pos : Nat) : Int)) ∧ ∃ m, w' = w.drewN m := by
  obtain ⟨a, cap, -, -, hc, hm, c0, c1, c2, hr, hf⟩ := h.cells
  have hp := h.place
  clear hf
  go_enter Tryz.func88, Tryz.ntmps88
  go_wp2
  go_quiet (fail)
  go_wp2
  go_ret
  exact ⟨ret_int (by omega), nq, rfl⟩
theorem End_rq (r : Nat) (p : Nat → Prop) (s : RdS) (w : World) (h : IsRd w 151 r p s) :
    Calls Tryz.prog 50 #[.pointer (some ⟨r, 0, none⟩)] w fun e w' => e = .returned (.int .i64 (endS s)) ∧ ∃ m, w' = w.drewN m := by
  have hp := h.place
  go_enter Tryz.func50, Tryz.ntmps50
  go_wp2_with fail
  go_fit (Err_rq r p s w h)
  rintro e w1 ⟨rfl, rfl⟩
  rcases test_eq s.e 0 with ⟨t, he⟩ | ⟨t, he⟩
  · have t' : (s.e != 0) = false := by simpa using t
    go_wp2_with fail
    go_fit (Left_rq r p s w h)
    rintro e w2 ⟨rfl, hw⟩
    by_cases hlt : s.pos < s.B.length
    · have hl : (0 : Int) < ((s.B.length - s.pos : Nat) : Int) := by omega
      go_wp2_with fail
      go_ret
      exact ⟨ret_int (by unfold endS; rw [if_neg (by simpa using he.out), if_pos hlt]), hw⟩
    · have hl : ¬ (0 : Int) < ((s.B.length - s.pos : Nat) : Int) := by omega
      go_wp2_with fail
      go_ret
      exact ⟨ret_int (by unfold endS; rw [if_neg (by simpa using he.out), if_neg hlt]), hw⟩
  · have t' : (s.e != 0) = true := by simpa using he
    have HE := Lib.hid he
    clear he
    go_wp2_with fail
    go_ret
    exact ⟨ret_int (by unfold endS; rw [if_pos HE.out]), 0, rfl⟩
theorem IsRd.tight {w : World} {T r : Nat} {p : Nat → Prop} {s : RdS} (h : IsRd w T r p s) : IsRd w T r (fun b => p b ∧ b < w.heap.size) s := by
  obtain ⟨⟨a, cap, h1, h2, h3⟩, h4, h5⟩ := h
  refine ⟨⟨a, cap, h1, fun hx => ?_, h3⟩, fun x => h4 x.1, h5⟩
  obtain ⟨b, off, ha, hp, hb, hc⟩ := h2 hx
  exact ⟨b, off, ha, ⟨hp, hb⟩, hb, hc⟩
theorem IsRd.mono {w : World} {T r : Nat} {p q : Nat → Prop} {s : RdS} (h : IsRd w T r p s) (hq : ∀ b, p b → q b) (hr : ¬ q r) : IsRd w T r q s := by
  obtain ⟨⟨a, cap, h1, h2, h3⟩, h4, h5⟩ := h
  exact ⟨⟨a, cap, h1, h2.mono hq, h3⟩, hr, h5⟩
end Go.Proofs.YtibaehlfpgipfaaGreat
