/- PLAIN LAWS of numbers as bytes: what is written is read; one form; a beginning is too short. -/
import Derived.Test.YtibaehlfpgipfaaGreatQRead3
namespace Go.Proofs.YtibaehlfpgipfaaGreat
open Go.RowKit

theorem ofNat_toNat (v : Nat) (h : v < 256) : (UInt8.ofNat v).toNat = v := by simp; omega
theorem pow_next (i : Nat) : 2 ^ (7 * (i + 1)) = 2 ^ (7 * i) * 128 := by rw [Nat.mul_succ, Nat.pow_add]
theorem split128 (v a p : Nat) : a + v % 128 * p + v / 128 * (p * 128) = a + v * p := by
  have h : v = v % 128 + 128 * (v / 128) := (Nat.mod_add_div v 128).symm
  have e : v * p = v % 128 * p + v / 128 * (p * 128) := by
    conv => lhs; rw [h]
    rw [Nat.add_mul, Nat.mul_comm p 128, ← Nat.mul_assoc, Nat.mul_comm 128 (v / 128)]
  omega
theorem Fits.low {i v : Nat} (h : Fits i v) (h9 : i = 9) : v ≤ 1 := by subst h9; unfold Fits at h; simp at h; omega
theorem Fits.div {i v : Nat} (h : Fits i v) (hi : i < 9) : Fits (i + 1) (v / 128) := by
  unfold Fits at *
  have e : 64 - 7 * i = (64 - 7 * (i + 1)) + 7 := by omega
  rw [e, Nat.pow_add] at h
  exact Nat.div_lt_of_lt_mul (by rw [Nat.mul_comm]; simpa using h)
theorem look_num : ∀ (f i a v : Nat) (rest : List UInt8), f + 1 + i = 10 → Fits i v → (0 < i → 0 < v) → lookF (f + 1) i a (numF f v ++ rest) = (a + v * 2 ^ (7 * i), i + (numF f v).length, 0)
  | 0, i, a, v, rest, hf, hv, h0 => by
    have h1 := hv.low (by omega)
    have e := ofNat_toNat v (by omega)
    simp only [numF, List.cons_append, List.nil_append, lookF, e]
    rw [if_neg (by omega), if_pos (by omega), if_neg (by omega), Nat.mod_eq_of_lt (by omega)]
    rfl
  | f + 1, i, a, v, rest, hf, hv, h0 => by
    by_cases h : v < 128
    · have e := ofNat_toNat v (by omega)
      rw [numF_small _ _ h]
      simp only [List.cons_append, List.nil_append, lookF, e]
      rw [if_neg (by omega), if_pos h, if_neg (by omega), Nat.mod_eq_of_lt h]
      rfl
    · have e := ofNat_toNat (v % 128 + 128) (by omega)
      rw [numF_big _ _ (by omega), List.cons_append]
      conv => lhs; unfold lookF
      rw [e, if_neg (by omega), if_neg (by omega), show (v % 128 + 128) % 128 = v % 128 by omega]
      rw [look_num f (i + 1) _ (v / 128) rest (by omega) (hv.div (by omega)) (by omega), pow_next, split128]
      simp only [List.length_cons]
      rw [show i + 1 + (numF f (v / 128)).length = i + ((numF f (v / 128)).length + 1) by omega]
/-- What is written is read. -/
theorem lookB_num (v : Nat) (rest : List UInt8) (hv : v < 2 ^ 64) : lookB (numB v ++ rest) = (v, (numB v).length, 0) := by
  have := look_num 9 0 0 v rest rfl (by simpa [Fits] using hv) (fun h => absurd h (by decide))
  simpa [lookB, numB] using this
theorem look_cut : ∀ (f i a v : Nat), f + 1 + i = 10 → lookF (f + 1) i a ((numF f v).dropLast) = (0, 0, 8)
  | 0, i, a, v, hf => by simp [numF, lookF]
  | f + 1, i, a, v, hf => by
    by_cases h : v < 128
    · rw [numF_small _ _ h]; rfl
    · have e := ofNat_toNat (v % 128 + 128) (by omega)
      have hne : numF f (v / 128) ≠ [] := by have := (numF_len f (v / 128)).2; intro h; rw [h] at this; simp at this
      rw [numF_big _ _ (by omega), List.dropLast_cons_of_ne_nil hne]
      conv => lhs; unfold lookF
      rw [e, if_neg (by omega), if_neg (by omega)]
      exact look_cut f (i + 1) _ (v / 128) (by omega)
/-- A beginning of a number is too short. -/
theorem lookB_cut (v : Nat) : lookB ((numB v).dropLast) = (0, 0, 8) := look_cut 9 0 0 v rfl
theorem look_form : ∀ (f i a : Nat) (l : List UInt8) (x n : Nat), f + i = 10 → lookF f i a l = (x, n, 0) → ∃ v, x = a + v * 2 ^ (7 * i) ∧ i < n ∧ n ≤ i + l.length ∧ numF (f - 1) v = l.take (n - i) ∧ (0 < i → 0 < v)
  | 0, i, a, l, x, n, _, h => by simp [lookF] at h
  | f + 1, i, a, [], x, n, _, h => by simp [lookF] at h
  | f + 1, i, a, c :: l, x, n, hf, h => by
    unfold lookF at h
    by_cases h1 : i = 9 ∧ 1 < c.toNat
    · rw [if_pos h1] at h; simp at h
    rw [if_neg h1] at h
    by_cases h2 : c.toNat < 128
    · rw [if_pos h2] at h
      by_cases h3 : c.toNat = 0 ∧ 0 < i
      · rw [if_pos h3] at h; simp at h
      · rw [if_neg h3] at h
        simp only [Prod.mk.injEq, and_true] at h
        obtain ⟨rfl, rfl⟩ := h
        refine ⟨c.toNat, by rw [Nat.mod_eq_of_lt h2], by omega, by simp, ?_, by omega⟩
        rw [numF_small _ _ h2, show i + 1 - i = 1 by omega]
        simp
    · rw [if_neg h2] at h
      obtain ⟨v, h4, h5, h6, h7, h8⟩ := look_form f (i + 1) _ l x n (by omega) h
      have hf0 : f ≠ 0 := by rintro rfl; simp [lookF] at h
      obtain ⟨g, rfl⟩ : ∃ g, f = g + 1 := ⟨f - 1, by omega⟩
      have hv := h8 (by omega)
      have hc := c.toNat_lt
      have e : (c.toNat % 128 + 128 * v) % 128 + 128 = c.toNat := by omega
      refine ⟨c.toNat % 128 + 128 * v, ?_, by omega, by simp only [List.length_cons]; omega, ?_, by omega⟩
      · rw [h4, pow_next, Nat.add_mul, Nat.mul_comm (2 ^ (7 * i)) 128, ← Nat.mul_assoc, Nat.mul_comm v 128]; omega
      · simp only [Nat.add_sub_cancel] at h7 ⊢
        rw [numF_big _ _ (by omega), e, show (c.toNat % 128 + 128 * v) / 128 = v by omega, h7, show n - i = (n - (i + 1)) + 1 by omega]
        simp
/-- A number that is read, written again, is the same bytes. -/
theorem lookB_form (l : List UInt8) (h : (lookB l).2.2 = 0) : numB (lookB l).1 = l.take (lookB l).2.1 := by
  obtain ⟨v, h1, h2, h3, h4, -⟩ := look_form 10 0 0 l (lookB l).1 (lookB l).2.1 rfl (by rw [← h]; rfl)
  have e : (lookB l).1 = v := by rw [h1]; simp
  rw [e]; exact h4
end Go.Proofs.YtibaehlfpgipfaaGreat
