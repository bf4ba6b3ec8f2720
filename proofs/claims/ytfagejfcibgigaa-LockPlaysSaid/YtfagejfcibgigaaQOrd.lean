/- THE ORDER OF BYTES (Rt0's, for the other seats). Printed by mac.py. -/
import Derived.Test.YtfagejfcibgigaaQCmp
namespace Go.Proofs.Ytfagejfcibgigaa
open Go.RowKit

/-! ### the order -/
abbrev ltB : List UInt8 → List UInt8 → Bool := Op.bytesLess
theorem ltB_nil (a : List UInt8) : ltB a [] = false := by cases a <;> rfl
theorem nil_ltB {a : List UInt8} (h : a ≠ []) : ltB [] a = true := by cases a with
  | nil => exact absurd rfl h
  | cons _ _ => rfl
theorem ltB_cons (a b : UInt8) (x y : List UInt8) : ltB (a :: x) (b :: y) = (decide (a < b) || (a == b && ltB x y)) := rfl
theorem ltB_irrefl : ∀ a : List UInt8, ltB a a = false
  | [] => rfl
  | a :: x => by
    have h : ¬ a < a := UInt8.lt_irrefl a
    rw [ltB_cons, ltB_irrefl x]; simp [h]
theorem ltB_total : ∀ {a b : List UInt8}, ltB a b = false → ltB b a = false → a = b
  | [], [], _, _ => rfl
  | [], _ :: _, h, _ => by cases h
  | _ :: _, [], _, h => by cases h
  | a :: x, b :: y, h, k => by
    rw [ltB_cons] at h k
    simp only [Bool.or_eq_false_iff, decide_eq_false_iff_not, Bool.and_eq_false_iff, beq_eq_false_iff_ne] at h k
    obtain rfl : a = b := UInt8.le_antisymm (UInt8.not_lt.1 k.1) (UInt8.not_lt.1 h.1)
    have h2 : ltB x y = false := h.2.resolve_left (fun e => e rfl)
    have k2 : ltB y x = false := k.2.resolve_left (fun e => e rfl)
    rw [ltB_total h2 k2]
theorem ltB_trans : ∀ {a b c : List UInt8}, ltB a b = true → ltB b c = true → ltB a c = true
  | _, [], _, h, _ => by rw [ltB_nil] at h; cases h
  | _, _ :: _, [], _, h => by rw [ltB_nil] at h; cases h
  | [], _ :: _, _ :: _, _, _ => rfl
  | a :: x, b :: y, c :: z, h, k => by
    rw [ltB_cons] at h k ⊢
    simp only [Bool.or_eq_true, decide_eq_true_eq, Bool.and_eq_true, beq_iff_eq] at h k ⊢
    rcases h with h | ⟨rfl, h⟩
    · rcases k with k | ⟨rfl, _⟩
      · exact .inl (UInt8.lt_trans h k)
      · exact .inl h
    · rcases k with k | ⟨rfl, k⟩
      · exact .inl k
      · exact .inr ⟨rfl, ltB_trans h k⟩
theorem ltB_asymm {a b : List UInt8} (h : ltB a b = true) : ltB b a = false := by
  cases k : ltB b a with
  | false => rfl
  | true => have := ltB_trans h k; rw [ltB_irrefl] at this; cases this
theorem ltB_ge_lt {a b c : List UInt8} (h : ltB b a = false) (k : ltB b c = true) : ltB a c = true := by
  cases e : ltB a b with
  | true => exact ltB_trans e k
  | false => rw [ltB_total e h]; exact k
theorem ltB_lt_ge {a b c : List UInt8} (h : ltB a b = true) (k : ltB c b = false) : ltB a c = true := by
  cases e : ltB b c with
  | true => exact ltB_trans h e
  | false => rw [← ltB_total e k]; exact h
theorem ltB_ge_trans {a b c : List UInt8} (h : ltB b a = false) (k : ltB c b = false) : ltB c a = false := by
  cases e : ltB c a with
  | false => rfl
  | true => rw [ltB_lt_ge e h] at k; cases k
theorem cmp_lt : ∀ a b : List UInt8, decide (Lib.compareBytes a b < 0) = ltB a b
  | [], [] => rfl
  | [], _ :: _ => rfl
  | _ :: _, [] => rfl
  | a :: x, b :: y => by
    rw [ltB_cons, Lib.compareBytes]
    by_cases h : a < b
    · simp [h]
    · by_cases k : b < a
      · have e : a ≠ b := fun e => by subst e; exact h k
        simp [h, k, e]
      · obtain rfl : a = b := UInt8.le_antisymm (UInt8.not_lt.1 k) (UInt8.not_lt.1 h)
        simp [h, cmp_lt x y]
theorem cmp_gt : ∀ a b : List UInt8, decide (0 < Lib.compareBytes a b) = ltB b a
  | [], [] => rfl
  | [], _ :: _ => rfl
  | _ :: _, [] => rfl
  | a :: x, b :: y => by
    rw [ltB_cons, Lib.compareBytes]
    by_cases h : a < b
    · have k : ¬ b < a := fun k => UInt8.lt_irrefl a (UInt8.lt_trans h k)
      have e : b ≠ a := fun e => by subst e; exact UInt8.lt_irrefl _ h
      simp [h, k, e]
    · by_cases k : b < a
      · simp [h, k]
      · obtain rfl : a = b := UInt8.le_antisymm (UInt8.not_lt.1 k) (UInt8.not_lt.1 h)
        simp [h, cmp_gt x y]
theorem cmp_ge (a b : List UInt8) : decide (0 ≤ Lib.compareBytes a b) = !ltB a b := by rw [← cmp_lt]; by_cases h : Lib.compareBytes a b < 0 <;> simp [h] <;> omega
theorem cmp_le (a b : List UInt8) : decide (Lib.compareBytes a b ≤ 0) = !ltB b a := by rw [← cmp_gt]; by_cases h : 0 < Lib.compareBytes a b <;> simp [h] <;> omega


/-- Where a key is, or would be. -/
def Lower (ks : List (List UInt8)) (key : List UInt8) (i : Nat) : Prop := i ≤ ks.length ∧ (∀ q (h : q < ks.length), q < i → ltB ks[q] key = true) ∧ ∀ q (h : q < ks.length), i ≤ q → ltB ks[q] key = false
def Rising (ks : List (List UInt8)) : Prop := ks.Pairwise (fun a b => ltB a b = true)
theorem Rising.lt {ks : List (List UInt8)} (h : Rising ks) {a b : Nat} (hb : b < ks.length) (hab : a < b) : ltB (ks[a]'(by omega)) ks[b] = true := List.pairwise_iff_getElem.1 h a b (by omega) hb hab
def foundB (ks : List (List UInt8)) (key : List UInt8) (i : Nat) : Bool := match ks[i]? with
  | some k => decide (k = key)
  | none => false
theorem cmp_eq (a b : List UInt8) : (Lib.compareBytes a b == 0) = decide (a = b) := by
  have h1 := cmp_lt a b
  have h2 := cmp_gt a b
  by_cases e : a = b
  · subst e
    rw [ltB_irrefl] at h1 h2
    simp only [decide_eq_false_iff_not] at h1 h2
    rw [decide_eq_true rfl]
    simp; omega
  · rw [decide_eq_false e]
    cases h3 : ltB a b with
    | true =>
      rw [h3] at h1
      have := of_decide_eq_true h1
      simp; omega
    | false =>
      cases h4 : ltB b a with
      | true =>
        rw [h4] at h2
        have := of_decide_eq_true h2
        simp; omega
      | false => exact absurd (ltB_total h3 h4) e
end Go.Proofs.Ytfagejfcibgigaa
