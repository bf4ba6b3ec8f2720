/- ROUTE: the plain words: the order of bytes, and what each function computes. Printed by mac.py. -/
import Derived.Test.YtibaehlfpgipfaaOpens
import Derived.Test.YtibaehlfpgipfaaCmp
namespace Go.Proofs.Ytibaehlfpgipfaa
open Go.RowKit

/-! ### the order -/
abbrev ltB : List UInt8 → List UInt8 → Bool := Op.bytesLess
theorem ltB_nil (a : List UInt8) : ltB a [] = false := by cases a <;> rfl
theorem nil_ltB {a : List UInt8} (h : a ≠ []) : ltB [] a = true := by cases a with
  | nil => exact absurd rfl h
  | cons _ _ => rfl
theorem ltB_cons (a b : UInt8) (x y : List UInt8) : ltB (a :: x) (b :: y) = (decide (a < b) || (a == b && ltB x y)) := rfl
theorem ltB_irrefl : ∀ a : List UInt8, ltB a a = false
  | [] => rfl
  | a :: x => by
    have h : ¬ a < a := UInt8.lt_irrefl a
    rw [ltB_cons, ltB_irrefl x]; simp [h]
theorem ltB_total : ∀ {a b : List UInt8}, ltB a b = false → ltB b a = false → a = b
  | [], [], _, _ => rfl
  | [], _ :: _, h, _ => by cases h
  | _ :: _, [], _, h => by cases h
  | a :: x, b :: y, h, k => by
    rw [ltB_cons] at h k
    simp only [Bool.or_eq_false_iff, decide_eq_false_iff_not, Bool.and_eq_false_iff, beq_eq_false_iff_ne] at h k
    obtain rfl : a = b := UInt8.le_antisymm (UInt8.not_lt.1 k.1) (UInt8.not_lt.1 h.1)
    have h2 : ltB x y = false := h.2.resolve_left (fun e => e rfl)
    have k2 : ltB y x = false := k.2.resolve_left (fun e => e rfl)
    rw [ltB_total h2 k2]
theorem ltB_trans : ∀ {a b c : List UInt8}, ltB a b = true → ltB b c = true → ltB a c = true
  | _, [], _, h, _ => by rw [ltB_nil] at h; cases h
  | _, _ :: _, [], _, h => by rw [ltB_nil] at h; cases h
  | [], _ :: _, _ :: _, _, _ => rfl
  | a :: x, b :: y, c :: z, h, k => by
    rw [ltB_cons] at h k ⊢
    simp only [Bool.or_eq_true, decide_eq_true_eq, Bool.and_eq_true, beq_iff_eq] at h k ⊢
    rcases h with h | ⟨rfl, h⟩
    · rcases k with k | ⟨rfl, _⟩
      · exact .inl (UInt8.lt_trans h k)
      · exact .inl h
    · rcases k with k | ⟨rfl, k⟩
      · exact .inl k
      · exact .inr ⟨rfl, ltB_trans h k⟩
theorem ltB_asymm {a b : List UInt8} (h : ltB a b = true) : ltB b a = false := by
  cases k : ltB b a with
  | false => rfl
  | true => have := ltB_trans h k; rw [ltB_irrefl] at this; cases this
theorem ltB_ge_lt {a b c : List UInt8} (h : ltB b a = false) (k : ltB b c = true) : ltB a c = true := by
  cases e : ltB a b with
  | true => exact ltB_trans e k
  | false => rw [ltB_total e h]; exact k
theorem ltB_lt_ge {a b c : List UInt8} (h : ltB a b = true) (k : ltB c b = false) : ltB a c = true := by
  cases e : ltB b c with
  | true => exact ltB_trans h e
  | false => rw [← ltB_total e k]; exact h
theorem ltB_ge_trans {a b c : List UInt8} (h : ltB b a = false) (k : ltB c b = false) : ltB c a = false := by
  cases e : ltB c a with
  | false => rfl
  | true => rw [ltB_lt_ge e h] at k; cases k
theorem cmp_lt : ∀ a b : List UInt8, decide (Lib.compareBytes a b < 0) = ltB a b
  | [], [] => rfl
  | [], _ :: _ => rfl
  | _ :: _, [] => rfl
  | a :: x, b :: y => by
    rw [ltB_cons, Lib.compareBytes]
    by_cases h : a < b
    · simp [h]
    · by_cases k : b < a
      · have e : a ≠ b := fun e => by subst e; exact h k
        simp [h, k, e]
      · obtain rfl : a = b := UInt8.le_antisymm (UInt8.not_lt.1 k) (UInt8.not_lt.1 h)
        simp [h, cmp_lt x y]
theorem cmp_gt : ∀ a b : List UInt8, decide (0 < Lib.compareBytes a b) = ltB b a
  | [], [] => rfl
  | [], _ :: _ => rfl
  | _ :: _, [] => rfl
  | a :: x, b :: y => by
    rw [ltB_cons, Lib.compareBytes]
    by_cases h : a < b
    · have k : ¬ b < a := fun k => UInt8.lt_irrefl a (UInt8.lt_trans h k)
      have e : b ≠ a := fun e => by subst e; exact UInt8.lt_irrefl _ h
      simp [h, k, e]
    · by_cases k : b < a
      · simp [h, k]
      · obtain rfl : a = b := UInt8.le_antisymm (UInt8.not_lt.1 k) (UInt8.not_lt.1 h)
        simp [h, cmp_gt x y]
theorem cmp_ge (a b : List UInt8) : decide (0 ≤ Lib.compareBytes a b) = !ltB a b := by rw [← cmp_lt]; by_cases h : Lib.compareBytes a b < 0 <;> simp [h] <;> omega
theorem cmp_le (a b : List UInt8) : decide (Lib.compareBytes a b ≤ 0) = !ltB b a := by rw [← cmp_gt]; by_cases h : 0 < Lib.compareBytes a b <;> simp [h] <;> omega

/-! ### the program's words -/
/-- Where the first one is. -/
def rfindB {α : Type} (P : α → Bool) (l : List α) : Int := match l.findIdx? P with
  | some i => (i : Int)
  | none => -1
theorem rfindB_at {α : Type} {P : α → Bool} {l : List α} (k : Nat) (h : k < l.length) (hn : ∀ j, j < k → ∀ x, l[j]? = some x → P x = false) (hp : P l[k] = true) : rfindB P l = (k : Int) := by
  have : l.findIdx? P = some k := by
    rw [List.findIdx?_eq_some_iff_getElem]
    exact ⟨h, hp, fun j hj => by simp [hn j hj _ (List.getElem?_eq_getElem (by omega))]⟩
  unfold rfindB; rw [this]
theorem rfindB_none {α : Type} {P : α → Bool} {l : List α} (hn : ∀ j, j < l.length → ∀ x, l[j]? = some x → P x = false) : rfindB P l = -1 := by
  have : l.findIdx? P = none := by
    rw [List.findIdx?_eq_none_iff]
    intro x hx
    obtain ⟨j, hj, rfl⟩ := List.mem_iff_getElem.1 hx
    exact hn j hj _ (List.getElem?_eq_getElem hj)
  unfold rfindB; rw [this]
def rNoneYet {α : Type} (P : α → Bool) (l : List α) (k : Nat) : Prop := ∀ j, j < k → ∀ x, l[j]? = some x → P x = false
theorem rNoneYet.succ {α : Type} {P : α → Bool} {l : List α} {k : Nat} (h : rNoneYet P l k) (hk : k < l.length) (hp : P l[k] = false) : rNoneYet P l (k + 1) := fun j hj x hx => by
  by_cases e : j = k
  · subst e; rw [List.getElem?_eq_getElem hk] at hx; cases hx; exact hp
  · exact h j (by omega) x hx
abbrev isG (g : Int) : GOwner → Bool := fun o => decide (o.fGroup = g)
def placeO (g : Int) (l : List GOwner) : Option Nat := l.findIdx? (isG g)
def placeI (g : Int) (l : List GOwner) : Int := rfindB (isG g) l
/-- None, and then it is -1; or the first one's place. -/
theorem place_cases (g : Int) (l : List GOwner) : (placeO g l = none ∧ placeI g l = -1 ∧ ∀ x ∈ l, x.fGroup ≠ g) ∨ ∃ (k : Nat) (h : k < l.length), placeO g l = some k ∧ placeI g l = (k : Int) ∧ l[k].fGroup = g ∧ ∀ j (hj : j < k), (l[j]'(by omega)).fGroup ≠ g := by
  unfold placeI rfindB placeO
  cases hf : l.findIdx? (isG g) with
  | none => exact .inl ⟨rfl, rfl, fun x hx => by
      have := List.findIdx?_eq_none_iff.1 hf x hx; simpa using this⟩
  | some k =>
    obtain ⟨h, h1, h2⟩ := List.findIdx?_eq_some_iff_getElem.1 hf
    exact .inr ⟨k, h, rfl, rfl, by simpa using h1, fun j hj => by have := h2 j hj; simpa using this⟩
def fromAt (l : List GOwner) (k : Nat) : List UInt8 := match l[k]? with
  | some o => o.fFrom
  | none => [121]
theorem fromAt_lt {l : List GOwner} {k : Nat} (h : k < l.length) : fromAt l k = l[k].fFrom := by unfold fromAt; rw [List.getElem?_eq_getElem h]
theorem fromAt_ge {l : List GOwner} {k : Nat} (h : l.length ≤ k) : fromAt l k = [121] := by unfold fromAt; rw [List.getElem?_eq_none h]
def spanF (l : List GOwner) (k : Nat) : GSpan := ⟨fromAt l k, fromAt l (k + 1)⟩
def ownedF (l : List GOwner) (g : Int) : GSpan := match placeO g l with
  | some k => spanF l k
  | none => ⟨[], []⟩
def partF (a b : GSpan) : GSpan × Bool :=
  let f := if ltB a.fFrom b.fFrom then b.fFrom else a.fFrom
  let t := if a.fTo = [] ∨ (b.fTo ≠ [] ∧ ltB b.fTo a.fTo = true) then b.fTo else a.fTo
  if t ≠ [] ∧ ltB f t = false then (⟨[], []⟩, false) else (⟨f, t⟩, true)
def allF (b : UInt8) : GSpan := ⟨[b], [b + 1]⟩
def PartF (r : GRoutes) (g : Int) (s : GSpan) : GSpan × Bool :=
  if 1 ≤ g ∧ g ≤ r.fBase then partF s (allF 114) else if (ownedF r.fSpans g).fTo = [] then (⟨[], []⟩, false) else partF s (ownedF r.fSpans g)
def hashF (l : List UInt8) : Int := l.foldl (fun h c => (31 * h + (c.toNat : Int)) % 4294967296) 17
def baseF (b : Int) (l : List UInt8) : Int := hashF l % b + 1
def entryF (key : List UInt8) : List GOwner → Int
  | [] => 0
  | o :: l => l.foldl (fun g o => if ltB key o.fFrom then g else o.fGroup) o.fGroup
def groupF (r : GRoutes) (key : List UInt8) : Int := match key with
  | [] => 0
  | c :: _ => if c = 114 then baseF r.fBase key else if c = 120 then entryF key r.fSpans else 0
end Go.Proofs.Ytibaehlfpgipfaa
