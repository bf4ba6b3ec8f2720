/- LOCK: the law LockOrder: plain. Printed by mac.py. -/
import Derived.Test.YtfagejfcibgigaaLkL
namespace Go.Proofs.Ytfagejfcibgigaa
open Go.RowKit

namespace lockOrder
theorem turn_eq {n i t : Nat} (hi : i < n) (ht : t < n) : (i + t) % n = if i + t < n then i + t else i + t - n := by
  split
  · exact Nat.mod_eq_of_lt (by omega)
  · rw [Nat.mod_eq_sub_mod (by omega)]; exact Nat.mod_eq_of_lt (by omega)
theorem turn_inj {n i j t : Nat} (hi : i < n) (hj : j < n) (ht : t < n) (h : (i + t) % n = (j + t) % n) : i = j := by
  rw [turn_eq hi ht, turn_eq hj ht] at h
  split at h <;> split at h <;> omega
theorem turn_all {n q t : Nat} (hq : q < n) (ht : t < n) : ∃ j, j < n ∧ (j + t) % n = q := by
  rcases Nat.lt_or_ge q t with h | h
  · exact ⟨q + n - t, by omega, by rw [turn_eq (by omega) ht]; split <;> omega⟩
  · exact ⟨q - t, by omega, by rw [turn_eq (by omega) ht]; split <;> omega⟩
/-- What may be there. -/
theorem may_iff {T : List GHeld} {x : GHeld} : mayF T x = 0 ↔ (x.fTxn ≠ 0 ∧ (∀ h ∈ T, h.fTxn ≠ x.fTxn) ∧ ∀ h ∈ T, disB x h = false ∧ disB h x = false) := by
  unfold mayF
  constructor
  · intro e
    by_cases h0 : x.fTxn = 0
    · rw [if_pos h0] at e; cases e
    · rw [if_neg h0] at e
      by_cases h1 : (findT T x.fTxn).isSome = true
      · rw [if_pos h1] at e; cases e
      · rw [if_neg h1] at e
        by_cases h2 : disT T x = true
        · rw [if_pos h2] at e; cases e
        · have hn : findT T x.fTxn = none := by simpa using h1
          refine ⟨h0, fun h hm => ?_, fun h hm => ?_⟩
          · have := List.find?_eq_none.1 hn h hm
            simpa using this
          · have h3 := List.any_eq_false.1 (by simpa using h2 : disT T x = false) h hm
            simp only [Bool.or_eq_true, not_or, Bool.not_eq_true] at h3
            exact h3
  · rintro ⟨h0, h1, h2⟩
    have hn : findT T x.fTxn = none := List.find?_eq_none.2 (fun h hm => by simpa using h1 h hm)
    have hd : disT T x = false := List.any_eq_false.2 (fun h hm => by rw [(h2 h hm).1, (h2 h hm).2]; simp)
    rw [if_neg h0, hn, if_neg (by simp), hd, if_neg (by simp)]
theorem mem_put {T : List GHeld} {x h : GHeld} (hx : ∀ h ∈ T, h.fTxn ≠ x.fTxn) : h ∈ putT T x ↔ (h ∈ T ∨ h = x) := by
  unfold putT
  rw [List.mem_append, List.mem_cons, List.mem_filter, List.mem_filter]
  simp only [decide_eq_true_eq]
  constructor
  · rintro (⟨h1, -⟩ | h1 | ⟨h1, -⟩)
    · exact .inl h1
    · exact .inr h1
    · exact .inl h1
  · rintro (h1 | h1)
    · rcases Int.lt_or_gt_of_ne (hx h h1) with q | q
      · exact .inl ⟨h1, q⟩
      · exact .inr (.inr ⟨h1, q⟩)
    · exact .inr (.inl h1)
theorem put_len (T : List GHeld) (x : GHeld) : (putT T x).length ≤ T.length + 1 := by
  unfold putT
  rw [List.length_append, List.length_cons]
  have : ∀ T : List GHeld, (T.filter (fun y => decide (y.fTxn < x.fTxn))).length + (T.filter (fun y => decide (x.fTxn < y.fTxn))).length ≤ T.length := by
    intro T
    induction T with
    | nil => simp
    | cons a l ih =>
      by_cases h1 : a.fTxn < x.fTxn
      · rw [List.filter_cons_of_pos (by simpa using h1), List.filter_cons_of_neg (by simp; omega)]
        simp only [List.length_cons]; omega
      · rw [List.filter_cons_of_neg (by simpa using h1)]
        by_cases h2 : x.fTxn < a.fTxn
        · rw [List.filter_cons_of_pos (by simpa using h2)]
          simp only [List.length_cons]; omega
        · rw [List.filter_cons_of_neg (by simpa using h2)]
          simp only [List.length_cons]; omega
  have := this T
  omega
theorem tab_eq : ∀ {A B : List GHeld}, A.Pairwise (fun a b => a.fTxn < b.fTxn) → B.Pairwise (fun a b => a.fTxn < b.fTxn) → (∀ h, h ∈ A ↔ h ∈ B) → A = B
  | [], [], _, _, _ => rfl
  | [], y :: b, _, _, h => by have := (h y).2 (by simp); cases this
  | x :: a, [], _, _, h => by have := (h x).1 (by simp); cases this
  | x :: a, y :: b, ha, hb, h => by
    obtain ⟨a1, a2⟩ := List.pairwise_cons.1 ha
    obtain ⟨b1, b2⟩ := List.pairwise_cons.1 hb
    have hxy : x = y := by
      rcases List.mem_cons.1 ((h x).1 (by simp)) with e | e
      · exact e
      · rcases List.mem_cons.1 ((h y).2 (by simp)) with e2 | e2
        · exact e2.symm
        · have := b1 x e; have := a1 y e2; omega
    subst hxy
    rw [tab_eq a2 b2 (fun k => ?_)]
    constructor
    · intro hk
      rcases List.mem_cons.1 ((h k).1 (by simp [hk])) with e | e
      · subst e; have := a1 k hk; omega
      · exact e
    · intro hk
      rcases List.mem_cons.1 ((h k).2 (by simp [hk])) with e | e
      · subst e; have := b1 k hk; omega
      · exact e
/-- Locks none of which disturbs another one. -/
def Far (x y : GHeld) : Prop := x.fTxn ≠ y.fTxn ∧ disB x y = false ∧ disB y x = false
theorem Far.symm {x y : GHeld} (h : Far x y) : Far y x := ⟨fun e => h.1 e.symm, h.2.2, h.2.1⟩
/-- The locks that were put in, and the table behind. -/
structure In (T I : List GHeld) (k : Nat) : Prop where
  mem : ∀ h, h ∈ T ↔ h ∈ I
  far : I.Pairwise Far
  nz : ∀ h ∈ I, h.fTxn ≠ 0
  sm : ∀ h ∈ I, smallF h
  len : I.length ≤ k ∧ T.length ≤ k
theorem In.nil : In [] [] 0 := ⟨fun _ => Iff.rfl, List.Pairwise.nil, fun _ h => (by cases h), fun _ h => (by cases h), Nat.le_refl _, Nat.le_refl _⟩
theorem In.more {T I : List GHeld} {k : Nat} (h : In T I k) : In T I (k + 1) := ⟨h.mem, h.far, h.nz, h.sm, Nat.le_succ_of_le h.len.1, Nat.le_succ_of_le h.len.2⟩
theorem In.snoc {T I : List GHeld} {k : Nat} (h : In T I k) {x : GHeld} (hs : smallF x) (hm : mayF T x = 0) : In (putT T x) (I ++ [x]) (k + 1) := by
  obtain ⟨h0, h1, h2⟩ := may_iff.1 hm
  refine ⟨fun y => ?_, ?_, fun y hy => ?_, fun y hy => ?_, by rw [List.length_append, List.length_singleton]; have := h.len.1; omega, by have := put_len T x; have := h.len.2; omega⟩
  · rw [mem_put h1, List.mem_append, List.mem_singleton, h.mem]
  · refine List.pairwise_append.2 ⟨h.far, List.pairwise_singleton _ _, fun a ha b hb => ?_⟩
    rw [List.mem_singleton.1 hb]
    have ht := (h.mem a).2 ha
    exact ⟨h1 a ht, (h2 a ht).2, (h2 a ht).1⟩
  · rcases List.mem_append.1 hy with q | q
    · exact h.nz y q
    · rw [List.mem_singleton.1 q]; exact h0
  · rcases List.mem_append.1 hy with q | q
    · exact h.sm y q
    · rw [List.mem_singleton.1 q]; exact hs
theorem In.far_at {T I : List GHeld} {k : Nat} (h : In T I k) {i j : Nat} (hi : i < I.length) (hj : j < I.length) (hij : i ≠ j) : Far I[i] I[j] := by
  rcases Nat.lt_or_gt_of_ne hij with q | q
  · exact List.pairwise_iff_getElem.1 h.far i j hi hj q
  · exact (List.pairwise_iff_getElem.1 h.far j i hj hi q).symm
/-- The second table behind i rounds. -/
def Turn (I B : List GHeld) (t i : Nat) : Prop := ∀ h, h ∈ B ↔ ∃ j, ∃ hq : (j + t) % I.length < I.length, j < i ∧ I[(j + t) % I.length] = h
theorem turn_nil (I : List GHeld) (t : Nat) : Turn I [] t 0 := fun h => ⟨fun e => (by cases e), fun ⟨_, _, h, _⟩ => absurd h (Nat.not_lt_zero _)⟩
theorem turn_may {T I B : List GHeld} {k t i : Nat} (h : In T I k) (hB : Turn I B t i) (hi : i < I.length) (ht : t < I.length) (hq : (i + t) % I.length < I.length) : mayF B I[(i + t) % I.length] = 0 := by
  refine may_iff.2 ⟨h.nz _ (List.getElem_mem hq), fun y hy => ?_, fun y hy => ?_⟩
  · obtain ⟨j, hj, hji, rfl⟩ := (hB y).1 hy
    have hn : (j + t) % I.length ≠ (i + t) % I.length := fun e => by have := turn_inj (by omega) hi ht e; omega
    exact (h.far_at hj hq hn).1
  · obtain ⟨j, hj, hji, rfl⟩ := (hB y).1 hy
    have hn : (j + t) % I.length ≠ (i + t) % I.length := fun e => by have := turn_inj (by omega) hi ht e; omega
    exact ⟨(h.far_at hj hq hn).2.2, (h.far_at hj hq hn).2.1⟩
theorem turn_step {T I B : List GHeld} {k t i : Nat} (h : In T I k) (hB : Turn I B t i) (hi : i < I.length) (ht : t < I.length) (hq : (i + t) % I.length < I.length) : Turn I (putT B I[(i + t) % I.length]) t (i + 1) := by
  intro y
  rw [mem_put (may_iff.1 (turn_may h hB hi ht hq)).2.1, hB]
  constructor
  · rintro (⟨j, hj, h1, h2⟩ | rfl)
    · exact ⟨j, hj, by omega, h2⟩
    · exact ⟨i, hq, by omega, rfl⟩
  · rintro ⟨j, hj, h1, rfl⟩
    by_cases e : j = i
    · subst e; exact .inr rfl
    · exact .inl ⟨j, hj, by omega, rfl⟩
theorem turn_done {T I B : List GHeld} {k t : Nat} (h : In T I k) (oT : TabOk T) (oB : TabOk B) (hB : Turn I B t I.length) (ht : t < I.length) : B = T := by
  refine tab_eq oB.rising oT.rising (fun y => ?_)
  rw [hB, h.mem]
  constructor
  · rintro ⟨j, hj, -, rfl⟩
    exact List.getElem_mem hj
  · intro hm
    obtain ⟨q, hq, rfl⟩ := List.mem_iff_getElem.1 hm
    obtain ⟨j, hj, e⟩ := turn_all hq ht
    exact ⟨j, by rw [e]; exact hq, hj, by simp [e]⟩
theorem turn_done' {T I B : List GHeld} {k t : Nat} (h : In T I k) (oT : TabOk T) (oB : TabOk B) (hB : Turn I B t I.length) (ht : 0 < I.length → t < I.length) : B = T := by
  rcases Nat.eq_zero_or_pos I.length with hz | hz
  · refine tab_eq oB.rising oT.rising (fun y => ?_)
    rw [hB, h.mem]
    constructor
    · rintro ⟨j, hj, -, -⟩
      omega
    · intro hm
      rw [List.eq_nil_of_length_eq_zero hz] at hm
      cases hm
  · exact turn_done h oT oB hB (ht hz)
theorem drop_put {T : List GHeld} (ok : TabOk T) {x : GHeld} (hx : ∀ h ∈ T, h.fTxn ≠ x.fTxn) : dropT (putT T x) x.fTxn = T := by
  refine tab_eq ?_ ok.rising (fun h => ?_)
  · unfold dropT putT
    refine List.Pairwise.sublist List.filter_sublist ?_
    refine List.pairwise_append.2 ⟨ok.rising.sublist List.filter_sublist, List.pairwise_cons.2 ⟨fun y hy => of_decide_eq_true (List.mem_filter.1 hy).2, ok.rising.sublist List.filter_sublist⟩, fun a ha b hb => ?_⟩
    have h1 := of_decide_eq_true (List.mem_filter.1 ha).2
    rcases List.mem_cons.1 hb with q | q
    · rw [q]; exact h1
    · have h2 := of_decide_eq_true (List.mem_filter.1 q).2
      omega
  · unfold dropT
    rw [List.mem_filter, mem_put hx]
    simp only [ne_eq, decide_not, Bool.not_eq_true', decide_eq_false_iff_not]
    constructor
    · rintro ⟨h1 | h1, h2⟩
      · exact h1
      · subst h1; exact absurd rfl h2
    · exact fun h1 => ⟨.inl h1, hx h h1⟩
theorem find_put (T : List GHeld) (x : GHeld) : findT (putT T x) x.fTxn = some x := by
  rw [← findT_put]; simp
end lockOrder
end Go.Proofs.Ytfagejfcibgigaa
