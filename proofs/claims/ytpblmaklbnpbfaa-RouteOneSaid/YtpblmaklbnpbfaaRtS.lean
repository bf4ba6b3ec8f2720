/- ROUTE: both tell the same (no program in sight). Printed by mac.py. -/
import Derived.Test.YtpblmaklbnpbfaaRtB
import Derived.Test.YtpblmaklbnpbfaaRtK
import Derived.Test.YtpblmaklbnpbfaaRtM
import Derived.Test.YtpblmaklbnpbfaaRtN
namespace Go.Proofs.Ytpblmaklbnpbfaa
open Go.RowKit

/-! ### which are right -/
theorem seenB_iff {r : GRoutes} {k : Nat} {g : Int} (hk : k ≤ r.fSpans.length) : seenB r k g = true ↔ ∃ j, ∃ h : j < r.fSpans.length, j < k ∧ r.fSpans[j].fGroup = g := by
  unfold seenB
  rw [List.any_eq_true]
  constructor
  · rintro ⟨o, ho, hg⟩
    obtain ⟨j, hj, rfl⟩ := List.mem_iff_getElem.1 ho
    rw [List.length_take] at hj
    refine ⟨j, by omega, by omega, ?_⟩
    rw [List.getElem_take] at hg
    simpa [isG] using hg
  · rintro ⟨j, h, hj, hg⟩
    refine ⟨r.fSpans[j], ?_, by simpa [isG] using hg⟩
    rw [List.mem_iff_getElem]
    exact ⟨j, by rw [List.length_take]; omega, by rw [List.getElem_take]⟩
theorem place_seen {r : GRoutes} {k : Nat} (hk : k < r.fSpans.length) : (placeI r.fSpans[k].fGroup r.fSpans == (k : Int)) = !seenB r k r.fSpans[k].fGroup := by
  rcases place_cases r.fSpans[k].fGroup r.fSpans with ⟨_, _, h⟩ | ⟨j, hj, _, h1, h2, h3⟩
  · exact absurd rfl (h _ (List.getElem_mem hk))
  · rw [h1]
    cases hs : seenB r k r.fSpans[k].fGroup with
    | true =>
      obtain ⟨i, hi, hik, hg⟩ := (seenB_iff (Nat.le_of_lt hk)).1 hs
      have : j ≤ i := Nat.le_of_not_lt fun h => h3 i h hg
      have : j ≠ k := by omega
      simp; omega
    | false =>
      have h4 : ¬ ∃ i, ∃ h : i < r.fSpans.length, i < k ∧ r.fSpans[i].fGroup = r.fSpans[k].fGroup := fun h => by rw [(seenB_iff (Nat.le_of_lt hk)).2 h] at hs; cases hs
      have h5 : ¬ j < k := fun h => h4 ⟨j, hj, h, h2⟩
      have h6 : ¬ k < j := fun h => h3 k h rfl
      simp; omega
theorem tail_same {r : GRoutes} (R : ∀ k, k < r.fSpans.length → fromAt r.fSpans (k + 1) ≠ []) : tailP r = tailOk r := by
  unfold tailP tailOk
  by_cases hm : r.fMoving = 0
  · rw [if_pos hm, if_pos hm]
  · rw [if_neg hm, if_neg hm]
    unfold behindF cutOk ownedF
    cases hp : placeO r.fMoving r.fSpans with
    | none => rfl
    | some k =>
      have hk : k < r.fSpans.length := by
        rcases place_cases r.fMoving r.fSpans with ⟨h, _⟩ | ⟨j, hj, h, _⟩
        · rw [h] at hp; cases hp
        · rw [h] at hp; cases hp; exact hj
      have ht := R k hk
      simp only [spanF, withinF]
      rw [show (fromAt r.fSpans (k + 1)).isEmpty = false by simpa using ht]
      cases h1 : ltB (fromAt r.fSpans k) r.fCut with
      | true => rw [ltB_asymm h1]; cases ltB r.fCut (fromAt r.fSpans (k + 1)) <;> cases decide (r.fCut.length ≤ 600) <;> rfl
      | false => cases ltB r.fCut (fromAt r.fSpans (k + 1)) <;> cases decide (r.fCut.length ≤ 600) <;> rfl
theorem head_only {l : List UInt8} : (l.head? == some 120) = true ↔ ∃ t, l = 120 :: t := by
  cases l with
  | nil => simp
  | cons c t => simp
theorem first_lt {r : GRoutes} (h0 : fromAt r.fSpans 0 = [120]) (h : ∀ k, 0 < k → k < r.fSpans.length → ltB (fromAt r.fSpans (k - 1)) (fromAt r.fSpans k) = true) : ∀ k, 0 < k → k < r.fSpans.length → ltB [120] (fromAt r.fSpans k) = true
  | 0, h1, _ => absurd h1 (Nat.lt_irrefl _)
  | 1, _, h2 => by have := h 1 (by omega) h2; rw [h0] at this; exact this
  | k + 2, _, h2 => ltB_trans (first_lt h0 h (k + 1) (by omega) (by omega)) (h (k + 2) (by omega) h2)
theorem progB_eq (r : GRoutes) : progB r = rightB r := by
  rw [Bool.eq_iff_iff]
  constructor
  · intro h
    unfold progB headP at h
    simp only [Bool.and_eq_true, decide_eq_true_eq, List.all_eq_true, List.mem_range, Bool.not_eq_true'] at h
    obtain ⟨⟨h1, h2, h3, h4, h5⟩, h7, h8⟩ := h
    have hb : ∀ k (hk : k < r.fSpans.length), badP r k r.fSpans[k] = false := fun k hk => by
      have := h7 k hk
      unfold badPAt at this
      rw [List.getElem?_eq_getElem hk] at this
      exact this
    have h6 : fromAt r.fSpans 0 = [120] := by
      have := hb 0 (by omega)
      unfold badP at this
      simp only [Bool.or_eq_false_iff, decide_true] at this
      have h := this.2.2.2.1
      rw [fromAt_lt (by omega)]
      simpa using h
    have hbad : ∀ k (hk : k < r.fSpans.length), badO r k r.fSpans[k] = false := fun k hk => by
      have h := hb k hk
      unfold badP at h
      simp only [Bool.or_eq_false_iff, decide_eq_false_iff_not] at h
      obtain ⟨a1, a2, a3, a4, a5⟩ := h
      unfold badO
      rw [place_seen hk, a3, decide_eq_false a1, decide_eq_false a2]
      rcases Nat.eq_zero_or_pos k with h0 | h0
      · subst h0
        rw [fromAt_lt (by omega)] at h6
        rw [h6]; rfl
      · rw [decide_eq_true h0] at a5
        simp only [Bool.true_and, Bool.or_eq_false_iff, decide_eq_false_iff_not, Bool.not_eq_false'] at a5
        obtain ⟨b1, b2, b3, b4⟩ := a5
        have hl : 0 < r.fSpans[k].fFrom.length := List.length_pos_iff.2 (by simpa using b1)
        rw [b2, decide_eq_false (show ¬ (r.fSpans[k].fFrom.length : Int) < 1 by omega), decide_eq_false (show ¬ (600 : Int) < (r.fSpans[k].fFrom.length : Int) by omega), b4]
        simp
    have hrise : ∀ k, k < r.fSpans.length → fromAt r.fSpans (k + 1) ≠ [] := fun k _ => by
      by_cases hk1 : k + 1 < r.fSpans.length
      · have h := hbad (k + 1) hk1
        unfold badO at h
        simp only [Bool.or_eq_false_iff, decide_eq_false_iff_not] at h
        have := h.2.2.2.1
        rw [fromAt_lt hk1]
        intro e; rw [e] at this; simp at this
      · rw [fromAt_ge (Nat.not_lt.1 hk1)]; simp
    rw [tail_same hrise] at h8
    unfold rightB headOk
    simp only [Bool.and_eq_true, decide_eq_true_eq, List.all_eq_true, List.mem_range, Bool.not_eq_true']
    refine ⟨⟨⟨⟨⟨⟨h1, h2⟩, h3⟩, h4⟩, h5⟩, h6⟩, fun k hk => ?_, h8⟩
    unfold badAt
    rw [List.getElem?_eq_getElem hk]
    exact hbad k hk
  · intro h
    have R := rightP h
    unfold progB headP
    simp only [Bool.and_eq_true, decide_eq_true_eq, List.all_eq_true, List.mem_range, Bool.not_eq_true']
    refine ⟨⟨R.epoch, R.base.1, R.base.2, R.len.1, R.len.2⟩, fun k hk => ?_, ?_⟩
    · unfold badPAt
      rw [List.getElem?_eq_getElem hk]
      show badP r k r.fSpans[k] = false
      obtain ⟨o1, o2, o3, ⟨t, o4⟩, o5, o6⟩ := R.owner k hk
      have hs : seenB r k r.fSpans[k].fGroup = false := by
        have h1 := place_seen hk
        have h2 : placeI r.fSpans[k].fGroup r.fSpans = (k : Int) := by
          rcases place_cases r.fSpans[k].fGroup r.fSpans with ⟨e, _⟩ | ⟨j, _, e, e2, _⟩
          · rw [e] at o3; cases o3
          · rw [e] at o3; cases o3; exact e2
        rw [h2] at h1
        simpa using h1
      unfold badP
      rw [hs, decide_eq_false (show ¬ r.fSpans[k].fGroup ≤ r.fBase by omega), decide_eq_false (show ¬ r.fBase + 4 < r.fSpans[k].fGroup by omega)]
      rcases Nat.eq_zero_or_pos k with h0 | h0
      · subst h0
        have h6 := R.first
        rw [fromAt_lt hk] at h6
        rw [h6]; rfl
      · have hne : r.fSpans[k].fFrom ≠ [120] := by
          intro e
          have := first_lt R.first (fun j j0 hj => by have := R.lt (j - 1) (by omega); rw [show j - 1 + 1 = j by omega] at this; exact this) k h0 hk
          rw [fromAt_lt hk, e, ltB_irrefl] at this
          cases this
        rw [decide_eq_false hne, decide_eq_false (show k ≠ 0 by omega), decide_eq_true h0, o6 h0, decide_eq_false (show ¬ 600 < r.fSpans[k].fFrom.length by omega), o4]
        rfl
    · rw [tail_same (fun k hk => by obtain ⟨c, t, e, _⟩ := R.to_ne k; rw [e]; simp)]
      exact R.tail
/-! ### the part of a span -/
theorem partFrom_comm (a b : GSpan) : partFrom a b = partFrom b a := by
  unfold partFrom
  cases h : ltB a.fFrom b.fFrom with
  | true => rw [ltB_asymm h]; rfl
  | false =>
    cases h2 : ltB b.fFrom a.fFrom with
    | true => rfl
    | false => exact ltB_total h h2
theorem meetF_comm (a b : GSpan) : meetF a b = meetF b a := by unfold meetF; rw [partFrom_comm, Bool.and_comm]
theorem part_both (x s : GSpan) (h : x.fTo ≠ []) : partF s x = rPartX x s := by
  have hx : x.fTo.isEmpty = false := by simpa using h
  have hT : partTo s x = rTo x s := by
    unfold partTo rTo
    by_cases hs : s.fTo = []
    · rw [hs]; simp
    · rw [show s.fTo.isEmpty = false by simpa using hs]
      cases h1 : ltB x.fTo s.fTo with
      | true => rw [if_pos (.inr ⟨h, rfl⟩), ltB_asymm h1]; rfl
      | false =>
        rw [if_neg (by simp [hs])]
        cases h2 : ltB s.fTo x.fTo with
        | true => rfl
        | false => exact ltB_total h2 h1
  have hF : partFrom s x = rFrom x s := by rw [partFrom_comm]; rfl
  have hne : rTo x s ≠ [] := by
    unfold rTo
    cases hs : s.fTo.isEmpty with
    | true => simpa using h
    | false => cases ltB s.fTo x.fTo <;> simp_all
  have hm : meetF x s = ltB (rFrom x s) (rTo x s) := by
    unfold meetF rTo
    rw [hx, show partFrom x s = rFrom x s from rfl]
    generalize rFrom x s = f
    cases hs : s.fTo.isEmpty with
    | true => simp
    | false =>
      cases h1 : ltB s.fTo x.fTo with
      | true =>
        cases h2 : ltB f s.fTo with
        | true => simp [ltB_trans h2 h1, h2]
        | false => simp [h2]
      | false =>
        cases h2 : ltB f x.fTo with
        | true => simp [ltB_lt_ge h2 h1, h2]
        | false => simp [h2]
  rw [partF_eq, partNo, hT, hF, rPartX, hx, hm, show (rTo x s).isEmpty = false by simpa using hne]
  cases ltB (rFrom x s) (rTo x s) <;> rfl
theorem Part_eq (r : GRoutes) (g : Int) (s : GSpan) : PartF r g s = rPartF r g s := by
  unfold PartF rPartF rownF
  by_cases h : 1 ≤ g ∧ g ≤ r.fBase
  · rw [if_pos h, if_pos h]
    exact part_both ⟨[114], [115]⟩ s (by simp)
  · rw [if_neg h, if_neg h]
    by_cases h2 : (ownedF r.fSpans g).fTo = []
    · rw [if_pos h2, rPartX, h2]; rfl
    · rw [if_neg h2]; exact part_both _ s h2
theorem part_meet (x s : GSpan) (h : x.fTo ≠ []) : (partF s x).2 = meetF s x := by
  rw [part_both x s h, rPartX, show x.fTo.isEmpty = false by simpa using h, meetF_comm x s]
  cases meetF s x <;> rfl
/-! ### the groups over a span -/
theorem rows_same (r : GRoutes) (s : GSpan) : rowsL r s = rRowsL r s := by
  unfold rowsL rRowsL
  rw [show allF 114 = ⟨[114], [115]⟩ from rfl, part_meet ⟨[114], [115]⟩ s (by simp)]
theorem isI_le (a b : Int) : (decide (a ≤ b) || decide (b ≤ a)) = true := by simp; omega
theorem baseL_sorted (n : Nat) : (baseL n).Pairwise (· < ·) := by
  induction n with
  | zero => exact List.Pairwise.nil
  | succ n ih =>
    rw [baseL_succ, List.pairwise_append]
    refine ⟨ih, List.pairwise_singleton _ _, fun a ha b hb => ?_⟩
    simp only [List.mem_singleton] at hb
    subst hb
    unfold baseL at ha
    simp only [List.mem_map, List.mem_range] at ha
    obtain ⟨i, hi, rfl⟩ := ha
    omega
theorem mem_baseL {n : Nat} {a : Int} (h : a ∈ baseL n) : 1 ≤ a ∧ a ≤ (n : Int) := by
  unfold baseL at h
  simp only [List.mem_map, List.mem_range] at h
  obtain ⟨i, hi, rfl⟩ := h
  omega
theorem mem_rEntL {r : GRoutes} {s : GSpan} {n : Nat} {a : Int} : a ∈ rEntL r s n ↔ (r.fBase < a ∧ a ≤ r.fBase + (n : Int)) ∧ meetG r s a = true := by
  unfold rEntL
  simp only [List.mem_filter, List.mem_map, List.mem_range]
  constructor
  · rintro ⟨⟨i, hi, rfl⟩, h⟩; exact ⟨by omega, h⟩
  · rintro ⟨h, h2⟩; exact ⟨⟨(a - r.fBase - 1).toNat, by omega, by omega⟩, h2⟩
theorem rEntL_sorted (r : GRoutes) (s : GSpan) (n : Nat) : (rEntL r s n).Pairwise (· < ·) := by
  unfold rEntL
  refine List.Pairwise.filter _ ?_
  rw [List.pairwise_map]
  exact List.Pairwise.imp (fun h => by omega) List.pairwise_lt_range
theorem rOver_sorted (r : GRoutes) (s : GSpan) (hb : 1 ≤ r.fBase) : (rOverF r s).Pairwise (· < ·) := by
  unfold rOverF
  rw [List.pairwise_append]
  refine ⟨?_, rEntL_sorted r s 4, fun a ha b hb2 => ?_⟩
  · unfold rRowsL; split
    · exact baseL_sorted _
    · exact List.Pairwise.nil
  · have h2 := (mem_rEntL.1 hb2).1
    unfold rRowsL at ha
    split at ha
    · have := mem_baseL ha; omega
    · cases ha
theorem entL_mem {r : GRoutes} (R : RightP r) (s : GSpan) (a : Int) : a ∈ entL r s r.fSpans ↔ a ∈ rEntL r s 4 := by
  rw [mem_rEntL]
  unfold entL
  simp only [List.mem_map, List.mem_filter]
  constructor
  · rintro ⟨o, ⟨ho, h⟩, rfl⟩
    obtain ⟨k, hk, rfl⟩ := List.mem_iff_getElem.1 ho
    obtain ⟨o1, o2, o3, _⟩ := R.owner k hk
    refine ⟨⟨o1, o2⟩, ?_⟩
    unfold meetG
    rw [o3]
    show meetF s (spanF r.fSpans k) = true
    rw [R.part_own k hk, part_meet _ _ (by obtain ⟨c, t, e, _⟩ := R.to_ne k; show fromAt r.fSpans (k + 1) ≠ []; rw [e]; simp)] at h
    exact h
  · rintro ⟨_, h⟩
    unfold meetG at h
    rcases place_cases a r.fSpans with ⟨e, _⟩ | ⟨k, hk, e, _, hg, _⟩
    · rw [e] at h; cases h
    · rw [e] at h
      refine ⟨r.fSpans[k], ⟨List.getElem_mem hk, ?_⟩, hg⟩
      rw [R.part_own k hk, part_meet _ _ (by obtain ⟨c, t, e, _⟩ := R.to_ne k; show fromAt r.fSpans (k + 1) ≠ []; rw [e]; simp)]
      exact h
theorem entL_nodup {r : GRoutes} (R : RightP r) (s : GSpan) : (entL r s r.fSpans).Nodup := by
  have h : (r.fSpans.map (·.fGroup)).Nodup := by
    unfold List.Nodup
    rw [List.pairwise_map, List.pairwise_iff_getElem]
    intro i j hi hj hij e
    have h1 := (R.owner i hi).2.2.1
    have h2 := (R.owner j hj).2.2.1
    rw [e] at h1
    rw [h1] at h2
    cases h2
    omega
  unfold entL
  unfold List.Nodup at h ⊢
  rw [List.pairwise_map] at h ⊢
  exact List.Pairwise.filter _ h
theorem over_both {r : GRoutes} (R : RightP r) (s : GSpan) : overF r s = rOverF r s := by
  have hs := rOver_sorted r s R.base.1
  have hp : (rowsL r s ++ entL r s r.fSpans).Perm (rOverF r s) := by
    unfold rOverF
    rw [rows_same]
    refine List.Perm.append_left _ ?_
    exact (List.perm_ext_iff_of_nodup (entL_nodup R s) (List.Pairwise.imp (fun h => by omega) (rEntL_sorted r s 4))).2 (entL_mem R s)
  unfold overF
  refine List.Perm.eq_of_pairwise (le := fun a b : Int => a ≤ b) (fun a b _ _ h1 h2 => by omega) ?_ (List.Pairwise.imp (fun h => by omega) hs) ((List.mergeSort_perm _ _).trans hp)
  exact List.Pairwise.imp (fun h => by simpa using h) (List.pairwise_mergeSort (le := fun x y : Int => decide (x ≤ y)) (fun a b c h1 h2 => by simp at *; omega) isI_le _)
end Go.Proofs.Ytpblmaklbnpbfaa
