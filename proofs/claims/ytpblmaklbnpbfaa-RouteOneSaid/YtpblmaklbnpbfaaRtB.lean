/- ROUTE: what right routes are like (no program in sight). Printed by mac.py. -/
import Derived.Test.YtpblmaklbnpbfaaRtA
namespace Go.Proofs.Ytpblmaklbnpbfaa
open Go.RowKit

structure RightP (r : GRoutes) : Prop where
  epoch : 0 ≤ r.fEpoch
  base : 1 ≤ r.fBase ∧ r.fBase ≤ 4
  len : 1 ≤ r.fSpans.length ∧ r.fSpans.length ≤ 4
  first : fromAt r.fSpans 0 = [120]
  bad : ∀ k (h : k < r.fSpans.length), badO r k r.fSpans[k] = false
  tail : tailOk r = true
theorem rightP {r : GRoutes} (h : rightB r = true) : RightP r := by
  unfold rightB headOk at h
  simp only [Bool.and_eq_true, decide_eq_true_eq, List.all_eq_true, List.mem_range, Bool.not_eq_true'] at h
  obtain ⟨⟨⟨⟨⟨⟨h1, h2⟩, h3⟩, h4⟩, h5⟩, h6⟩, h7, h8⟩ := h
  refine ⟨h1, ⟨h2, h3⟩, ⟨h4, h5⟩, h6, fun k hk => ?_, h8⟩
  have := h7 k hk
  unfold badAt at this
  rw [List.getElem?_eq_getElem hk] at this
  exact this
theorem place_at {g : Int} {l : List GOwner} {k : Nat} (h : placeI g l = (k : Int)) : placeO g l = some k ∧ ∃ h : k < l.length, l[k].fGroup = g := by
  rcases place_cases g l with ⟨_, h2, _⟩ | ⟨j, hj, h1, h2, h3, _⟩
  · omega
  · obtain rfl : j = k := by omega
    exact ⟨h1, hj, h3⟩
namespace RightP
variable {r : GRoutes} (R : RightP r)
include R
theorem owner (k : Nat) (h : k < r.fSpans.length) : r.fBase < r.fSpans[k].fGroup ∧ r.fSpans[k].fGroup ≤ r.fBase + 4 ∧ placeO r.fSpans[k].fGroup r.fSpans = some k ∧ (∃ t, r.fSpans[k].fFrom = 120 :: t) ∧ r.fSpans[k].fFrom.length ≤ 600 ∧ (0 < k → ltB (fromAt r.fSpans (k - 1)) r.fSpans[k].fFrom = true) := by
  have := R.bad k h
  unfold badO at this
  simp only [Bool.or_eq_false_iff, decide_eq_false_iff_not, Bool.not_eq_false', beq_iff_eq, Bool.and_eq_false_iff] at this
  obtain ⟨h1, h2, h3, h4, h5, h6, h7⟩ := this
  refine ⟨by omega, by omega, (place_at h3).1, ?_, by omega, fun hk => ?_⟩
  · cases hf : r.fSpans[k].fFrom with
    | nil => rw [hf] at h5; cases h5
    | cons c t => rw [hf] at h5; simp at h5; exact ⟨t, by rw [h5]⟩
  · rcases h7 with h7 | h7
    · omega
    · exact h7
theorem head (k : Nat) (h : k < r.fSpans.length) : ∃ t, fromAt r.fSpans k = 120 :: t := by rw [fromAt_lt h]; exact (R.owner k h).2.2.2.1
theorem lt (k : Nat) (h : k < r.fSpans.length) : ltB (fromAt r.fSpans k) (fromAt r.fSpans (k + 1)) = true := by
  by_cases hk : k + 1 < r.fSpans.length
  · have := (R.owner (k + 1) hk).2.2.2.2.2 (by omega)
    rw [fromAt_lt hk]; exact this
  · obtain ⟨t, ht⟩ := R.head k h
    rw [ht, fromAt_ge (Nat.not_lt.1 hk)]; rfl
theorem owned (k : Nat) (h : k < r.fSpans.length) : ownedF r.fSpans r.fSpans[k].fGroup = spanF r.fSpans k := by
  unfold ownedF; rw [(R.owner k h).2.2.1]
theorem to_ne (k : Nat) : ∃ c t, fromAt r.fSpans (k + 1) = c :: t ∧ 120 ≤ c := by
  by_cases hk : k + 1 < r.fSpans.length
  · obtain ⟨t, ht⟩ := R.head (k + 1) hk
    exact ⟨120, t, ht, by decide⟩
  · exact ⟨121, [], fromAt_ge (Nat.not_lt.1 hk), by decide⟩
theorem part_own (k : Nat) (h : k < r.fSpans.length) (s : GSpan) : PartF r r.fSpans[k].fGroup s = partF s (spanF r.fSpans k) := by
  unfold PartF
  rw [if_neg (by have := (R.owner k h).1; omega), R.owned k h]
  obtain ⟨c, t, ht, _⟩ := R.to_ne k
  rw [if_neg (by show fromAt r.fSpans (k + 1) ≠ []; rw [ht]; simp)]
theorem part_all (k : Nat) (h : k < r.fSpans.length) : (PartF r r.fSpans[k].fGroup (allF 114)).2 = false := by
  rw [R.part_own k h]
  obtain ⟨t, ht⟩ := R.head k h
  obtain ⟨c, t', ht', hc⟩ := R.to_ne k
  have h1 : ltB [114] (120 :: t) = true := rfl
  have hc2 : ltB (c :: t') [115] = false := by
    rw [ltB_cons]
    have : ¬ c < 115 := fun e => by have := UInt8.lt_of_le_of_lt hc e; exact absurd this (by decide)
    have e : c ≠ 115 := fun e => by subst e; exact absurd hc (by decide)
    simp [this, e]
  have h3 : ltB (120 :: t) [115] = false := rfl
  unfold partF spanF allF
  simp only [ht, ht']
  simp only [show (114 : UInt8) + 1 = 115 from rfl, h1, if_true, hc2]
  simp [h3]
theorem over_all : overF r (allF 114) = sortI (baseL r.fBase.toNat) := by
  have h1 : rowsL r (allF 114) = baseL r.fBase.toNat := by unfold rowsL; rw [show (partF (allF 114) (allF 114)).2 = true from by decide]; rfl
  have h2 : entL r (allF 114) r.fSpans = [] := by
    unfold entL
    rw [List.map_eq_nil_iff, List.filter_eq_nil_iff]
    intro o ho
    obtain ⟨k, hk, rfl⟩ := List.mem_iff_getElem.1 ho
    rw [R.part_all k hk]; decide
  unfold overF; rw [h1, h2, List.append_nil]
theorem over_all_len : ((overF r (allF 114)).length : Int) = r.fBase := by
  rw [R.over_all, List.length_mergeSort, baseL_len]; have := R.base; omega
end RightP
theorem baseF_in {b : Int} (h : 1 ≤ b ∧ b ≤ 4) (l : List UInt8) : 1 ≤ baseF b l ∧ baseF b l ≤ b := by
  unfold baseF
  have h1 := Int.emod_nonneg (hashF l) (show b ≠ 0 by omega)
  have h2 := Int.emod_lt_of_pos (hashF l) (show 0 < b by omega)
  omega
theorem part_base {r : GRoutes} {g : Int} (h : 1 ≤ g ∧ g ≤ r.fBase) : PartF r g ⟨[], []⟩ = (⟨[114], [115]⟩, true) := by
  unfold PartF; rw [if_pos h]; decide
theorem keep2 (cur : World) (g : Nat) (u v : Value) : Keep (· = g) cur ((cur.setCell ⟨g, 0, none⟩ u).setCell ⟨g, 1, none⟩ v) := ((Keep.refl (· = g) cur).setCell (p := ⟨g, 0, none⟩) (fun _ => rfl) u).setCell (p := ⟨g, 1, none⟩) (fun _ => rfl) v
def ANY : Nat → Prop := fun _ => True
theorem bytes_arg {m : Nat} {W : World} {v : Value} (h : Arg Try.prog W m 23 v) : ∃ (a : Option Addr) (cap : Nat) (l : List UInt8), v = .slice a l.length cap ∧ LB W (· < W.heap.size) a cap l := by
  obtain ⟨a, n, cap, rfl, k⟩ := h.slice Try.underlying23
  obtain ⟨l, ⟨a', c', e, h1⟩, -⟩ := Red.toBytes Try.underlying23 Try.underlying5 cells5 bytes5 k
  cases e
  exact ⟨_, _, l, rfl, h1⟩
theorem routes_arg {m : Nat} {W : World} {v : Value} (h : Arg Try.prog W m 25 v) : ∃ (csr : List Value) (r : GRoutes), v = .agg csr.toArray ∧ rGRoutes W (· < W.heap.size) csr r := by
  obtain ⟨csr, rfl, k⟩ := h.struct Try.underlying25
  obtain ⟨r, hr, -⟩ := redGRoutes k
  exact ⟨csr, r, rfl, hr⟩
theorem span_arg {m : Nat} {W : World} {v : Value} (h : Arg Try.prog W m 29 v) : ∃ (css : List Value) (s : GSpan), v = .agg css.toArray ∧ rGSpan W (· < W.heap.size) css s := by
  obtain ⟨csr, rfl, k⟩ := h.struct Try.underlying29
  obtain ⟨r, hr, -⟩ := redGSpan k
  exact ⟨csr, r, rfl, hr⟩
end Go.Proofs.Ytpblmaklbnpbfaa
