/- ROUTE: the parts of a span, group by group (no program in sight). Printed by mac.py. -/
import Derived.Test.YtpblmaklbnpbfaaRtB
namespace Go.Proofs.Ytpblmaklbnpbfaa
open Go.RowKit

structure InP (r : GRoutes) (s : GSpan) : Prop where
  R : RightP r
  head : ∃ t, s.fFrom = 120 :: t
  to1 : s.fTo ≠ []
  to2 : ltB [121] s.fTo = false
def stp (r : GRoutes) (s : GSpan) (m : Nat) : List UInt8 := if ltB s.fFrom (fromAt r.fSpans m) then (if ltB (fromAt r.fSpans m) s.fTo then fromAt r.fSpans m else s.fTo) else s.fFrom
def inK (r : GRoutes) (s : GSpan) (k : Nat) : Bool := (partF s (spanF r.fSpans k)).2
theorem partTo_two {s b : GSpan} (h1 : s.fTo ≠ []) (h2 : b.fTo ≠ []) : partTo s b = if ltB b.fTo s.fTo then b.fTo else s.fTo := by
  unfold partTo
  by_cases h : ltB b.fTo s.fTo = true
  · rw [if_pos (.inr ⟨h2, h⟩), if_pos h]
  · rw [if_neg (by simp [h1, h]), if_neg h]
theorem part_two {s b : GSpan} (h1 : s.fTo ≠ []) (h2 : b.fTo ≠ []) : partF s b = if ltB (partFrom s b) (partTo s b) then (⟨partFrom s b, partTo s b⟩, true) else (⟨[], []⟩, false) := by
  rw [partF_eq, partNo]
  have h : (partTo s b).isEmpty = false := by
    rw [partTo_two h1 h2]; split
    · simpa using h2
    · simpa using h1
  rw [h]
  cases ltB (partFrom s b) (partTo s b) <;> rfl
namespace InP
variable {r : GRoutes} {s : GSpan} (I : InP r s)
include I
theorem bTo (k : Nat) : (spanF r.fSpans k).fTo ≠ [] := by
  obtain ⟨c, t, h, _⟩ := I.R.to_ne k
  show fromAt r.fSpans (k + 1) ≠ []
  rw [h]; simp
theorem inK_eq (k : Nat) : inK r s k = ltB (partFrom s (spanF r.fSpans k)) (partTo s (spanF r.fSpans k)) := by
  unfold inK
  rw [part_two I.to1 (I.bTo k)]
  cases ltB (partFrom s (spanF r.fSpans k)) (partTo s (spanF r.fSpans k)) <;> rfl
theorem zero : stp r s 0 = s.fFrom := by
  obtain ⟨t, ht⟩ := I.head
  unfold stp
  rw [I.R.first, ht, show ltB (120 :: t) [120] = false from by rw [ltB_cons, ltB_nil]; rfl]; rfl
theorem last : stp r s r.fSpans.length = s.fTo := by
  obtain ⟨t, ht⟩ := I.head
  unfold stp
  rw [fromAt_ge (Nat.le_refl _), ht, show ltB (120 :: t) [121] = true from rfl, I.to2]; rfl
theorem step_in (hlt : ltB s.fFrom s.fTo = true) (k : Nat) (hk : k < r.fSpans.length) (h : inK r s k = true) : partF s (spanF r.fSpans k) = (⟨stp r s k, stp r s (k + 1)⟩, true) ∧ ltB (stp r s k) (stp r s (k + 1)) = true := by
  have h0 := h
  rw [I.inK_eq k] at h
  have hab := I.R.lt k hk
  rw [part_two I.to1 (I.bTo k), if_pos h]
  have hf : partFrom s (spanF r.fSpans k) = stp r s k := by
    unfold partFrom stp
    show (if ltB s.fFrom (fromAt r.fSpans k) then fromAt r.fSpans k else s.fFrom) = _
    by_cases e : ltB s.fFrom (fromAt r.fSpans k) = true
    · rw [if_pos e, if_pos e, if_pos]
      have e1 : partFrom s (spanF r.fSpans k) = fromAt r.fSpans k := by unfold partFrom; rw [if_pos (show ltB s.fFrom (spanF r.fSpans k).fFrom = true from e)]; rfl
      rw [e1, partTo_two I.to1 (I.bTo k)] at h
      by_cases e2 : ltB (spanF r.fSpans k).fTo s.fTo = true
      · rw [if_pos e2] at h; exact ltB_trans h e2
      · rw [if_neg e2] at h; exact h
    · rw [if_neg e, if_neg e]
  have ht : partTo s (spanF r.fSpans k) = stp r s (k + 1) := by
    rw [partTo_two I.to1 (I.bTo k)]
    show (if ltB (fromAt r.fSpans (k + 1)) s.fTo then fromAt r.fSpans (k + 1) else s.fTo) = _
    have e3 : ltB s.fFrom (fromAt r.fSpans (k + 1)) = true := by
      by_cases e : ltB s.fFrom (fromAt r.fSpans k) = true
      · exact ltB_trans e hab
      · by_cases e2 : ltB (fromAt r.fSpans (k + 1)) s.fTo = true
        · have e1 : partFrom s (spanF r.fSpans k) = s.fFrom := by unfold partFrom; rw [if_neg (show ¬ ltB s.fFrom (spanF r.fSpans k).fFrom = true from e)]
          rw [e1, partTo_two I.to1 (I.bTo k), if_pos (show ltB (spanF r.fSpans k).fTo s.fTo = true from e2)] at h
          exact h
        · exact ltB_lt_ge hlt (by simpa using e2)
    unfold stp
    rw [if_pos e3]
  rw [hf, ht] at h ⊢
  exact ⟨rfl, h⟩
theorem step_out (hlt : ltB s.fFrom s.fTo = true) (k : Nat) (hk : k < r.fSpans.length) (h : inK r s k = false) : stp r s (k + 1) = stp r s k := by
  rw [I.inK_eq k, partTo_two I.to1 (I.bTo k)] at h
  unfold partFrom at h
  replace h : ltB (if ltB s.fFrom (fromAt r.fSpans k) then fromAt r.fSpans k else s.fFrom) (if ltB (fromAt r.fSpans (k + 1)) s.fTo then fromAt r.fSpans (k + 1) else s.fTo) = false := h
  have hab := I.R.lt k hk
  unfold stp
  by_cases e1 : ltB s.fFrom (fromAt r.fSpans (k + 1)) = true
  · by_cases e2 : ltB (fromAt r.fSpans (k + 1)) s.fTo = true
    · rw [if_pos e2] at h
      by_cases e : ltB s.fFrom (fromAt r.fSpans k) = true
      · rw [if_pos e, hab] at h; cases h
      · rw [if_neg e, e1] at h; cases h
    · rw [if_neg e2] at h
      rw [if_pos e1, if_neg e2]
      by_cases e : ltB s.fFrom (fromAt r.fSpans k) = true
      · rw [if_pos e] at h
        rw [if_pos e, if_neg (by rw [h]; decide)]
      · rw [if_neg e, hlt] at h; cases h
  · rw [if_neg e1, if_neg (fun e => e1 (ltB_trans e hab))]
theorem step_le (hlt : ltB s.fFrom s.fTo = true) (k : Nat) (hk : k < r.fSpans.length) : ltB (stp r s (k + 1)) (stp r s k) = false := by
  cases h : inK r s k with
  | true => exact ltB_asymm (I.step_in hlt k hk h).2
  | false => rw [I.step_out hlt k hk h]; exact ltB_irrefl _
theorem step_far (hlt : ltB s.fFrom s.fTo = true) (k : Nat) (hk : k < r.fSpans.length) (h : inK r s k = true) : ∀ d, k + 1 + d ≤ r.fSpans.length → ltB (stp r s k) (stp r s (k + 1 + d)) = true
  | 0, _ => (I.step_in hlt k hk h).2
  | d + 1, hd => ltB_lt_ge (step_far hlt k hk h d (by omega)) (I.step_le hlt (k + 1 + d) (by omega))
theorem cmp_in (hlt : ltB s.fFrom s.fTo = true) (j k : Nat) (hj : j < r.fSpans.length) (hk : k < r.fSpans.length) (h1 : inK r s j = true) (h2 : inK r s k = true) : ltB (stp r s j) (stp r s k) = decide (j < k) := by
  rcases Nat.lt_trichotomy j k with h | h | h
  · have := I.step_far hlt j hj h1 (k - j - 1) (by omega)
    rw [show j + 1 + (k - j - 1) = k by omega] at this
    rw [this]; simp [h]
  · subst h; rw [ltB_irrefl]; simp
  · have := I.step_far hlt k hk h2 (j - k - 1) (by omega)
    rw [show k + 1 + (j - k - 1) = j by omega] at this
    rw [ltB_asymm this]; simp; omega
theorem no_rows : rowsL r s = [] := by
  unfold rowsL
  rw [if_neg]
  obtain ⟨t, ht⟩ := I.head
  have h1 : ltB s.fFrom [115] = false := by rw [ht]; rfl
  have h2 : ltB s.fFrom [114] = false := by rw [ht]; rfl
  rw [part_two I.to1 (show (allF 114).fTo ≠ [] by simp [allF])]
  have e : partFrom s (allF 114) = s.fFrom := by unfold partFrom; rw [if_neg]; show ¬ ltB s.fFrom [114] = true; rw [h2]; decide
  rw [e, partTo_two I.to1 (show (allF 114).fTo ≠ [] by simp [allF])]
  have : ltB s.fFrom (if ltB (allF 114).fTo s.fTo then (allF 114).fTo else s.fTo) = false := by
    by_cases e2 : ltB (allF 114).fTo s.fTo = true
    · rw [if_pos e2]; exact h1
    · rw [if_neg e2]
      cases e3 : ltB s.fFrom s.fTo with
      | false => rfl
      | true =>
        have := ltB_lt_ge (c := [115]) e3 (by have : (allF 114).fTo = [115] := rfl; rw [this] at e2; simpa using e2)
        rw [h1] at this; cases this
  rw [this]; simp
theorem none_in (hlt : ltB s.fFrom s.fTo = false) (k : Nat) : inK r s k = false := by
  rw [I.inK_eq k, partTo_two I.to1 (I.bTo k)]
  unfold partFrom
  show ltB (if ltB s.fFrom (fromAt r.fSpans k) then fromAt r.fSpans k else s.fFrom) (if ltB (fromAt r.fSpans (k + 1)) s.fTo then fromAt r.fSpans (k + 1) else s.fTo) = false
  have h1 : ltB (if ltB s.fFrom (fromAt r.fSpans k) then fromAt r.fSpans k else s.fFrom) s.fFrom = false := by
    by_cases e : ltB s.fFrom (fromAt r.fSpans k) = true
    · rw [if_pos e]; exact ltB_asymm e
    · rw [if_neg e]; exact ltB_irrefl _
  have h2 : ltB s.fTo (if ltB (fromAt r.fSpans (k + 1)) s.fTo then fromAt r.fSpans (k + 1) else s.fTo) = false := by
    by_cases e : ltB (fromAt r.fSpans (k + 1)) s.fTo = true
    · rw [if_pos e]; exact ltB_asymm e
    · rw [if_neg e]; exact ltB_irrefl _
  exact ltB_ge_trans (ltB_ge_trans h2 hlt) h1
theorem over_eq : overF r s = sortI (entL r s r.fSpans) := by unfold overF; rw [I.no_rows]; rfl
theorem over_none (hlt : ltB s.fFrom s.fTo = false) : overF r s = [] := by
  rw [I.over_eq]
  have : entL r s r.fSpans = [] := by
    unfold entL
    rw [List.map_eq_nil_iff, List.filter_eq_nil_iff]
    intro o ho
    obtain ⟨k, hk, rfl⟩ := List.mem_iff_getElem.1 ho
    rw [I.R.part_own k hk s, show (partF s (spanF r.fSpans k)).2 = false from I.none_in hlt k]; decide
  rw [this]; simp [sortI]
theorem over_mem (g : Int) : g ∈ overF r s ↔ ∃ (k : Nat) (h : k < r.fSpans.length), r.fSpans[k].fGroup = g ∧ inK r s k = true := by
  rw [I.over_eq, List.mem_mergeSort]
  unfold entL
  rw [List.mem_map]
  constructor
  · rintro ⟨o, ho, rfl⟩
    rw [List.mem_filter] at ho
    obtain ⟨h1, h2⟩ := ho
    obtain ⟨k, hk, rfl⟩ := List.mem_iff_getElem.1 h1
    rw [I.R.part_own k hk s] at h2
    exact ⟨k, hk, rfl, h2⟩
  · rintro ⟨k, hk, rfl, h2⟩
    exact ⟨r.fSpans[k], List.mem_filter.2 ⟨List.getElem_mem hk, by rw [I.R.part_own k hk s]; exact h2⟩, rfl⟩
theorem place_inj (j k : Nat) (hj : j < r.fSpans.length) (hk : k < r.fSpans.length) (h : r.fSpans[j].fGroup = r.fSpans[k].fGroup) : j = k := by
  have h1 := (I.R.owner j hj).2.2.1
  have h2 := (I.R.owner k hk).2.2.1
  rw [h, h2] at h1
  exact (Option.some.inj h1).symm
theorem over_nodup : (overF r s).Nodup := by
  rw [I.over_eq]
  refine (List.mergeSort_perm _ _).nodup_iff.2 ?_
  unfold entL
  rw [List.Nodup, List.pairwise_map]
  refine List.Pairwise.filter _ ?_
  rw [List.pairwise_iff_getElem]
  intro i j hi hj hij e
  have := I.place_inj i j hi hj e
  omega
end InP
/-! ### lists of places -/
theorem sorted_ext : ∀ {a b : List Nat}, a.Pairwise (· < ·) → b.Pairwise (· < ·) → (∀ x, x ∈ a ↔ x ∈ b) → a = b
  | [], [], _, _, _ => rfl
  | [], y :: b, _, _, h => absurd ((h y).2 (List.mem_cons_self ..)) (List.not_mem_nil)
  | x :: a, [], _, _, h => absurd ((h x).1 (List.mem_cons_self ..)) (List.not_mem_nil)
  | x :: a, y :: b, ha, hb, h => by
    rw [List.pairwise_cons] at ha hb
    have h1 : x = y := by
      have hx := (h x).1 (List.mem_cons_self ..)
      have hy := (h y).2 (List.mem_cons_self ..)
      rw [List.mem_cons] at hx hy
      rcases hx with hx | hx
      · exact hx
      · rcases hy with hy | hy
        · exact hy.symm
        · have := hb.1 x hx; have := ha.1 y hy; omega
    subst h1
    congr 1
    refine sorted_ext ha.2 hb.2 fun z => ?_
    constructor
    · intro hz
      have := (h z).1 (List.mem_cons_of_mem _ hz)
      rw [List.mem_cons] at this
      exact this.resolve_left (fun e => by have := ha.1 z hz; omega)
    · intro hz
      have := (h z).2 (List.mem_cons_of_mem _ hz)
      rw [List.mem_cons] at this
      exact this.resolve_left (fun e => by have := hb.1 z hz; omega)
def Chain (a : List UInt8) : List GSpan → List UInt8 → Prop
  | [], z => a = z
  | p :: l, z => p.fFrom = a ∧ Chain p.fTo l z
theorem Chain.append : ∀ {a b c : List UInt8} {l m : List GSpan}, Chain a l b → Chain b m c → Chain a (l ++ m) c
  | _, _, _, [], _, h, k => by cases h; exact k
  | _, _, _, _ :: _, _, h, k => ⟨h.1, Chain.append h.2 k⟩
def pieceK (r : GRoutes) (s : GSpan) (k : Nat) : GSpan := ⟨stp r s k, stp r s (k + 1)⟩
theorem InP.chain {r : GRoutes} {s : GSpan} (I : InP r s) (hlt : ltB s.fFrom s.fTo = true) : ∀ m, m ≤ r.fSpans.length → Chain s.fFrom (((List.range m).filter (inK r s)).map (pieceK r s)) (stp r s m)
  | 0, _ => I.zero.symm
  | m + 1, hm => by
    rw [List.range_succ, List.filter_append, List.map_append]
    refine Chain.append (I.chain hlt m (by omega)) ?_
    cases h : inK r s m with
    | true => simp only [List.filter_cons, List.filter_nil, h, if_true, List.map_cons, List.map_nil]; exact ⟨rfl, rfl⟩
    | false => simp only [List.filter_cons, List.filter_nil, h]; exact (I.step_out hlt m (by omega) h).symm
/-- What the places are, behind i groups. -/
structure Ks (r : GRoutes) (s : GSpan) (gs : List Int) (ks : List Nat) : Prop where
  sorted : ks.Pairwise (· < ·)
  ok : ∀ k ∈ ks, k < r.fSpans.length ∧ inK r s k = true
  mem : ∀ (k : Nat) (h : k < r.fSpans.length), k ∈ ks ↔ r.fSpans[k].fGroup ∈ gs
theorem Ks.nil (r : GRoutes) (s : GSpan) : Ks r s [] [] := ⟨List.Pairwise.nil, fun k h => (List.not_mem_nil h).elim, fun k h => by simp⟩
def insK (ks : List Nat) (j k : Nat) : List Nat := ks.take j ++ k :: ks.drop j
theorem Ks.ins {r : GRoutes} {s : GSpan} {gs : List Int} {ks : List Nat} (I : InP r s) (K : Ks r s gs ks) (k : Nat) (hk : k < r.fSpans.length) (hin : inK r s k = true) (j : Nat) (hj : j ≤ ks.length) (hlo : ∀ (q : Nat) (h : q < ks.length), q < j → ks[q] < k) (hhi : ∀ h : j < ks.length, k < ks[j]) : Ks r s (gs ++ [r.fSpans[k].fGroup]) (insK ks j k) := by
  refine ⟨?_, ?_, ?_⟩
  · unfold insK
    have hs := K.sorted
    rw [← List.take_append_drop j ks, List.pairwise_append] at hs
    obtain ⟨h1, h2, h3⟩ := hs
    have hd : ∀ x ∈ ks.drop j, k < x := fun x hx => by
      by_cases hjl : j < ks.length
      · rw [List.drop_eq_getElem_cons hjl] at hx h2
        rw [List.pairwise_cons] at h2
        rw [List.mem_cons] at hx
        have := hhi hjl
        rcases hx with rfl | hx
        · exact this
        · have := h2.1 x hx; omega
      · rw [List.drop_eq_nil_of_le (by omega)] at hx; exact (List.not_mem_nil hx).elim
    have ht : ∀ x ∈ ks.take j, x < k := fun x hx => by
      obtain ⟨q, hq, rfl⟩ := List.mem_iff_getElem.1 hx
      rw [List.length_take] at hq
      rw [List.getElem_take]
      exact hlo q (by omega) (by omega)
    rw [List.pairwise_append, List.pairwise_cons]
    refine ⟨h1, ⟨hd, h2⟩, fun a ha b hb => ?_⟩
    rw [List.mem_cons] at hb
    rcases hb with rfl | hb
    · exact ht a ha
    · exact h3 a ha b hb
  · intro q hq
    unfold insK at hq
    rw [List.mem_append, List.mem_cons] at hq
    rcases hq with hq | rfl | hq
    · exact K.ok q (List.mem_of_mem_take hq)
    · exact ⟨hk, hin⟩
    · exact K.ok q (List.mem_of_mem_drop hq)
  · intro q hq
    have : q ∈ insK ks j k ↔ q ∈ ks ∨ q = k := by
      unfold insK
      rw [List.mem_append, List.mem_cons]
      constructor
      · rintro (h | rfl | h)
        · exact .inl (List.mem_of_mem_take h)
        · exact .inr rfl
        · exact .inl (List.mem_of_mem_drop h)
      · rintro (h | rfl)
        · rw [← List.take_append_drop j ks, List.mem_append] at h
          rcases h with h | h
          · exact .inl h
          · exact .inr (.inr h)
        · exact .inr (.inl rfl)
    rw [this, List.mem_append, List.mem_singleton, K.mem q hq]
    constructor
    · rintro (h | rfl)
      · exact .inl h
      · exact .inr rfl
    · rintro (h | h)
      · exact .inl h
      · exact .inr (I.place_inj q k hq hk h)
theorem Ks.all {r : GRoutes} {s : GSpan} {ks : List Nat} (I : InP r s) (K : Ks r s (overF r s) ks) : ks = (List.range r.fSpans.length).filter (inK r s) := by
  refine sorted_ext K.sorted (List.Pairwise.filter _ List.pairwise_lt_range) fun k => ?_
  rw [List.mem_filter, List.mem_range]
  constructor
  · exact fun h => K.ok k h
  · rintro ⟨h1, h2⟩
    exact (K.mem k h1).2 ((I.over_mem _).2 ⟨k, h1, rfl, h2⟩)
end Go.Proofs.Ytpblmaklbnpbfaa
