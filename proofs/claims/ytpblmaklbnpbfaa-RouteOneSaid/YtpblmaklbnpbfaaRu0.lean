/- ROUTE: each key has one group; cut and moved (no program in sight). Printed by mac.py. -/
import Derived.Test.YtpblmaklbnpbfaaRtS
import Derived.Test.YtpblmaklbnpbfaaRtY
namespace Go.Proofs.Ytpblmaklbnpbfaa
open Go.RowKit

theorem within_meet {a b : GSpan} {key : List UInt8} (h1 : withinF a key = true) (h2 : withinF b key = true) : meetF a b = true := by
  unfold withinF at h1 h2
  simp only [Bool.and_eq_true, Bool.not_eq_true', Bool.or_eq_true] at h1 h2
  have hf : ltB key (partFrom a b) = false := by
    unfold partFrom
    split
    · exact h2.1
    · exact h1.1
  unfold meetF
  simp only [Bool.and_eq_true, Bool.or_eq_true]
  exact ⟨h1.2.imp id (fun h => ltB_ge_lt hf h), h2.2.imp id (fun h => ltB_ge_lt hf h)⟩
theorem lt_max (key a b : List UInt8) : ltB key (if ltB a b then b else a) = (ltB key a || ltB key b) := by
  cases h : ltB a b with
  | true =>
    cases h1 : ltB key a with
    | true => rw [if_pos rfl, ltB_trans h1 h]; rfl
    | false => rw [if_pos rfl]; rfl
  | false =>
    rw [if_neg (by decide)]
    cases h2 : ltB key b with
    | true => rw [ltB_lt_ge h2 h]; rfl
    | false => rw [Bool.or_false]
theorem lt_min (key a b : List UInt8) : ltB key (if ltB b a then b else a) = (ltB key a && ltB key b) := by
  cases h : ltB b a with
  | true =>
    rw [if_pos rfl]
    cases h1 : ltB key b with
    | true => rw [ltB_trans h1 h]; rfl
    | false => rw [Bool.and_false]
  | false =>
    rw [if_neg (by decide)]
    cases h1 : ltB key a with
    | true => rw [ltB_lt_ge h1 h]; rfl
    | false => rfl
theorem within_part {x s : GSpan} {key : List UInt8} (hx : x.fTo ≠ []) (h : withinF x key = true) : ((rPartX x s).2 && withinF (rPartX x s).1 key) = withinF s key := by
  have hx' : x.fTo.isEmpty = false := by simpa using hx
  have h0 := h
  unfold withinF at h0
  rw [hx'] at h0
  simp only [Bool.and_eq_true, Bool.not_eq_true', Bool.false_or] at h0
  obtain ⟨h1, h2⟩ := h0
  have hw : withinF ⟨rFrom x s, rTo x s⟩ key = withinF s key := by
    unfold withinF rFrom
    rw [lt_max, h1, Bool.false_or]
    show (!ltB key s.fFrom && ((rTo x s).isEmpty || ltB key (rTo x s))) = _
    congr 1
    unfold rTo
    cases hs : s.fTo.isEmpty with
    | true => simp [hx', h2]
    | false =>
      have e : (if (!false && ltB s.fTo x.fTo) = true then s.fTo else x.fTo) = if ltB s.fTo x.fTo then s.fTo else x.fTo := rfl
      rw [e, lt_min, h2]
      have : (if ltB s.fTo x.fTo then s.fTo else x.fTo).isEmpty = false := by split <;> assumption
      rw [this]; rfl
  unfold rPartX
  rw [hx']
  cases hm : meetF x s with
  | true => exact hw
  | false =>
    cases hs : withinF s key with
    | false => rfl
    | true => rw [within_meet h hs] at hm; cases hm
/-- The last one that is not behind the key. -/
theorem entry_at {r : GRoutes} (R : RightP r) (t : List UInt8) : ∀ m, 0 < m → m ≤ r.fSpans.length → ∃ k, ∃ h : k < r.fSpans.length, k < m ∧ entryF (120 :: t) (r.fSpans.take m) = r.fSpans[k].fGroup ∧ ltB (120 :: t) (fromAt r.fSpans k) = false ∧ ∀ j, k < j → j < m → ltB (120 :: t) (fromAt r.fSpans j) = true
  | 0, h, _ => absurd h (Nat.lt_irrefl _)
  | 1, _, h => by
    refine ⟨0, by omega, by omega, ?_, ?_, fun j h1 h2 => by omega⟩
    · rw [List.take_succ_eq_append_getElem (by omega)]; rfl
    · rw [R.first, ltB_cons, ltB_nil]; rfl
  | m + 2, _, h => by
    obtain ⟨k, hk, hkm, h1, h2, h3⟩ := entry_at R t (m + 1) (by omega) (by omega)
    have hlt : m + 1 < r.fSpans.length := by omega
    have hne : r.fSpans.take (m + 1) ≠ [] := fun e => by have := congrArg List.length e; rw [List.length_take, List.length_nil] at this; omega
    rw [List.take_succ_eq_append_getElem hlt, entryF_snoc _ _ _ hne]
    have hf := fromAt_lt hlt
    cases hv : ltB (120 :: t) r.fSpans[m + 1].fFrom with
    | true =>
      refine ⟨k, hk, by omega, h1, h2, fun j hj hj2 => ?_⟩
      by_cases e : j = m + 1
      · subst e; rw [hf]; exact hv
      · exact h3 j hj (by omega)
    | false => exact ⟨m + 1, hlt, by omega, rfl, by rw [hf]; exact hv, fun j h4 h5 => by omega⟩
theorem entry_in {r : GRoutes} (R : RightP r) (t : List UInt8) : ∃ k, ∃ h : k < r.fSpans.length, entryF (120 :: t) r.fSpans = r.fSpans[k].fGroup ∧ withinF (spanF r.fSpans k) (120 :: t) = true := by
  obtain ⟨k, hk, _, h1, h2, h3⟩ := entry_at R t r.fSpans.length R.len.1 (Nat.le_refl _)
  rw [List.take_length] at h1
  refine ⟨k, hk, h1, ?_⟩
  have h4 : ltB (120 :: t) (fromAt r.fSpans (k + 1)) = true := by
    by_cases h : k + 1 < r.fSpans.length
    · exact h3 (k + 1) (by omega) h
    · rw [fromAt_ge (Nat.not_lt.1 h)]; rfl
  unfold withinF spanF
  simp only [h2, h4]; simp
/-- What a key's group is like: rows', entries', none. -/
theorem group_cases {r : GRoutes} (R : RightP r) (l : List UInt8) :
    (∃ t, l = 114 :: t ∧ groupF r l = baseF r.fBase l ∧ 1 ≤ groupF r l ∧ groupF r l ≤ r.fBase) ∨
    (∃ t k, ∃ h : k < r.fSpans.length, l = 120 :: t ∧ groupF r l = entryF l r.fSpans ∧ groupF r l = r.fSpans[k].fGroup ∧ withinF (spanF r.fSpans k) l = true) ∨
    ((∀ c t, l = c :: t → c ≠ 114 ∧ c ≠ 120) ∧ groupF r l = 0) := by
  cases l with
  | nil => exact .inr (.inr ⟨fun c t e => (by cases e), rfl⟩)
  | cons c t =>
    by_cases h1 : c = 114
    · subst h1
      have e : groupF r (114 :: t) = baseF r.fBase (114 :: t) := rfl
      exact .inl ⟨t, rfl, e, by rw [e]; exact (baseF_in R.base _).1, by rw [e]; exact (baseF_in R.base _).2⟩
    · by_cases h2 : c = 120
      · subst h2
        obtain ⟨k, hk, h3, h4⟩ := entry_in R t
        have e : groupF r (120 :: t) = entryF (120 :: t) r.fSpans := rfl
        exact .inr (.inl ⟨t, k, hk, rfl, e, by rw [e]; exact h3, h4⟩)
      · refine .inr (.inr ⟨fun c' t' e => by cases e; exact ⟨h1, h2⟩, ?_⟩)
        unfold groupF
        simp only [h1, h2, if_false]
theorem to_ne' {r : GRoutes} (R : RightP r) (k : Nat) : (spanF r.fSpans k).fTo ≠ [] := by
  obtain ⟨c, t, e, _⟩ := R.to_ne k
  show fromAt r.fSpans (k + 1) ≠ []
  rw [e]; simp
/-- The keys of the group that a key has: it is one of them. -/
theorem own_in {r : GRoutes} (R : RightP r) (l : List UInt8) (h : 0 < groupF r l) : (rownF r (groupF r l)).fTo ≠ [] ∧ withinF (rownF r (groupF r l)) l = true := by
  rcases group_cases R l with ⟨t, rfl, _, h1, h2⟩ | ⟨t, k, hk, rfl, _, h1, h2⟩ | ⟨_, h1⟩
  · unfold rownF
    rw [if_pos ⟨h1, h2⟩]
    refine ⟨by simp, ?_⟩
    show (!ltB (114 :: t) [114] && (false || ltB (114 :: t) [115])) = true
    rw [ltB_cons, ltB_nil]; rfl
  · rw [h1]
    have hg := (R.owner k hk).1
    unfold rownF
    rw [if_neg (by omega), R.owned k hk]
    exact ⟨to_ne' R k, h2⟩
  · omega
theorem one_part {r : GRoutes} (R : RightP r) (l : List UInt8) (s : GSpan) (h : 0 < groupF r l) : ((PartF r (groupF r l) s).2 && withinF (PartF r (groupF r l) s).1 l) = withinF s l := by
  obtain ⟨h1, h2⟩ := own_in R l h
  rw [Part_eq]
  exact within_part h1 h2
theorem one_owned {r : GRoutes} (R : RightP r) (l : List UInt8) (h : r.fBase < groupF r l) : withinF (ownedF r.fSpans (groupF r l)) l = true := by
  have hb := R.base
  have h2 := (own_in R l (by omega)).2
  unfold rownF at h2
  rw [if_neg (by omega)] at h2
  exact h2
theorem baseL_mem {n : Nat} {a : Int} (h1 : 1 ≤ a) (h2 : a ≤ (n : Int)) : a ∈ baseL n := by
  unfold baseL
  simp only [List.mem_map, List.mem_range]
  exact ⟨(a - 1).toNat, by omega, by omega⟩
theorem one_over {r : GRoutes} (R : RightP r) (l : List UInt8) (s : GSpan) (h : 0 < groupF r l) (hs : withinF s l = true) : groupF r l ∈ overF r s := by
  rw [over_both R]
  unfold rOverF
  rw [List.mem_append]
  rcases group_cases R l with ⟨t, rfl, _, h1, h2⟩ | ⟨t, k, hk, rfl, _, h1, h2⟩ | ⟨_, h1⟩
  · left
    have hx := (own_in R (114 :: t) h).2
    unfold rownF at hx
    rw [if_pos ⟨h1, h2⟩] at hx
    unfold rRowsL
    rw [within_meet hs hx]
    exact baseL_mem h1 (by have := R.base; omega)
  · right
    have ho := R.owner k hk
    rw [mem_rEntL, h1]
    refine ⟨⟨ho.1, ho.2.1⟩, ?_⟩
    unfold meetG
    rw [ho.2.2.1]
    exact within_meet hs h2
  · omega
/-! ### cut and moved -/
abbrev stepE (key : List UInt8) : Int → GOwner → Int := fun g o => if ltB key o.fFrom then g else o.fGroup
theorem entry_app (key : List UInt8) {l1 : List GOwner} (h : l1 ≠ []) (l2 : List GOwner) : entryF key (l1 ++ l2) = l2.foldl (stepE key) (entryF key l1) := by
  cases l1 with
  | nil => exact absurd rfl h
  | cons o l1 => show List.foldl _ _ (l1 ++ l2) = _; rw [List.foldl_append]; rfl
theorem fold_miss (key : List UInt8) : ∀ (l : List GOwner) (a : Int), (∀ o ∈ l, ltB key o.fFrom = true) → l.foldl (stepE key) a = a
  | [], _, _ => rfl
  | o :: l, a, h => by
    have h1 : stepE key a o = a := by show (if ltB key o.fFrom then a else o.fGroup) = a; rw [h o (by simp)]; rfl
    rw [List.foldl_cons, h1]
    exact fold_miss key l a (fun o ho => h o (by simp [ho]))
theorem fold_hit (key : List UInt8) : ∀ (l : List GOwner) (a : Int), (∃ o ∈ l, ltB key o.fFrom = false) → (∃ o ∈ l, l.foldl (stepE key) a = o.fGroup) ∧ ∀ b, l.foldl (stepE key) a = l.foldl (stepE key) b
  | [], _, h => by obtain ⟨o, ho, _⟩ := h; cases ho
  | o :: l, a, h => by
    by_cases h2 : ∃ o ∈ l, ltB key o.fFrom = false
    · obtain ⟨⟨o', ho', h3⟩, h4⟩ := fold_hit key l (stepE key a o) h2
      exact ⟨⟨o', by simp [ho'], h3⟩, fun b => by rw [List.foldl_cons, List.foldl_cons]; exact h4 _⟩
    · have h3 : ∀ o ∈ l, ltB key o.fFrom = true := fun o ho => by
        cases e : ltB key o.fFrom with
        | true => rfl
        | false => exact absurd ⟨o, ho, e⟩ h2
      have h4 : ltB key o.fFrom = false := by
        obtain ⟨o', ho', h5⟩ := h
        rcases List.mem_cons.1 ho' with rfl | ho'
        · exact h5
        · exact absurd ⟨o', ho', h5⟩ h2
      have h5 : ∀ a, stepE key a o = o.fGroup := fun a => by show (if ltB key o.fFrom then a else o.fGroup) = _; rw [h4]; rfl
      refine ⟨⟨o, by simp, ?_⟩, fun b => ?_⟩
      · rw [List.foldl_cons, h5, fold_miss key l _ h3]
      · rw [List.foldl_cons, List.foldl_cons, h5, h5]
theorem moved_entry {r : GRoutes} (R : RightP r) (key at' : List UInt8) (tg : Int) (k : Nat) (hk : k < r.fSpans.length) (hat : ltB (fromAt r.fSpans k) at' = true) :
    entryF key (insG r.fSpans (k + 1) ⟨tg, at'⟩) = if entryF key r.fSpans = r.fSpans[k].fGroup ∧ ltB key at' = false then tg else entryF key r.fSpans := by
  have hne : r.fSpans.take (k + 1) ≠ [] := fun e => by have := congrArg List.length e; rw [List.length_take, List.length_nil] at this; omega
  have e1 : entryF key r.fSpans = (r.fSpans.drop (k + 1)).foldl (stepE key) (entryF key (r.fSpans.take (k + 1))) := by
    conv => lhs; rw [← List.take_append_drop (k + 1) r.fSpans]
    exact entry_app key hne _
  have e2 : entryF key (insG r.fSpans (k + 1) ⟨tg, at'⟩) = (r.fSpans.drop (k + 1)).foldl (stepE key) (stepE key (entryF key (r.fSpans.take (k + 1))) ⟨tg, at'⟩) := by
    unfold insG
    rw [entry_app key hne, List.foldl_cons]
  by_cases hd : ∃ o ∈ r.fSpans.drop (k + 1), ltB key o.fFrom = false
  · obtain ⟨⟨o, ho, h1⟩, h2⟩ := fold_hit key _ (entryF key (r.fSpans.take (k + 1))) hd
    rw [e2, ← h2, ← e1, if_neg]
    rintro ⟨h3, -⟩
    rw [← e1, h3] at h1
    obtain ⟨j, hj, rfl⟩ := List.mem_iff_getElem.1 ho
    rw [List.length_drop] at hj
    rw [List.getElem_drop] at h1
    have a1 := (R.owner k hk).2.2.1
    have a2 := (R.owner (k + 1 + j) (by omega)).2.2.1
    rw [h1, a2] at a1
    have a3 := Option.some.inj a1
    omega
  · have h3 : ∀ o ∈ r.fSpans.drop (k + 1), ltB key o.fFrom = true := fun o ho => by
      cases e : ltB key o.fFrom with
      | true => rfl
      | false => exact absurd ⟨o, ho, e⟩ hd
    rw [fold_miss key _ _ h3] at e1 e2
    rw [e2, e1]
    show (if ltB key at' then _ else tg) = _
    cases hv : ltB key at' with
    | true => rw [if_pos rfl, if_neg (by rintro ⟨_, h⟩; cases h)]
    | false =>
      refine (if_neg (by decide)).trans (Eq.symm (if_pos ⟨?_, rfl⟩))
      have hf : ltB key r.fSpans[k].fFrom = false := by
        cases e : ltB key r.fSpans[k].fFrom with
        | false => rfl
        | true => rw [← fromAt_lt hk] at e; rw [ltB_trans e hat] at hv; cases hv
      rw [List.take_succ_eq_append_getElem hk]
      rcases Nat.eq_zero_or_pos k with h0 | h0
      · subst h0; rfl
      · rw [entryF_snoc _ _ _ (fun e => by have := congrArg List.length e; rw [List.length_take, List.length_nil] at this; omega), hf]; rfl
/-- What a cut that is done says. -/
theorem cut_ok {r : GRoutes} {g : Int} {l : List UInt8} (h : (cutF r g l).2 = 0) : ∃ k, ∃ hk : k < r.fSpans.length, cutF r g l = (⟨upI r.fEpoch, r.fBase, r.fSpans, g, l⟩, 0) ∧ placeI g r.fSpans = (k : Int) ∧ r.fSpans[k].fGroup = g ∧ ltB (fromAt r.fSpans k) l = true := by
  unfold cutF at h ⊢
  by_cases h1 : r.fMoving ≠ 0
  · rw [if_pos h1] at h; cases h
  rw [if_neg h1] at h ⊢
  by_cases h2 : placeI g r.fSpans < 0
  · rw [if_pos h2] at h; cases h
  rw [if_neg h2] at h ⊢
  by_cases h3 : (!behindF r.fSpans g l) = true ∨ 600 < l.length
  · rw [if_pos h3] at h; cases h
  rw [if_neg h3]
  rcases place_cases g r.fSpans with ⟨_, e, _⟩ | ⟨k, hk, e1, e2, e3, _⟩
  · omega
  · refine ⟨k, hk, rfl, e2, e3, ?_⟩
    have hb : behindF r.fSpans g l = true := by
      cases e : behindF r.fSpans g l with
      | true => rfl
      | false => exact absurd (.inl (by rw [e]; rfl)) h3
    unfold behindF ownedF at hb
    rw [e1] at hb
    simp only [Bool.and_eq_true] at hb
    exact hb.2.1
theorem moved_ok {n : GRoutes} {tg : Int} (h : (movedF n tg).2 = 0) : movedF n tg = (stillF (newRF n tg), 0) := by
  unfold movedF at h ⊢
  by_cases h1 : n.fMoving = 0
  · rw [if_pos h1] at h; cases h
  rw [if_neg h1] at h ⊢
  by_cases h2 : 0 ≤ placeI tg n.fSpans ∨ tg ≤ n.fBase ∨ n.fBase + 4 < tg
  · rw [if_pos h2] at h; cases h
  rw [if_neg h2]
theorem group_cut (r : GRoutes) (e g : Int) (l key : List UInt8) : groupF ⟨e, r.fBase, r.fSpans, g, l⟩ key = groupF r key := by
  cases key <;> rfl
theorem one_moved {r : GRoutes} (R : RightP r) (g tg : Int) (l key : List UInt8) (k : Nat) (hk : k < r.fSpans.length) (hp : placeI g r.fSpans = (k : Int)) (hg : r.fSpans[k].fGroup = g) (hl : ltB (fromAt r.fSpans k) l = true) :
    groupF (stillF (newRF ⟨upI r.fEpoch, r.fBase, r.fSpans, g, l⟩ tg)) key = if groupF r key = g ∧ ltB key l = false then tg else groupF r key := by
  have hS : (stillF (newRF ⟨upI r.fEpoch, r.fBase, r.fSpans, g, l⟩ tg)) = ⟨upI (upI r.fEpoch), r.fBase, insG r.fSpans (k + 1) ⟨tg, l⟩, 0, []⟩ := by
    unfold stillF newRF
    simp only [hp, show ((k : Int) + 1).toNat = k + 1 by omega]
  rw [hS]
  have ho := (R.owner k hk).1
  have hb := R.base
  rcases group_cases R key with ⟨t, rfl, e, h1, h2⟩ | ⟨t, j, hj, rfl, e, h1, h2⟩ | ⟨h1, h2⟩
  · rw [if_neg (by rintro ⟨h, -⟩; omega)]; rfl
  · rw [e, ← hg]
    exact moved_entry R (120 :: t) l tg k hk hl
  · rw [if_neg (by rintro ⟨h, -⟩; omega), h2]
    cases key with
    | nil => rfl
    | cons c t =>
      obtain ⟨h3, h4⟩ := h1 c t rfl
      unfold groupF
      simp only [h3, h4, if_false]
end Go.Proofs.Ytpblmaklbnpbfaa
