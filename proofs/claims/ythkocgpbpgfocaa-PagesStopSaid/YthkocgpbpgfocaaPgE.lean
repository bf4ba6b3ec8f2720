/- PAGES: Drop in plain words; a page fewer. -/
import Derived.Test.YthkocgpbpgfocaaPgV
import Derived.Test.YthkocgpbpgfocaaPgB
namespace Go.Proofs.Ythkocgpbpgfocaa
open Go.RowKit

def delAt {α : Type} (l : List α) (j : Nat) : List α := l.take j ++ l.drop (j + 1)
theorem delAt_len {α : Type} (l : List α) (j : Nat) (h : j < l.length) : (delAt l j).length = l.length - 1 := by unfold delAt; rw [List.length_append, List.length_take, List.length_drop]; omega
theorem delAt_at {α : Type} (l : List α) (j : Nat) (h : j < l.length) (q : Nat) (hq : q < (delAt l j).length) : (q < j ∧ ∃ h2 : q < l.length, (delAt l j)[q] = l[q]) ∨ (j ≤ q ∧ ∃ h2 : q + 1 < l.length, (delAt l j)[q] = l[q + 1]) := by
  have hl := delAt_len l j h
  have e1 : (l.take j).length = j := by rw [List.length_take]; omega
  have hs := List.getElem?_eq_getElem hq
  rcases Nat.lt_or_ge q j with h1 | h1
  · have h2 : q < l.length := by omega
    refine .inl ⟨h1, h2, ?_⟩
    have e : (delAt l j)[q]? = l[q]? := by unfold delAt; rw [List.getElem?_append_left (by omega), List.getElem?_take_of_lt h1]
    rw [hs, List.getElem?_eq_getElem h2] at e
    exact Option.some.inj e
  · have h2 : q + 1 < l.length := by omega
    refine .inr ⟨h1, h2, ?_⟩
    have e : (delAt l j)[q]? = l[q + 1]? := by
      unfold delAt
      rw [List.getElem?_append_right (by omega), e1, List.getElem?_drop]
      congr 1
      omega
    rw [hs, List.getElem?_eq_getElem h2] at e
    exact Option.some.inj e
theorem delAt_sub {α : Type} (l : List α) (j : Nat) : (delAt l j).Sublist l := by
  unfold delAt
  conv => rhs; rw [← List.take_append_drop j l]
  exact (List.Sublist.refl _).append (by
    rw [show j + 1 = j + 1 from rfl, ← List.drop_drop]
    exact List.drop_sublist _ _)
/-- What mend makes of the pages. -/
def twoF (both : List GPair) : List (List GPair) := if both.length ≤ 8 then [both] else [both.take (both.length / 2), both.drop (both.length / 2)]
def mendF (L : List (List GPair)) (i : Nat) : List (List GPair) :=
  if L.length = 1 then (if (L.getD 0 []).length = 0 then [] else L)
  else if 4 ≤ (L.getD i []).length then L
  else L.take (i - 1) ++ twoF (L.getD (i - 1) [] ++ L.getD (i - 1 + 1) []) ++ L.drop (i - 1 + 2)
def dropF (L : List (List GPair)) (i k : Nat) : List (List GPair) := mendF (L.set i (delAt (L.getD i []) k)) i
theorem twoF_flat (b : List GPair) : (twoF b).flatten = b := by
  unfold twoF
  split <;> simp
theorem split2 {α : Type} {L : List (List α)} {a : Nat} (h : a + 1 < L.length) : L = L.take a ++ [L[a], L[a + 1]] ++ L.drop (a + 2) := by
  conv => lhs; rw [← List.take_append_drop a L, ← List.getElem_cons_drop (show a < L.length by omega), ← List.getElem_cons_drop h]
  simp
theorem mendF_flat {L : List (List GPair)} {i : Nat} (hi : i < L.length) : (mendF L i).flatten = L.flatten := by
  unfold mendF
  split
  · rename_i h1
    split
    · rename_i h2
      match L, h1 with
      | [l], _ =>
        have : l = [] := List.eq_nil_of_length_eq_zero h2
        subst this
        rfl
    · rfl
  · split
    · rfl
    · have h : i - 1 + 1 < L.length := by omega
      rw [List.getD_eq_getElem?_getD, List.getD_eq_getElem?_getD, List.getElem?_eq_getElem (show i - 1 < L.length by omega), List.getElem?_eq_getElem h, Option.getD_some, Option.getD_some, List.flatten_append, List.flatten_append, twoF_flat]
      refine Eq.trans ?_ (congrArg List.flatten (split2 h)).symm
      rw [List.flatten_append, List.flatten_append]
      simp only [List.flatten_cons, List.flatten_nil, List.append_nil]
structure Near (L : List (List GPair)) (i : Nat) : Prop where
  hi : i < L.length
  le : ∀ l ∈ L, l.length ≤ 8
  ot : 1 < L.length → ∀ j (h : j < L.length), (j ≠ i → 4 ≤ L[j].length) ∧ 3 ≤ L[j].length
theorem twoF_ok {b : List GPair} (h1 : 7 ≤ b.length) (h2 : b.length ≤ 16) : ∀ l ∈ twoF b, 4 ≤ l.length ∧ l.length ≤ 8 := by
  intro l hl
  unfold twoF at hl
  split at hl
  · simp only [List.mem_singleton] at hl
    subst hl
    omega
  · simp only [List.mem_cons, List.not_mem_nil, or_false] at hl
    rcases hl with rfl | rfl
    · rw [List.length_take]; omega
    · rw [List.length_drop]; omega
theorem mendF_ok {L : List (List GPair)} {i : Nat} (N : Near L i) : PagesOk (mendF L i) := by
  have hi := N.hi
  unfold mendF
  split
  · rename_i h1
    split
    · exact ⟨fun l hl => by simp at hl, fun h => by simp at h⟩
    · rename_i h2
      match L, h1 with
      | [l], _ =>
        have h2 : ¬ l.length = 0 := h2
        exact ⟨fun m hm => by
          have := N.le m hm
          rw [List.mem_singleton] at hm
          subst hm
          omega, fun h => by simp at h⟩
  · rename_i h1
    have h2 : 1 < L.length := by omega
    split
    · rename_i h3
      rw [List.getD_eq_getElem?_getD, List.getElem?_eq_getElem hi, Option.getD_some] at h3
      have h4 : ∀ l ∈ L, 4 ≤ l.length := fun l hl => by
        obtain ⟨j, hj, rfl⟩ := List.mem_iff_getElem.1 hl
        by_cases e : j = i
        · subst e; exact h3
        · exact (N.ot h2 j hj).1 e
      exact ⟨fun l hl => ⟨by have := h4 l hl; omega, N.le l hl⟩, fun _ => h4⟩
    · rename_i h3
      rw [List.getD_eq_getElem?_getD, List.getElem?_eq_getElem hi, Option.getD_some] at h3
      have h : i - 1 + 1 < L.length := by omega
      rw [List.getD_eq_getElem?_getD, List.getD_eq_getElem?_getD, List.getElem?_eq_getElem (show i - 1 < L.length by omega), List.getElem?_eq_getElem h, Option.getD_some, Option.getD_some]
      have ha := N.ot h2 (i - 1) (by omega)
      have hb := N.ot h2 (i - 1 + 1) h
      have la := N.le _ (List.getElem_mem (show i - 1 < L.length by omega))
      have lb := N.le _ (List.getElem_mem h)
      have hsum : 7 ≤ (L[i - 1] ++ L[i - 1 + 1]).length := by
        rw [List.length_append]
        rcases Nat.eq_zero_or_pos i with e | e
        · have := hb.1 (by omega); omega
        · have := ha.1 (by omega); omega
      have h4 : ∀ l ∈ L.take (i - 1) ++ twoF (L[i - 1] ++ L[i - 1 + 1]) ++ L.drop (i - 1 + 2), 4 ≤ l.length ∧ l.length ≤ 8 := fun l hl => by
        rw [List.mem_append, List.mem_append] at hl
        rcases hl with (hl | hl) | hl
        · obtain ⟨q, hq, rfl⟩ := List.mem_iff_getElem.1 hl
          rw [List.length_take] at hq
          rw [List.getElem_take]
          exact ⟨(N.ot h2 q (by omega)).1 (by omega), N.le _ (List.getElem_mem _)⟩
        · exact twoF_ok hsum (by rw [List.length_append]; omega) l hl
        · obtain ⟨q, hq, rfl⟩ := List.mem_iff_getElem.1 hl
          rw [List.length_drop] at hq
          rw [List.getElem_drop]
          exact ⟨(N.ot h2 (i - 1 + 2 + q) (by omega)).1 (by omega), N.le _ (List.getElem_mem _)⟩
      exact ⟨fun l hl => ⟨by have := (h4 l hl).1; omega, (h4 l hl).2⟩, fun _ l hl => (h4 l hl).1⟩
theorem near_of {L : List (List GPair)} (ok : PagesOk L) {i k : Nat} (hi : i < L.length) (hk : k < L[i].length) : Near (L.set i (delAt (L.getD i []) k)) i := by
  have e : L.getD i [] = L[i] := by rw [List.getD_eq_getElem?_getD, List.getElem?_eq_getElem hi, Option.getD_some]
  rw [e]
  have hl := delAt_len L[i] k hk
  have o1 := ok.one _ (List.getElem_mem hi)
  refine ⟨by rw [List.length_set]; exact hi, fun l h => ?_, fun h2 j hj => ?_⟩
  · rcases List.mem_or_eq_of_mem_set h with h | rfl
    · exact (ok.one l h).2
    · omega
  · rw [List.length_set] at h2 hj
    rw [List.getElem_set]
    have h4 := ok.many h2 _ (List.getElem_mem hj)
    split
    · rename_i e
      subst e
      have := ok.many h2 _ (List.getElem_mem hi)
      exact ⟨fun h => absurd rfl h, by omega⟩
    · exact ⟨fun _ => h4, by omega⟩
def cutK (l : List GPair) (key : List UInt8) : List GPair := l.filter (fun y => decide (y.fKey ≠ key))
theorem dropF_flat {L : List (List GPair)} {i k : Nat} {key : List UInt8} (hr : RisingL L) (F : FindP L key i k true) : (dropF L i k).flatten = cutK L.flatten key := by
  obtain ⟨hi, hk, lo, up, yes, no⟩ := F
  obtain ⟨hk2, hkey⟩ := yes rfl
  unfold dropF
  have e : L.getD i [] = L[i] := by rw [List.getD_eq_getElem?_getD, List.getElem?_eq_getElem hi, Option.getD_some]
  rw [mendF_flat (by rw [List.length_set]; exact hi), e, flat_setL hi]
  have e2 := flat_split hi k
  have er := hr
  unfold RisingL at er
  rw [e2, ← List.getElem_cons_drop hk2] at er ⊢
  rw [List.pairwise_append] at er
  have h2 := er.2.1
  rw [List.cons_append, List.pairwise_cons] at h2
  unfold cutK delAt
  rw [List.filter_append, List.cons_append, List.filter_cons, if_neg (by simp [hkey]), List.filter_eq_self.2 (fun y hy => by
    have h3 := er.2.2 y hy _ (by rw [List.cons_append]; exact List.mem_cons_self)
    unfold ltP at h3
    rw [hkey] at h3
    simp [ltB_ne h3]), List.filter_eq_self.2 (fun y hy => by
    have h3 := h2.1 y hy
    unfold ltP at h3
    rw [hkey] at h3
    simp [(ltB_ne h3).symm])]
  simp only [List.append_assoc]
theorem cutK_rising {l : List GPair} (h : l.Pairwise ltP) (key : List UInt8) : (cutK l key).Pairwise ltP := h.filter _
/-- Els behind a deletion. -/
theorem Els.delK {w : World} {p : Nat → Prop} {css : List (List Value)} {xs : List GPair} (h : Els rGPair w p css xs) (j : Nat) : Els rGPair w p (delAt css j) (delAt xs j) := by
  have h1 := (h.takeN j)
  have h2 := (h.dropN (j + 1))
  unfold delAt
  refine ⟨by rw [List.length_append, List.length_append, h1.1, h2.1], fun i c x hc hx => ?_⟩
  by_cases e : i < (css.take j).length
  · rw [List.getElem?_append_left e] at hc
    rw [List.getElem?_append_left (by rw [← h1.1]; exact e)] at hx
    exact h1.2 i c x hc hx
  · rw [List.getElem?_append_right (by omega)] at hc
    rw [List.getElem?_append_right (by rw [← h1.1]; omega), ← h1.1] at hx
    exact h2.2 _ c x hc hx
theorem Els.app {w : World} {p : Nat → Prop} {c1 c2 : List (List Value)} {l1 l2 : List GPair} (h1 : Els rGPair w p c1 l1) (h2 : Els rGPair w p c2 l2) : Els rGPair w p (c1 ++ c2) (l1 ++ l2) := by
  refine ⟨by rw [List.length_append, List.length_append, h1.1, h2.1], fun i c x hc hx => ?_⟩
  by_cases e : i < c1.length
  · rw [List.getElem?_append_left e] at hc
    rw [List.getElem?_append_left (by rw [← h1.1]; exact e)] at hx
    exact h1.2 i c x hc hx
  · rw [List.getElem?_append_right (by omega)] at hc
    rw [List.getElem?_append_right (by rw [← h1.1]; omega), ← h1.1] at hx
    exact h2.2 _ c x hc hx
/-- The row of pages is one shorter, and lies where it lay. -/
theorem MapIs.delPage {w w' : World} {O B : Nat → Prop} {g : Nat} {aP : Option Addr} {cP : Nat} {S : List Value} {L : List (List GPair)} (M : MapIs w O B g aP cP S L) {j : Nat} (hj : j < L.length) {T : Nat → Prop} (k : Keep T w w')
    (hT : ∀ b, T b → OwnB (.slice aP L.length cP) b ∨ b = g) (row' : RowIs w' g 65 [.slice aP (L.length - 1) cP]) (own' : w'.ownsRow 0 22 1 (.slice aP (L.length - 1) cP) (L.length - 1) (delAt S j)) :
    MapIs w' O B g aP cP (delAt S j) (delAt L j) := by
  have hSl := M.len
  have hLl := delAt_len L j hj
  have hSS := delAt_len S j (by omega)
  have hmem : ∀ u ∈ delAt S j, u ∈ S := fun u hu => (delAt_sub S j).mem hu
  have hPQ : ∀ b, OwnB (.slice aP (L.length - 1) cP) b ↔ OwnB (.slice aP L.length cP) b := fun b => by cases aP <;> exact Iff.rfl
  have hSO : ∀ u ∈ S, ∀ b, OwnB u b → ¬ T b := fun u hu b hb h => by
    rcases hT b h with h | h
    · exact (M.oS u hu b hb).2.2 h
    · exact (M.oS u hu b hb).2.1 h
  have hBT : ∀ b, B b → ¬ T b := fun b hb h => by
    rcases hT b h with h | h
    · exact (M.oB b hb).2.2.1 h
    · exact (M.oB b hb).2.1 h
  have hpgS : ∀ q (hq : q < L.length), ∃ h' : q < S.length, PageIs w' B S[q] L[q] := fun q hq => by
    obtain ⟨h', p⟩ := M.pg q hq
    exact ⟨h', p.keep k (hSO _ (List.getElem_mem h')) hBT⟩
  refine { row := by rw [hLl]; exact row', own := by rw [hLl]; exact own', pg := fun q h => ?_, og := M.og, oP := fun b hb => M.oP b ((hPQ b).1 (by rw [hLl] at hb; exact hb)), oS := fun u hu b hb => ?_, oB := fun b hb => ?_, ap := M.ap.sublist (delAt_sub S j), lt := fun b hb => Nat.lt_of_lt_of_le (M.lt b hb) k.size }
  · have hq2 : q < (delAt S j).length := by omega
    refine ⟨hq2, ?_⟩
    rcases delAt_at L j hj q h with ⟨h1, h2, e1⟩ | ⟨h1, h2, e1⟩
    · rcases delAt_at S j (by omega) q hq2 with ⟨_, h3, e2⟩ | ⟨h4, _⟩
      · rw [e1, e2]; exact (hpgS q h2).2
      · omega
    · rcases delAt_at S j (by omega) q hq2 with ⟨h4, _⟩ | ⟨_, h3, e2⟩
      · omega
      · rw [e1, e2]; exact (hpgS (q + 1) h2).2
  · rw [hLl]
    have := M.oS u (hmem u hu) b hb
    exact ⟨this.1, this.2.1, fun h => this.2.2 ((hPQ b).1 h)⟩
  · rw [hLl]
    obtain ⟨o1, o2, o3, o4⟩ := M.oB b hb
    exact ⟨o1, o2, fun h => o3 ((hPQ b).1 h), fun u hu => o4 u (hmem u hu)⟩
end Go.Proofs.Ythkocgpbpgfocaa
