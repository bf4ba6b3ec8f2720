/- PAGES: plain words: what Put makes of the whole list. -/
import Derived.Test.YthkocgpbpgfocaaPgA
namespace Go.Proofs.Ythkocgpbpgfocaa

def putS (l : List GPair) (x : GPair) : List GPair := l.filter (fun y => ltB y.fKey x.fKey) ++ x :: l.filter (fun y => ltB x.fKey y.fKey)
theorem ltB_ne {a b : List UInt8} (h : ltB a b = true) : a ≠ b := fun e => by rw [e, ltB_irrefl] at h; cases h
theorem ltB_or {a b : List UInt8} (h : a ≠ b) : ltB a b = true ∨ ltB b a = true := by
  cases h1 : ltB a b with
  | true => exact .inl rfl
  | false =>
    cases h2 : ltB b a with
    | true => exact .inr rfl
    | false => exact absurd (ltB_total h1 h2) h
theorem mem_putS {l : List GPair} {x y : GPair} : y ∈ putS l x ↔ y = x ∨ (y ∈ l ∧ y.fKey ≠ x.fKey) := by
  unfold putS
  simp only [List.mem_append, List.mem_cons, List.mem_filter]
  constructor
  · rintro (⟨h1, h2⟩ | rfl | ⟨h1, h2⟩)
    · exact .inr ⟨h1, ltB_ne h2⟩
    · exact .inl rfl
    · exact .inr ⟨h1, fun e => ltB_ne h2 e.symm⟩
  · rintro (rfl | ⟨h1, h2⟩)
    · exact .inr (.inl rfl)
    · rcases ltB_or h2 with h | h
      · exact .inl ⟨h1, h⟩
      · exact .inr (.inr ⟨h1, h⟩)
theorem rising_putS {l : List GPair} (h : l.Pairwise ltP) (x : GPair) : (putS l x).Pairwise ltP := by
  unfold putS
  rw [List.pairwise_append, List.pairwise_cons]
  refine ⟨h.filter _, ⟨fun y hy => (List.mem_filter.1 hy).2, h.filter _⟩, fun a ha b hb => ?_⟩
  have h1 : ltB a.fKey x.fKey = true := (List.mem_filter.1 ha).2
  rcases List.mem_cons.1 hb with rfl | hb
  · exact h1
  · exact ltB_trans h1 (List.mem_filter.1 hb).2
theorem len_putS (l : List GPair) (x : GPair) : (putS l x).length ≤ l.length + 1 := by
  unfold putS
  rw [List.length_append, List.length_cons]
  have : ∀ l : List GPair, (l.filter (fun y => ltB y.fKey x.fKey)).length + (l.filter (fun y => ltB x.fKey y.fKey)).length ≤ l.length := fun l => by
    induction l with
    | nil => simp
    | cons y l ih =>
      rw [List.filter_cons, List.filter_cons, List.length_cons]
      cases h1 : ltB y.fKey x.fKey with
      | true =>
        rw [ltB_asymm h1]
        simp only [if_true, Bool.false_eq_true, if_false, List.length_cons]
        omega
      | false =>
        simp only [Bool.false_eq_true, if_false]
        split <;> (try rw [List.length_cons]) <;> omega
  have := this l
  omega
theorem rising_ext : ∀ {A B : List GPair}, A.Pairwise ltP → B.Pairwise ltP → (∀ x, x ∈ A ↔ x ∈ B) → A = B
  | [], [], _, _, _ => rfl
  | [], b :: B, _, _, h => absurd ((h b).2 (by simp)) (by simp)
  | a :: A, [], _, _, h => absurd ((h a).1 (by simp)) (by simp)
  | a :: A, b :: B, hA, hB, h => by
    rw [List.pairwise_cons] at hA hB
    have e : a = b := by
      rcases List.mem_cons.1 ((h a).1 (by simp)) with e | h1
      · exact e
      · rcases List.mem_cons.1 ((h b).2 (by simp)) with e | h2
        · exact e.symm
        · have h3 := hA.1 b h2
          have h4 := hB.1 a h1
          unfold ltP at h3 h4
          rw [ltB_asymm h3] at h4
          cases h4
    subst e
    have hirr : ∀ x : GPair, ¬ ltP x x := fun x h => by unfold ltP at h; rw [ltB_irrefl] at h; cases h
    rw [rising_ext hA.2 hB.2 (fun x => by
      have hx := h x
      rw [List.mem_cons, List.mem_cons] at hx
      constructor
      · intro hm
        rcases hx.1 (.inr hm) with rfl | h2
        · exact absurd (hA.1 x hm) (hirr x)
        · exact h2
      · intro hm
        rcases hx.2 (.inr hm) with rfl | h2
        · exact absurd (hB.1 x hm) (hirr x)
        · exact h2)]
theorem flat_split {L : List (List GPair)} {i : Nat} (hi : i < L.length) (k : Nat) : L.flatten = ((L.take i).flatten ++ L[i].take k) ++ (L[i].drop k ++ (L.drop (i + 1)).flatten) := by
  conv => lhs; rw [← List.take_append_drop i L, ← List.getElem_cons_drop hi]
  rw [List.flatten_append, List.flatten_cons, List.append_assoc, ← List.append_assoc (L[i].take k), List.take_append_drop]
theorem flat_setL {L : List (List GPair)} {i : Nat} (hi : i < L.length) (l : List GPair) : (L.set i l).flatten = (L.take i).flatten ++ (l ++ (L.drop (i + 1)).flatten) := by
  rw [List.set_eq_take_append_cons_drop, if_pos hi, List.flatten_append, List.flatten_cons]
theorem putS_split {A B : List GPair} {x : GPair} (h1 : ∀ y ∈ A, ltB y.fKey x.fKey = true) (h2 : ∀ y ∈ B, ltB y.fKey x.fKey = false) : putS (A ++ B) x = A ++ x :: B.filter (fun y => ltB x.fKey y.fKey) := by
  unfold putS
  rw [List.filter_append, List.filter_append, List.filter_eq_self.2 h1, List.filter_eq_nil_iff.2 (fun y hy => by rw [h2 y hy]; decide), List.append_nil,
    show A.filter (fun y => ltB x.fKey y.fKey) = [] from List.filter_eq_nil_iff.2 (fun y hy => by rw [ltB_asymm (h1 y hy)]; decide), List.nil_append]
theorem insF_flat {L : List (List GPair)} {i k : Nat} {is : Bool} {x : GPair} (hr : RisingL L) (F : 0 < L.length → FindP L x.fKey i k is) : (insF L i k is x).flatten = putS L.flatten x := by
  rcases Nat.eq_zero_or_pos L.length with h0 | h0
  · obtain rfl : L = [] := List.eq_nil_of_length_eq_zero h0
    rfl
  obtain ⟨hi, hk, lo, up, yes, no⟩ := F h0
  have e := flat_split hi k
  have er := hr
  unfold RisingL at er
  rw [e, putS_split lo up]
  unfold insF
  rw [List.getElem?_eq_getElem hi]
  cases is with
  | true =>
    obtain ⟨hk2, hkey⟩ := yes rfl
    simp only [if_true]
    have hB : (L[i].drop k ++ (L.drop (i + 1)).flatten).filter (fun y => ltB x.fKey y.fKey) = L[i].drop (k + 1) ++ (L.drop (i + 1)).flatten := by
      rw [← List.getElem_cons_drop hk2, List.cons_append, List.filter_cons, if_neg (by rw [hkey, ltB_irrefl]; decide)]
      rw [e, ← List.getElem_cons_drop hk2, List.pairwise_append] at er
      have h2 := er.2.1
      rw [List.cons_append, List.pairwise_cons] at h2
      exact List.filter_eq_self.2 (fun y hy => by have h3 := h2.1 y hy; unfold ltP at h3; rw [hkey] at h3; exact h3)
    rw [hB, flat_setL hi, List.set_eq_take_append_cons_drop, if_pos hk2]
    simp only [List.append_assoc, List.cons_append]
  | false =>
    have hB : (L[i].drop k ++ (L.drop (i + 1)).flatten).filter (fun y => ltB x.fKey y.fKey) = L[i].drop k ++ (L.drop (i + 1)).flatten := List.filter_eq_self.2 (fun y hy => by
      have hne := no rfl y (by rw [e]; exact List.mem_append_right _ hy)
      rcases ltB_or hne with h | h
      · rw [up y hy] at h; cases h
      · exact h)
    rw [hB]
    simp only [Bool.false_eq_true, if_false]
    by_cases h8 : L[i].length < 8
    · rw [if_pos h8, flat_setL hi]
      unfold insL
      simp only [List.append_assoc, List.cons_append]
    · rw [if_neg h8, List.flatten_append, List.flatten_cons]
      have e2 : ((L.set i ((insL L[i] k x).take 4)).take (i + 1)).flatten = (L.take i).flatten ++ (insL L[i] k x).take 4 := by
        rw [List.take_set, List.set_eq_take_append_cons_drop, if_pos (by rw [List.length_take]; omega), List.take_take, Nat.min_eq_left (by omega), List.drop_eq_nil_of_le (by rw [List.length_take]; omega)]
        simp
      rw [e2, List.append_assoc, ← List.append_assoc ((insL L[i] k x).take 4), List.take_append_drop]
      unfold insL
      simp only [List.append_assoc, List.cons_append]
theorem insF_rising {L : List (List GPair)} {i k : Nat} {is : Bool} {x : GPair} (hr : RisingL L) (F : 0 < L.length → FindP L x.fKey i k is) : RisingL (insF L i k is x) := by
  unfold RisingL
  rw [insF_flat hr F]
  exact rising_putS hr x
theorem insF_ok {L : List (List GPair)} {i k : Nat} {is : Bool} {x : GPair} (ok : PagesOk L) (F : 0 < L.length → FindP L x.fKey i k is) : PagesOk (insF L i k is x) := by
  rcases Nat.eq_zero_or_pos L.length with h0 | h0
  · obtain rfl : L = [] := List.eq_nil_of_length_eq_zero h0
    exact ⟨fun l hl => by rw [show insF [] i k is x = [[x]] from rfl, List.mem_singleton] at hl; subst hl; exact ⟨by simp, by simp⟩, fun h => absurd h (by show ¬ 1 < 1; omega)⟩
  obtain ⟨hi, hk, -, -, yes, -⟩ := F h0
  have o1 := ok.one _ (List.getElem_mem hi)
  have hset : ∀ l : List GPair, (0 < l.length ∧ l.length ≤ 8) → (1 < L.length → 4 ≤ l.length) → PagesOk (L.set i l) := fun l h1 h2 =>
    ⟨fun m hm => by
      rcases List.mem_or_eq_of_mem_set hm with h | rfl
      · exact ok.one m h
      · exact h1, fun hl m hm => by
      rw [List.length_set] at hl
      rcases List.mem_or_eq_of_mem_set hm with h | rfl
      · exact ok.many hl m h
      · exact h2 hl⟩
  have hins : (insL L[i] k x).length = L[i].length + 1 := by unfold insL; rw [List.length_append, List.length_take, List.length_cons, List.length_drop]; omega
  unfold insF
  rw [List.getElem?_eq_getElem hi]
  cases is with
  | true => exact hset _ (by rw [List.length_set]; exact o1) (fun h => by rw [List.length_set]; exact ok.many h _ (List.getElem_mem hi))
  | false =>
    simp only [Bool.false_eq_true, if_false]
    by_cases h8 : L[i].length < 8
    · rw [if_pos h8]
      exact hset _ ⟨by omega, by omega⟩ (fun h => by have := ok.many h _ (List.getElem_mem hi); omega)
    · rw [if_neg h8]
      have key : ∀ m ∈ (L.set i ((insL L[i] k x).take 4)).take (i + 1) ++ (insL L[i] k x).drop 4 :: L.drop (i + 1), (m ∈ L ∧ 1 < L.length) ∨ m.length = 4 ∨ m.length = 5 := fun m hm => by
        rcases List.mem_append.1 hm with h | h
        · rw [List.take_set] at h
          obtain ⟨q, hq, rfl⟩ := List.mem_iff_getElem.1 h
          rw [List.length_set, List.length_take] at hq
          rw [List.getElem_set]
          split
          · right; left; rw [List.length_take, hins]; omega
          · left
            rw [List.getElem_take]
            exact ⟨List.getElem_mem _, by omega⟩
        · rcases List.mem_cons.1 h with rfl | h
          · right; right; rw [List.length_drop, hins]; omega
          · have h2 := List.mem_of_mem_drop h
            obtain ⟨q, hq, rfl⟩ := List.mem_iff_getElem.1 h
            rw [List.length_drop] at hq
            exact .inl ⟨h2, by omega⟩
      exact ⟨fun m hm => by
        rcases key m hm with h | h | h
        · exact ok.one m h.1
        · omega
        · omega, fun _ m hm => by
        rcases key m hm with h | h | h
        · exact ok.many h.2 m h.1
        · omega
        · omega⟩
theorem pages_len {L : List (List GPair)} (ok : ∀ l ∈ L, 0 < l.length) : L.length ≤ L.flatten.length := by
  induction L with
  | nil => simp
  | cons l L ih =>
    rw [List.flatten_cons, List.length_cons, List.length_append]
    have h1 := ok l (by simp)
    have h2 := ih (fun m hm => ok m (by simp [hm]))
    omega
end Go.Proofs.Ythkocgpbpgfocaa
