/- PAGES: one more page. Printed by mac.py. -/
import Derived.Test.YthkocgpbpgfocaaPg9
namespace Go.Proofs.Ythkocgpbpgfocaa
open Go.RowKit

def insAt {α : Type} (l : List α) (j : Nat) (x : α) : List α := l.take j ++ x :: l.drop j
theorem insAt_len {α : Type} (l : List α) (j : Nat) (x : α) (h : j ≤ l.length) : (insAt l j x).length = l.length + 1 := by unfold insAt; rw [List.length_append, List.length_take, List.length_cons, List.length_drop]; omega
theorem insAt_cases {α : Type} (l : List α) (j : Nat) (x : α) (h : j ≤ l.length) (q : Nat) (hq : q < (insAt l j x).length) : (∃ h2 : q < l.length, q < j ∧ (insAt l j x)[q] = l[q]) ∨ (q = j ∧ (insAt l j x)[q] = x) ∨ ∃ h2 : q - 1 < l.length, j < q ∧ (insAt l j x)[q] = l[q - 1] := by
  have hl := insAt_len l j x h
  have e1 : (l.take j).length = j := by rw [List.length_take]; omega
  have hs := List.getElem?_eq_getElem hq
  rcases Nat.lt_trichotomy q j with h1 | h1 | h1
  · have h2 : q < l.length := by omega
    refine .inl ⟨h2, h1, ?_⟩
    have e : (insAt l j x)[q]? = l[q]? := by unfold insAt; rw [List.getElem?_append_left (by omega), List.getElem?_take_of_lt h1]
    rw [hs, List.getElem?_eq_getElem h2] at e
    exact Option.some.inj e
  · refine .inr (.inl ⟨h1, ?_⟩)
    have e : (insAt l j x)[q]? = some x := by unfold insAt; rw [List.getElem?_append_right (by omega), e1, h1, Nat.sub_self]; rfl
    rw [hs] at e
    exact Option.some.inj e
  · have h2 : q - 1 < l.length := by omega
    refine .inr (.inr ⟨h2, h1, ?_⟩)
    have e : (insAt l j x)[q]? = l[q - 1]? := by
      unfold insAt
      rw [List.getElem?_append_right (by omega), e1, show q - j = (q - 1 - j) + 1 by omega, List.getElem?_cons_succ, List.getElem?_drop]
      congr 1
      omega
    rw [hs, List.getElem?_eq_getElem h2] at e
    exact Option.some.inj e
theorem MapIs.insPage {w w' : World} {O B : Nat → Prop} {g : Nat} {aP aQ : Option Addr} {cP cQ : Nat} {S : List Value} {L : List (List GPair)} (M : MapIs w O B g aP cP S L) {j : Nat} (hj : j ≤ L.length) {v : Value} {l : List GPair} {T : Nat → Prop} (k : Keep T w w')
    (hT : ∀ b, T b → OwnB (.slice aP L.length cP) b ∨ b = g) (row' : RowIs w' g 65 [.slice aQ (L.length + 1) cQ]) (own' : w'.ownsRow 0 22 1 (.slice aQ (L.length + 1) cQ) (L.length + 1) (insAt S j v)) (hQ : ∀ b, OwnB (.slice aQ (L.length + 1) cQ) b → OwnB (.slice aP L.length cP) b ∨ w.heap.size ≤ b)
    (hp : PageIs w' B v l) (hv : ∀ b, OwnB v b → w.heap.size ≤ b ∧ ¬ OwnB (.slice aQ (L.length + 1) cQ) b) :
    MapIs w' (fun b => O b ∨ (w.heap.size ≤ b ∧ b < w'.heap.size)) B g aQ cQ (insAt S j v) (insAt L j l) := by
  have hSl := M.len
  have hjS : j ≤ S.length := by omega
  have hLl := insAt_len L j l hj
  have hSS := insAt_len S j v hjS
  have hg := M.lt _ M.og
  have hmem : ∀ u ∈ insAt S j v, u = v ∨ u ∈ S := fun u hu => by
    unfold insAt at hu
    rcases List.mem_append.1 hu with h | h
    · exact .inr (List.mem_of_mem_take h)
    · rcases List.mem_cons.1 h with h | h
      · exact .inl h
      · exact .inr (List.mem_of_mem_drop h)
  have hQO : ∀ b, OwnB (.slice aQ (L.length + 1) cQ) b → (O b ∨ (w.heap.size ≤ b ∧ b < w'.heap.size)) ∧ b ≠ g := fun b hb => by
    rcases hQ b hb with h | h
    · exact ⟨.inl (M.oP b h).1, (M.oP b h).2⟩
    · exact ⟨.inr ⟨h, (own'.lt b hb).2⟩, by omega⟩
  have hSO : ∀ u ∈ S, ∀ b, OwnB u b → ¬ T b := fun u hu b hb h => by
    rcases hT b h with h | h
    · exact (M.oS u hu b hb).2.2 h
    · exact (M.oS u hu b hb).2.1 h
  have hBT : ∀ b, B b → ¬ T b := fun b hb h => by
    rcases hT b h with h | h
    · exact (M.oB b hb).2.2.1 h
    · exact (M.oB b hb).2.1 h
  have hnQ : ∀ b, O b → ¬ OwnB (.slice aP L.length cP) b → ¬ OwnB (.slice aQ (L.length + 1) cQ) b := fun b h1 h2 h3 => by
    rcases hQ b h3 with h | h
    · exact h2 h
    · have := M.lt b h1; omega
  have hpgS : ∀ q (hq : q < L.length), ∃ h' : q < S.length, PageIs w' B S[q] L[q] := fun q hq => by
    obtain ⟨h', p⟩ := M.pg q hq
    exact ⟨h', p.keep k (hSO _ (List.getElem_mem h')) hBT⟩
  refine { row := ?_, own := ?_, pg := fun q h => ?_, og := .inl M.og, oP := fun b hb => ?_, oS := fun u hu b hb => ?_, oB := fun b hb => ?_, ap := ?_, lt := fun b hb => ?_ }
  · rw [hLl]; exact row'
  · rw [hLl]; exact own'
  · have hq2 : q < (insAt S j v).length := by omega
    refine ⟨hq2, ?_⟩
    rcases insAt_cases L j l hj q h with ⟨h1, h2, e1⟩ | ⟨h2, e1⟩ | ⟨h1, h2, e1⟩
    · rcases insAt_cases S j v hjS q hq2 with ⟨h3, _, e2⟩ | ⟨h4, _⟩ | ⟨_, h4, _⟩
      · rw [e1, e2]; exact (hpgS q h1).2
      · omega
      · omega
    · rcases insAt_cases S j v hjS q hq2 with ⟨_, h4, _⟩ | ⟨_, e2⟩ | ⟨_, h4, _⟩
      · omega
      · rw [e1, e2]; exact hp
      · omega
    · rcases insAt_cases S j v hjS q hq2 with ⟨_, h4, _⟩ | ⟨h4, _⟩ | ⟨h3, _, e2⟩
      · omega
      · omega
      · rw [e1, e2]; exact (hpgS (q - 1) h1).2
  · rw [hLl] at hb; exact hQO b hb
  · rw [hLl]
    rcases hmem u hu with rfl | hu
    · have := hv b hb
      exact ⟨.inr ⟨this.1, hp.lt hb⟩, by omega, this.2⟩
    · have := M.oS u hu b hb
      exact ⟨.inl this.1, this.2.1, hnQ b this.1 this.2.2⟩
  · rw [hLl]
    obtain ⟨o1, o2, o3, o4⟩ := M.oB b hb
    refine ⟨.inl o1, o2, hnQ b o1 o3, fun u hu => ?_⟩
    rcases hmem u hu with rfl | hu
    · intro h; have := hv b h; have := M.lt b o1; omega
    · exact o4 u hu
  · have h1 := List.pairwise_iff_getElem.1 M.ap
    have hvS : ∀ u ∈ S, ∀ b, OwnB u b → ¬ OwnB v b := fun u hu b hb h => by have := hv b h; have := M.lt b (M.oS u hu b hb).1; omega
    unfold insAt
    rw [List.pairwise_append, List.pairwise_cons]
    refine ⟨M.ap.sublist (List.take_sublist _ _), ⟨fun u hu b hb hb2 => hvS u (List.mem_of_mem_drop hu) b hb2 hb, M.ap.sublist (List.drop_sublist _ _)⟩, fun a ha c hc => ?_⟩
    rcases List.mem_cons.1 hc with rfl | hc
    · exact hvS a (List.mem_of_mem_take ha)
    · have h2 := M.ap
      rw [← List.take_append_drop j S, List.pairwise_append] at h2
      exact h2.2.2 a ha c hc
  · rcases hb with h | h
    · exact Nat.lt_of_lt_of_le (M.lt b h) k.size
    · exact h.2
end Go.Proofs.Ythkocgpbpgfocaa
