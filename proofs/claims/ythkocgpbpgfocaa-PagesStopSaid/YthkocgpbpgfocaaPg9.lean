/- PAGES: what a map is in memory; a page copied. Printed by mac.py. -/
import Derived.Test.YthkocgpbpgfocaaPg8
import Derived.Test.YthkocgpbpgfocaaInsA
import Derived.Test.YthkocgpbpgfocaaInsB
namespace Go.Proofs.Ythkocgpbpgfocaa
open Go.RowKit

def PageIs (w : World) (B : Nat → Prop) (v : Value) (l : List GPair) : Prop := ∃ a c css, v = .slice a l.length c ∧ w.ownsRow 0 29 3 v l.length css.flatten ∧ Els rGPair w B css l
theorem PageIs.keep {w w' : World} {B : Nat → Prop} {v : Value} {l : List GPair} (h : PageIs w B v l) {S : Nat → Prop} (k : Keep S w w') (h1 : ∀ b, OwnB v b → ¬ S b) (h2 : ∀ b, B b → ¬ S b) : PageIs w' B v l := by
  obtain ⟨a, c, css, e, own, els⟩ := h
  exact ⟨a, c, css, e, owned_keep own k h1, els.keep rGPair_lawful k h2⟩
theorem PageIs.mono {w : World} {B B' : Nat → Prop} {v : Value} {l : List GPair} (h : PageIs w B v l) (hB : ∀ b, B b → B' b) : PageIs w B' v l := by
  obtain ⟨a, c, css, e, own, els⟩ := h
  exact ⟨a, c, css, e, own, els.mono rGPair_lawful hB⟩
theorem PageIs.lt {w : World} {B : Nat → Prop} {v : Value} {l : List GPair} (h : PageIs w B v l) {b : Nat} (hb : OwnB v b) : b < w.heap.size := by
  obtain ⟨a, c, css, e, own, els⟩ := h
  exact (own.lt b hb).2
/-- A map: its own block g, the row of its pages, the pages' rows; B: where the bytes lie. -/
structure MapIs (w : World) (O B : Nat → Prop) (g : Nat) (aP : Option Addr) (cP : Nat) (S : List Value) (L : List (List GPair)) : Prop where
  row : RowIs w g 65 [.slice aP L.length cP]
  own : w.ownsRow 0 22 1 (.slice aP L.length cP) L.length S
  pg : ∀ j (h : j < L.length), ∃ h' : j < S.length, PageIs w B S[j] L[j]
  og : O g
  oP : ∀ b, OwnB (.slice aP L.length cP) b → O b ∧ b ≠ g
  oS : ∀ v ∈ S, ∀ b, OwnB v b → O b ∧ b ≠ g ∧ ¬ OwnB (.slice aP L.length cP) b
  oB : ∀ b, B b → O b ∧ b ≠ g ∧ ¬ OwnB (.slice aP L.length cP) b ∧ ∀ v ∈ S, ¬ OwnB v b
  ap : S.Pairwise (fun u v => ∀ b, OwnB u b → ¬ OwnB v b)
  lt : ∀ b, O b → b < w.heap.size
namespace MapIs
variable {w w' : World} {O B : Nat → Prop} {g : Nat} {aP : Option Addr} {cP : Nat} {S : List Value} {L : List (List GPair)}
theorem len (M : MapIs w O B g aP cP S L) : S.length = L.length := by have := M.own.1; omega
theorem keep (M : MapIs w O B g aP cP S L) {T : Nat → Prop} (k : Keep T w w') (hT : ∀ b, O b → ¬ T b) : MapIs w' O B g aP cP S L :=
  { row := M.row.keep k (hT _ M.og)
    own := owned_keep M.own k (fun b hb => hT b (M.oP b hb).1)
    pg := fun j h => by
      obtain ⟨h', p⟩ := M.pg j h
      exact ⟨h', p.keep k (fun b hb => hT b (M.oS _ (List.getElem_mem h') b hb).1) (fun b hb => hT b (M.oB b hb).1)⟩
    og := M.og, oP := M.oP, oS := M.oS, oB := M.oB, ap := M.ap
    lt := fun b hb => Nat.lt_of_lt_of_le (M.lt b hb) k.size }
theorem pages (M : MapIs w O B g aP cP S L) (hf : L.length ≤ far) (hp : ∀ l ∈ L, l.length ≤ far) : rPages w O [.slice aP L.length cP] L := by
  refine ⟨aP, cP, S.map (fun v => [v]), rfl, by rw [List.length_map]; exact M.len, ?_, (owned_bounds M.own).2.1, hf, ?_⟩
  · have e : (S.map (fun v => [v])).flatten = S := by rw [← List.flatMap_def]; simp
    rw [e]
    exact (Lies.of_owned M.own).mono (fun b hb => (M.oP b hb.2).1)
  · intro i c x hc hx
    obtain ⟨hi, rfl⟩ := List.getElem?_eq_some_iff.1 hx
    obtain ⟨h', a, cc, css, e, own, els⟩ := M.pg i hi
    rw [List.getElem?_map, List.getElem?_eq_getElem h'] at hc
    cases hc
    have hO : ∀ b, OwnB S[i] b → O b := fun b hb => (M.oS _ (List.getElem_mem h') b hb).1
    rw [e] at own hO ⊢
    refine ⟨a, cc, css, rfl, els.1, (Lies.of_owned own).mono (fun b hb => hO b hb.2), (owned_bounds own).2.1, hp _ (List.getElem_mem hi), fun q cq xq h1 h2 => rGPair_lawful.mono (els.2 q cq xq h1 h2) (fun b hb => (M.oB b hb).1)⟩
/-- A page is another one: the row of pages says so, and nothing else has turned. -/
theorem setPage (M : MapIs w O B g aP cP S L) {i : Nat} (hi : i < L.length) {v : Value} {l : List GPair} {B' : Nat → Prop} {T : Nat → Prop} (k : Keep T w w')
    (hT : ∀ b, T b → OwnB (.slice aP L.length cP) b ∨ ∃ h : i < S.length, OwnB S[i] b) (own' : w'.ownsRow 0 22 1 (.slice aP L.length cP) L.length (S.set i v)) (hp : PageIs w' B' v l)
    (hv : ∀ b, OwnB v b → (∃ h : i < S.length, OwnB S[i] b) ∨ w.heap.size ≤ b) (hB : ∀ b, B b → B' b) (hB' : ∀ b, B' b → B b ∨ (w.heap.size ≤ b ∧ b < w'.heap.size ∧ ¬ OwnB v b)) :
    MapIs w' (fun b => O b ∨ (w.heap.size ≤ b ∧ b < w'.heap.size)) B' g aP cP (S.set i v) (L.set i l) := by
  have hi' : i < S.length := by rw [M.len]; exact hi
  have hOv : ∀ b, OwnB v b → (O b ∨ (w.heap.size ≤ b ∧ b < w'.heap.size)) ∧ b ≠ g ∧ ¬ OwnB (.slice aP L.length cP) b := fun b hb => by
    rcases hv b hb with ⟨h, h2⟩ | h2
    · have := M.oS _ (List.getElem_mem h) b h2
      exact ⟨.inl this.1, this.2⟩
    · have hg := M.lt _ M.og
      exact ⟨.inr ⟨h2, hp.lt hb⟩, by omega, fun h3 => by have := M.lt _ (M.oP b h3).1; omega⟩
  have hne : ∀ j (hj : j < S.length), j ≠ i → ∀ b, OwnB S[j] b → ¬ T b := fun j hj hji b hb hTb => by
    rcases hT b hTb with h | ⟨h, h2⟩
    · exact (M.oS _ (List.getElem_mem hj) b hb).2.2 h
    · rcases Nat.lt_or_gt_of_ne hji with h3 | h3
      · exact List.pairwise_iff_getElem.1 M.ap j i hj h h3 b hb h2
      · exact List.pairwise_iff_getElem.1 M.ap i j h hj h3 b h2 hb
  have hTg : ¬ T g := fun h => by
    rcases hT g h with h | ⟨h, h2⟩
    · exact (M.oP g h).2 rfl
    · exact (M.oS _ (List.getElem_mem h) g h2).2.1 rfl
  have hTB : ∀ b, B b → ¬ T b := fun b hb h => by
    rcases hT b h with h | ⟨h, h2⟩
    · exact (M.oB b hb).2.2.1 h
    · exact (M.oB b hb).2.2.2 _ (List.getElem_mem h) h2
  have hnv : ∀ j (hj : j < S.length), j ≠ i → ∀ b, OwnB S[j] b → ¬ OwnB v b := fun j hj hji b hb hvb => by
    rcases hv b hvb with ⟨h, h2⟩ | h2
    · rcases Nat.lt_or_gt_of_ne hji with h3 | h3
      · exact List.pairwise_iff_getElem.1 M.ap j i hj h h3 b hb h2
      · exact List.pairwise_iff_getElem.1 M.ap i j h hj h3 b h2 hb
    · have := M.lt _ (M.oS _ (List.getElem_mem hj) b hb).1; omega
  have hmem : ∀ u ∈ S.set i v, u = v ∨ ∃ j, ∃ h : j < S.length, j ≠ i ∧ u = S[j] := fun u hu => by
    obtain ⟨j, hj, rfl⟩ := List.mem_iff_getElem.1 hu
    rw [List.length_set] at hj
    rw [List.getElem_set]
    by_cases e : i = j
    · rw [if_pos e]; exact .inl rfl
    · rw [if_neg e]; exact .inr ⟨j, hj, fun h => e h.symm, rfl⟩
  refine { row := ?_, own := ?_, pg := fun j h => ?_, og := .inl M.og, oP := fun b hb => ?_, oS := fun u hu b hb => ?_, oB := fun b hb => ?_, ap := ?_, lt := fun b hb => ?_ }
  · rw [List.length_set]; exact M.row.keep k hTg
  · rw [List.length_set]; exact own'
  · rw [List.length_set] at h
    have hj : j < S.length := by rw [M.len]; exact h
    refine ⟨by rw [List.length_set]; exact hj, ?_⟩
    rw [List.getElem_set, List.getElem_set]
    by_cases e : i = j
    · rw [if_pos e, if_pos e]; exact hp
    · rw [if_neg e, if_neg e]
      obtain ⟨_, p⟩ := M.pg j h
      exact (p.keep k (hne j hj (fun h => e h.symm)) hTB).mono hB
  · rw [List.length_set] at hb
    exact ⟨.inl (M.oP b hb).1, (M.oP b hb).2⟩
  · rw [List.length_set]
    rcases hmem u hu with rfl | ⟨j, hj, _, rfl⟩
    · exact hOv b hb
    · have := M.oS _ (List.getElem_mem hj) b hb
      exact ⟨.inl this.1, this.2⟩
  · rw [List.length_set]
    rcases hB' b hb with h | ⟨h1, h2, h3⟩
    · obtain ⟨o1, o2, o3, o4⟩ := M.oB b h
      refine ⟨.inl o1, o2, o3, fun u hu => ?_⟩
      rcases hmem u hu with rfl | ⟨j, hj, _, rfl⟩
      · intro hub
        rcases hv b hub with ⟨h, h2⟩ | h2
        · exact o4 _ (List.getElem_mem h) h2
        · have := M.lt b o1; omega
      · exact o4 _ (List.getElem_mem hj)
    · have hg := M.lt _ M.og
      refine ⟨.inr ⟨h1, h2⟩, by omega, fun h => by have := M.lt _ (M.oP b h).1; omega, fun u hu => ?_⟩
      rcases hmem u hu with rfl | ⟨j, hj, _, rfl⟩
      · exact h3
      · intro h; have := M.lt _ (M.oS _ (List.getElem_mem hj) b h).1; omega
  · rw [List.pairwise_iff_getElem]
    intro p q hp1 hq1 hpq b hb hb2
    rw [List.length_set] at hp1 hq1
    rw [List.getElem_set] at hb hb2
    by_cases e1 : i = p
    · rw [if_pos e1] at hb
      rw [if_neg (by omega)] at hb2
      exact hnv q hq1 (by omega) b hb2 hb
    · rw [if_neg e1] at hb
      by_cases e2 : i = q
      · rw [if_pos e2] at hb2
        exact hnv p hp1 (by omega) b hb hb2
      · rw [if_neg e2] at hb2
        exact List.pairwise_iff_getElem.1 M.ap p q hp1 hq1 hpq b hb hb2
  · rcases hb with h | h
    · exact Nat.lt_of_lt_of_le (M.lt b h) k.size
    · exact h.2
end MapIs
end Go.Proofs.Ythkocgpbpgfocaa
