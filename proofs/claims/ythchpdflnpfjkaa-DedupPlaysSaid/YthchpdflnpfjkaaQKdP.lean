/- DEDUP: what Load takes, in plain words. Printed by mac.py. -/
import Derived.Test.YthchpdflnpfjkaaQKdS
namespace Go.Proofs.Ythchpdflnpfjkaa
open Go.RowKit

theorem textS_back {m : Nat} {l : List UInt8} {s : RdS} {t : List UInt8} (he : s.e = 0) (hm : l.length ≤ m) (hv : l.length < 2 ^ 64) (h : s.B.drop s.pos = textB l ++ t) : textS m s = (l, { s with pos := s.pos + (textB l).length }) := by
  have h0 : s.B.drop s.pos = numB l.length ++ (l ++ t) := by rw [h]; simp [textB]
  have h1 := numS_back he hm hv h0
  have hlen : s.B.length - s.pos = (textB l).length + t.length := by have := congrArg List.length h; simpa using this
  have hb : (textB l).length = (numB l.length).length + l.length := by simp [textB]
  have hd : s.B.drop (s.pos + (numB l.length).length) = l ++ t := by rw [← List.drop_drop, h0, List.drop_left]
  unfold textS
  rw [if_neg (by simp [he]), h1, if_neg (by simp [he])]
  simp only
  rw [if_neg (by omega), hd, List.take_left, hb, Nat.add_assoc]
theorem num_pos {m : Nat} {s : RdS} (he : s.e = 0) (h : (numS m s).2.e = 0) (hp : s.pos ≤ s.B.length) : (numS m s).2.pos ≤ s.B.length ∧ (numS m s).2.B = s.B := by
  unfold numS at *
  rw [if_neg (by simp [he])] at *
  by_cases h1 : (lookB (s.B.drop s.pos)).2.2 = 0
  · rw [if_neg (by simp [h1])] at *
    by_cases h2 : m < (lookB (s.B.drop s.pos)).1
    · rw [if_pos h2] at h; simp at h
    · rw [if_neg h2] at *
      have hf : lookF 10 0 0 (s.B.drop s.pos) = ((lookB (s.B.drop s.pos)).1, (lookB (s.B.drop s.pos)).2.1, 0) := by
        show lookB _ = _
        rw [← h1]
      obtain ⟨v, -, -, h3, -⟩ := look_form 10 0 0 _ _ _ rfl hf
      rw [List.length_drop] at h3
      exact ⟨by show s.pos + _ ≤ _; omega, rfl⟩
  · rw [if_pos (by simpa using h1)] at h
    exact absurd h h1
theorem textS_form {m : Nat} {s : RdS} (he : s.e = 0) (h : (textS m s).2.e = 0) (hp : s.pos ≤ s.B.length) : (textS m s).2 = { s with pos := (textS m s).2.pos } ∧ s.B.drop s.pos = textB (textS m s).1 ++ s.B.drop (textS m s).2.pos ∧ s.pos ≤ (textS m s).2.pos ∧ (textS m s).2.pos ≤ s.B.length := by
  unfold textS at *
  rw [if_neg (by simp [he])] at *
  by_cases h1 : (numS m s).2.e = 0
  · rw [if_neg (by simpa using h1)] at *
    obtain ⟨f1, f2, f3⟩ := numS_form he h1
    by_cases h2 : s.B.length - (numS m s).2.pos < (numS m s).1
    · rw [if_pos h2] at h; simp at h
    · rw [if_neg h2] at *
      have hpl : (numS m s).2.pos ≤ s.B.length := (num_pos he h1 hp).1
      have hl : ((s.B.drop (numS m s).2.pos).take (numS m s).1).length = (numS m s).1 := by rw [List.length_take, List.length_drop]; omega
      refine ⟨rfl, ?_, by show s.pos ≤ _ + _; omega, by show _ + _ ≤ _; omega⟩
      simp only [textB]
      rw [hl, List.append_assoc, ← List.drop_drop, List.take_append_drop]
      exact f2
  · rw [if_pos (by simpa using h1)] at h
    exact absurd h h1
def M20 : Nat := 1048576
def M30 : Nat := 1073741824
abbrev Ent := Int × Int × List UInt8
def encE (x : Ent) : List UInt8 := numB x.1.toNat ++ (numB x.2.1.toNat ++ textB x.2.2)
/-- One entry. -/
def entP (s : RdS) : Ent × RdS := ((((numS maxU s).1 : Int), ((numS maxU (numS maxU s).2).1 : Int), (textS M30 (numS maxU (numS maxU s).2).2).1), (textS M30 (numS maxU (numS maxU s).2).2).2)
def badE (pre : Option Int) (x : Ent) (s : RdS) : Prop := s.e ≠ 0 ∨ x.2.1 = 0 ∨ ∃ a, pre = some a ∧ x.1 ≤ a
open Classical in
noncomputable def entsP : Nat → Option Int → RdS → Option (List Ent × RdS)
  | 0, _, s => some ([], s)
  | m + 1, pre, s => if badE pre (entP s).1 (entP s).2 then none else (entsP m (some (entP s).1.1) (entP s).2).map (fun y => ((entP s).1 :: y.1, y.2))
noncomputable def loadP (l : List UInt8) : Option (List Ent × List UInt8) :=
  match entsP (numS M20 ⟨l, 0, 0, []⟩).1 none (numS M20 ⟨l, 0, 0, []⟩).2 with
  | none => none
  | some y => if endS (textS M30 y.2).2 = 0 then some (y.1, (textS M30 y.2).1) else none
theorem numS_st {m : Nat} {s : RdS} (he : s.e ≠ 0) : numS m s = (0, s) := by unfold numS; rw [if_pos he]
theorem textS_stuck' {m : Nat} {s : RdS} (he : s.e ≠ 0) : textS m s = ([], s) := by unfold textS; rw [if_pos he]
theorem entP_e {s : RdS} (h : (entP s).2.e = 0) : s.e = 0 ∧ (numS maxU s).2.e = 0 ∧ (numS maxU (numS maxU s).2).2.e = 0 := by
  have h3 : (numS maxU (numS maxU s).2).2.e = 0 := by
    rcases Classical.em ((numS maxU (numS maxU s).2).2.e = 0) with h3 | h3
    · exact h3
    · unfold entP at h; rw [textS_stuck' h3] at h; exact absurd h h3
  have h2 : (numS maxU s).2.e = 0 := by
    rcases Classical.em ((numS maxU s).2.e = 0) with h2 | h2
    · exact h2
    · rw [numS_st h2] at h3; exact absurd h3 h2
  have h1 : s.e = 0 := by
    rcases Classical.em (s.e = 0) with h1 | h1
    · exact h1
    · rw [numS_st h1] at h2; exact absurd h2 h1
  exact ⟨h1, h2, h3⟩
theorem rd_pos {s x : RdS} (h1 : x.B = s.B) (h2 : x.e = s.e) (h3 : x.rest = s.rest) : x = { s with pos := x.pos } := by
  cases x; cases s; simp_all
theorem entP_form {s : RdS} (h : (entP s).2.e = 0) (hs : s.pos ≤ s.B.length) : (entP s).2 = { s with pos := (entP s).2.pos } ∧ s.B.drop s.pos = encE (entP s).1 ++ s.B.drop (entP s).2.pos ∧ (entP s).2.pos ≤ s.B.length := by
  obtain ⟨h1, h2, h3⟩ := entP_e h
  obtain ⟨a1, a2, a3⟩ := numS_form h1 h2
  obtain ⟨b1, b2, b3⟩ := numS_form h2 h3
  obtain ⟨p1, q1⟩ := num_pos h1 h2 hs
  obtain ⟨p2, q2⟩ := num_pos h2 h3 (by rw [q1]; exact p1)
  have hp : (numS maxU (numS maxU s).2).2.pos ≤ (numS maxU (numS maxU s).2).2.B.length := by rw [q2]; exact p2
  obtain ⟨c1, c2, c3, c4⟩ := textS_form (m := M30) h3 h hp
  rw [q1] at b2
  rw [q2, q1] at c2 c4
  refine ⟨?_, ?_, c4⟩
  · refine rd_pos ?_ ?_ ?_
    · show (textS M30 (numS maxU (numS maxU s).2).2).2.B = _
      rw [c1]; exact q2.trans q1
    · rw [h, h1]
    · show (textS M30 (numS maxU (numS maxU s).2).2).2.rest = _
      rw [c1]
      show (numS maxU (numS maxU s).2).2.rest = _
      rw [b1]
      show (numS maxU s).2.rest = _
      rw [a1]
  · show _ = (numB (((numS maxU s).1 : Nat) : Int).toNat ++ (numB (((numS maxU (numS maxU s).2).1 : Nat) : Int).toNat ++ textB _)) ++ _
    rw [a2, b2, c2]
    simp [entP]
/-- Clients that rise from a bound on. -/
def ChainE : Option Int → List Ent → Prop
  | _, [] => True
  | pre, x :: l => (∀ a, pre = some a → a < x.1) ∧ x.2.1 ≠ 0 ∧ isU64 x.1 ∧ isU64 x.2.1 ∧ ChainE (some x.1) l
theorem entP_u64 (s : RdS) : isU64 (entP s).1.1 ∧ isU64 (entP s).1.2.1 := by
  have h1 := numS_lt maxU s
  have h2 := numS_lt maxU (numS maxU s).2
  unfold entP isU64
  simp only
  constructor <;> constructor <;> omega
theorem ents_form : ∀ (m : Nat) (pre : Option Int) (s : RdS) (E : List Ent) (s' : RdS), s.pos ≤ s.B.length → entsP m pre s = some (E, s') → E.length = m ∧ ChainE pre E ∧ (0 < m → s.e = 0) ∧ s'.B = s.B ∧ s'.e = s.e ∧ s.B.drop s.pos = E.flatMap encE ++ s.B.drop s'.pos ∧ s'.pos ≤ s.B.length ∧ s'.rest = s.rest
  | 0, pre, s, E, s', hs, h => by
    simp only [entsP, Option.some.injEq, Prod.mk.injEq] at h
    obtain ⟨rfl, rfl⟩ := h
    exact ⟨rfl, trivial, fun h => absurd h (Nat.lt_irrefl _), rfl, rfl, rfl, hs, rfl⟩
  | m + 1, pre, s, E, s', hs, h => by
    simp only [entsP] at h
    split at h
    · cases h
    · rename_i hb
      unfold badE at hb
      simp only [not_or, not_exists, not_and] at hb
      obtain ⟨b1, b2, b3⟩ := hb
      have b1 : (entP s).2.e = 0 := by rcases Classical.em ((entP s).2.e = 0) with h | h; exact h; exact absurd h b1
      obtain ⟨⟨E2, s2⟩, h2, h3⟩ := Option.map_eq_some_iff.1 h
      simp only [Prod.mk.injEq] at h3
      obtain ⟨rfl, rfl⟩ := h3
      obtain ⟨f1, f2, f3⟩ := entP_form b1 hs
      have fB : (entP s).2.B = s.B := by rw [f1]
      obtain ⟨i1, i2, i3, i4, i5, i6, i7, i8⟩ := ents_form m _ _ _ _ (by rw [fB]; exact f3) h2
      have fr : (entP s).2.rest = s.rest := by rw [f1]
      obtain ⟨u1, u2⟩ := entP_u64 s
      have he := (entP_e b1).1
      refine ⟨by simp [i1], ⟨fun a ha => by have := b3 a ha; omega, b2, u1, u2, i2⟩, fun _ => he, by rw [i4, fB], by rw [i5, b1, he], ?_, by rw [← fB]; exact i7, by rw [i8, fr]⟩
      rw [fB] at i6
      rw [f2, i6]
      simp
theorem ents_back : ∀ (E : List Ent) (pre : Option Int) (s : RdS) (t : List UInt8), ChainE pre E → (∀ x ∈ E, x.2.2.length ≤ M30) → s.e = 0 → s.B.drop s.pos = E.flatMap encE ++ t →
    ∃ q, entsP E.length pre s = some (E, { s with pos := q }) ∧ s.B.drop q = t
  | [], pre, s, t, _, _, he, h => ⟨s.pos, rfl, by simpa using h⟩
  | x :: E, pre, s, t, hc, hl, he, h => by
    obtain ⟨c1, c2, c3, c4, c5⟩ := hc
    have hx := hl x (by simp)
    have h0 : s.B.drop s.pos = numB x.1.toNat ++ (numB x.2.1.toNat ++ (textB x.2.2 ++ (E.flatMap encE ++ t))) := by rw [h]; simp [encE]
    have e1 := numS_back (m := maxU) he (by unfold maxU; have := c3.2; omega) (by have := c3.2; omega) h0
    have d1 : s.B.drop (s.pos + (numB x.1.toNat).length) = numB x.2.1.toNat ++ (textB x.2.2 ++ (E.flatMap encE ++ t)) := by rw [← List.drop_drop, h0, List.drop_left]
    have e2 := numS_back (m := maxU) (s := { s with pos := s.pos + (numB x.1.toNat).length }) he (by unfold maxU; have := c4.2; omega) (by have := c4.2; omega) d1
    have d2 : s.B.drop (s.pos + (numB x.1.toNat).length + (numB x.2.1.toNat).length) = textB x.2.2 ++ (E.flatMap encE ++ t) := by rw [← List.drop_drop, d1, List.drop_left]
    have e3 := textS_back (m := M30) (s := { s with pos := s.pos + (numB x.1.toNat).length + (numB x.2.1.toNat).length }) he hx (by unfold M30 at hx; omega) d2
    have d3 : s.B.drop (s.pos + (numB x.1.toNat).length + (numB x.2.1.toNat).length + (textB x.2.2).length) = E.flatMap encE ++ t := by rw [← List.drop_drop, d2, List.drop_left]
    have ep : entP s = (x, { s with pos := s.pos + (numB x.1.toNat).length + (numB x.2.1.toNat).length + (textB x.2.2).length }) := by
      unfold entP
      rw [e1]
      simp only
      rw [e2]
      simp only
      rw [e3]
      simp only [Prod.mk.injEq, and_true]
      have h1 := c3.1
      have h2 := c4.1
      obtain ⟨a, b, c⟩ := x
      simp only [Prod.mk.injEq, and_true] at *
      omega
    obtain ⟨q, i1, i2⟩ := ents_back E (some x.1) { s with pos := s.pos + (numB x.1.toNat).length + (numB x.2.1.toNat).length + (textB x.2.2).length } t c5 (fun y hy => hl y (by simp [hy])) he d3
    refine ⟨q, ?_, i2⟩
    show entsP (E.length + 1) pre s = _
    simp only [entsP]
    rw [ep, if_neg ?_, i1]
    · rfl
    · unfold badE
      simp only [not_or, not_exists, not_and]
      exact ⟨by simp [he], c2, fun a ha => by have := c1 a ha; omega⟩
def lastOf (E : List Ent) : Last := E.foldl (fun last e => upd last e.1 (e.2.1, e.2.2)) (fun _ => none)
theorem lastOf_snoc (E : List Ent) (x : Ent) : lastOf (E ++ [x]) = upd (lastOf E) x.1 (x.2.1, x.2.2) := by simp [lastOf]
theorem chain_gt : ∀ (E : List Ent) (a : Int), ChainE (some a) E → ∀ x ∈ E, a < x.1
  | [], _, _, x, h => by cases h
  | y :: E, a, h, x, hx => by
    have h1 := h.1 a rfl
    rcases List.mem_cons.1 hx with rfl | hx
    · exact h1
    · have := chain_gt E y.1 h.2.2.2.2 x hx; omega
theorem chain_rise : ∀ (E : List Ent) (pre : Option Int), ChainE pre E → (E.map (·.1)).Pairwise (· < ·)
  | [], _, _ => List.Pairwise.nil
  | y :: E, pre, h => by
    rw [List.map_cons, List.pairwise_cons]
    refine ⟨fun k hk => ?_, chain_rise E _ h.2.2.2.2⟩
    obtain ⟨x, hx, rfl⟩ := List.mem_map.1 hk
    exact chain_gt E y.1 h.2.2.2.2 x hx
theorem chain_u64 : ∀ (E : List Ent) (pre : Option Int), ChainE pre E → ∀ x ∈ E, isU64 x.1 ∧ isU64 x.2.1 ∧ x.2.1 ≠ 0
  | [], _, _, x, h => by cases h
  | y :: E, pre, h, x, hx => by
    rcases List.mem_cons.1 hx with rfl | hx
    · exact ⟨h.2.2.1, h.2.2.2.1, h.2.1⟩
    · exact chain_u64 E _ h.2.2.2.2 x hx
theorem fold_at : ∀ (E : List Ent) (l0 : Last), (E.map (·.1)).Pairwise (· < ·) → (∀ x ∈ E, (E.foldl (fun last e => upd last e.1 (e.2.1, e.2.2)) l0) x.1 = some (x.2.1, x.2.2)) ∧ ∀ k, (∀ x ∈ E, x.1 ≠ k) → (E.foldl (fun last e => upd last e.1 (e.2.1, e.2.2)) l0) k = l0 k
  | [], l0, _ => ⟨fun x h => (by cases h), fun k _ => rfl⟩
  | y :: E, l0, h => by
    rw [List.map_cons, List.pairwise_cons] at h
    obtain ⟨i1, i2⟩ := fold_at E (upd l0 y.1 (y.2.1, y.2.2)) h.2
    refine ⟨fun x hx => ?_, fun k hk => ?_⟩
    · rcases List.mem_cons.1 hx with rfl | hx
      · show (E.foldl _ (upd l0 x.1 (x.2.1, x.2.2))) x.1 = _
        rw [i2 x.1 (fun z hz e => by have := h.1 z.1 (List.mem_map.2 ⟨z, hz, rfl⟩); omega)]
        simp [upd]
      · exact i1 x hx
    · show (E.foldl _ (upd l0 y.1 (y.2.1, y.2.2))) k = _
      rw [i2 k (fun x hx => hk x (by simp [hx]))]
      simp [upd, (hk y (by simp)).symm]
theorem lastOf_mem {E : List Ent} {pre : Option Int} (h : ChainE pre E) {x : Ent} (hx : x ∈ E) : lastOf E x.1 = some (x.2.1, x.2.2) := (fold_at E _ (chain_rise E pre h)).1 x hx
theorem lastOf_none {E : List Ent} {pre : Option Int} (h : ChainE pre E) {k : Int} (hk : ∀ x ∈ E, x.1 ≠ k) : lastOf E k = none := (fold_at E _ (chain_rise E pre h)).2 k hk
theorem lastOf_rise {E : List Ent} {pre : Option Int} (h : ChainE pre E) : Rise (E.map (·.1)) (lastOf E) := by
  refine ⟨chain_rise E pre h, fun k => ?_⟩
  constructor
  · intro hk
    obtain ⟨x, hx, rfl⟩ := List.mem_map.1 hk
    exact ⟨(chain_u64 E pre h x hx).1, by rw [lastOf_mem h hx]; rfl⟩
  · rintro ⟨-, h2⟩
    rcases Classical.em (∃ x ∈ E, x.1 = k) with ⟨x, hx, e⟩ | hn
    · exact List.mem_map.2 ⟨x, hx, e⟩
    · rw [lastOf_none h (fun x hx e => hn ⟨x, hx, e⟩)] at h2; cases h2
theorem body_chain {E : List Ent} {pre : Option Int} (h : ChainE pre E) : bodyB (lastOf E) (E.map (·.1)) = E.flatMap encE := by
  unfold bodyB
  rw [List.map_map, ← List.flatMap_def]
  have : ∀ x ∈ E, (entB (lastOf E) ∘ fun x => x.1) x = encE x := fun x hx => by
    show entB (lastOf E) x.1 = encE x
    unfold entB encE
    rw [lastOf_mem h hx]
    rfl
  rw [List.flatMap_def, List.flatMap_def, List.map_congr_left this]
/-- The entries of what is kept. -/
def entsOf (ys : List Int) (last : Last) : List Ent := ys.map (fun k => (k, seqO (last k), ansO (last k)))
theorem chain_of : ∀ (ys : List Int) (last : Last) (pre : Option Int), ys.Pairwise (· < ·) → (∀ a, pre = some a → ∀ k ∈ ys, a < k) → (∀ k ∈ ys, isU64 k ∧ isU64 (seqO (last k)) ∧ seqO (last k) ≠ 0) → ChainE pre (entsOf ys last)
  | [], _, _, _, _, _ => trivial
  | y :: ys, last, pre, h1, h2, h3 => by
    obtain ⟨p1, p2⟩ := List.pairwise_cons.1 h1
    obtain ⟨q1, q2, q3⟩ := h3 y (by simp)
    exact ⟨fun a ha => h2 a ha y (by simp), q3, q1, q2, chain_of ys last (some y) p2 (fun a ha k hk => by cases ha; exact p1 k hk) (fun k hk => h3 k (by simp [hk]))⟩
theorem body_ents (ys : List Int) (last : Last) : bodyB last ys = (entsOf ys last).flatMap encE := by
  unfold bodyB entsOf
  rw [List.flatMap_def, List.map_map]
  rfl
/-- What is taken is what Save tells behind it. -/
theorem load_save {l d : List UInt8} {E : List Ent} {L : List (List UInt8)} (h : loadP l = some (E, d)) (ht : tapeB L = d) {ys : List Int} (hy : Rise ys (lastOf E)) : saveB ys (lastOf E) L = l ∧ E.length ≤ l.length ∧ ChainE none E ∧ d.length ≤ l.length ∧ ∀ x ∈ E, x.2.2.length ≤ l.length := by
  unfold loadP at h
  split at h
  · cases h
  · rename_i y hy2
    obtain ⟨E2, s2⟩ := y
    split at h
    · rename_i hend
      replace hend : endS (textS M30 s2).2 = 0 := hend
      simp only [Option.some.injEq, Prod.mk.injEq] at h
      obtain ⟨rfl, rfl⟩ := h
      have he2 : (textS M30 s2).2.e = 0 := by
        rcases Classical.em ((textS M30 s2).2.e = 0) with h | h
        · exact h
        · unfold endS at hend; rw [if_pos h] at hend; exact absurd hend h
      have hs2 : s2.e = 0 := by
        rcases Classical.em (s2.e = 0) with h | h
        · exact h
        · rw [textS_stuck' h] at he2; exact absurd he2 h
      have hn : (numS M20 ⟨l, 0, 0, []⟩).2.e = 0 := by
        rcases Classical.em ((numS M20 ⟨l, 0, 0, []⟩).2.e = 0) with h | h
        · exact h
        · have h5 : (numS M20 ⟨l, 0, 0, []⟩).1 = 0 := by
            unfold numS at h ⊢
            rw [if_neg (by simp)] at *
            split at h
            · rename_i h6; rw [if_pos h6]
            · split at h
              · rename_i h6 h7; rw [if_neg h6, if_pos h7]
              · exact absurd rfl h
          rw [h5] at hy2
          simp only [entsP, Option.some.injEq, Prod.mk.injEq] at hy2
          rw [hy2.2] at h
          exact absurd hs2 h
      obtain ⟨f1, f2, f3⟩ := numS_form (s := ⟨l, 0, 0, []⟩) rfl hn
      obtain ⟨p1, q1⟩ := num_pos (s := ⟨l, 0, 0, []⟩) rfl hn (Nat.zero_le _)
      obtain ⟨i1, i2, i3, i4, i5, i6, i7, i8⟩ := ents_form _ _ _ _ _ (by rw [q1]; exact p1) hy2
      rw [q1] at i4 i6 i7
      have hp2 := i7
      obtain ⟨c1, c2, c3, c4⟩ := textS_form (m := M30) hs2 he2 (by rw [i4]; exact hp2)
      rw [i4] at c2 c4
      have hend2 : (textS M30 s2).2.pos = l.length := by
        unfold endS at hend
        rw [if_neg (by simpa using he2)] at hend
        have hB : (textS M30 s2).2.B = l := by rw [c1, i4]
        rw [hB] at hend
        split at hend
        · cases hend
        · simp only at c4; omega
      rw [hend2] at c2
      simp only [List.drop_length, List.append_nil] at c2
      have hl : l = numB E2.length ++ (E2.flatMap encE ++ textB (textS M30 s2).1) := by
        have f2' : l = numB (numS M20 ⟨l, 0, 0, []⟩).1 ++ l.drop (numS M20 ⟨l, 0, 0, []⟩).2.pos := by simpa using f2
        rw [← i1] at f2'
        rw [i6, c2] at f2'
        exact f2'
      have hr := lastOf_rise i2
      have hys : ys = E2.map (·.1) := hy.uniq hr
      have hx : ∀ x ∈ E2, (encE x).length ≤ (E2.flatMap encE).length := fun x hx => by
        obtain ⟨a, b, e⟩ := List.append_of_mem hx
        rw [e, List.flatMap_append, List.flatMap_cons]
        simp only [List.length_append]
        omega
      refine ⟨?_, ?_, i2, ?_, fun x hxm => ?_⟩
      · subst hys
        unfold saveB
        rw [body_chain i2, List.length_map, ht]
        rw [List.append_assoc]
        exact hl.symm
      · have h1 : E2.length ≤ (E2.flatMap encE).length := by
          clear hx hl hy2 i1 i2 i6 hr hys hy ht c1 c2 c3 c4 he2 hs2 hend hend2
          induction E2 with
          | nil => exact Nat.zero_le _
          | cons x E ih =>
            simp only [List.flatMap_cons, List.length_cons, List.length_append]
            have := (numB_len x.1.toNat).2
            have h4 : (numB x.1.toNat).length ≤ (encE x).length := by unfold encE; simp only [List.length_append]; omega
            omega
        have h2 := congrArg List.length hl
        simp only [List.length_append] at h2
        omega
      · have h2 := congrArg List.length hl
        simp only [List.length_append, textB] at h2
        omega
      · have h1 := hx x hxm
        have h2 := congrArg List.length hl
        simp only [List.length_append] at h2
        have h3 : x.2.2.length ≤ (encE x).length := by unfold encE textB; simp only [List.length_append]; omega
        omega
    · cases h
theorem save_load {ys : List Int} {last : Last} {tp : List (List UInt8)} (hy : Rise ys last) (hn : ys.length ≤ M20) (hA : ∀ k, (ansO (last k)).length ≤ M30) (hT : (tapeB tp).length ≤ M30) (hs : ∀ k, (last k).isSome = true → isU64 (seqO (last k)) ∧ seqO (last k) ≠ 0) : loadP (saveB ys last tp) = some (entsOf ys last, tapeB tp) := by
  have hc : ChainE none (entsOf ys last) := chain_of ys last none hy.rise (fun a h => by cases h) (fun k hk => ⟨((hy.mem k).1 hk).1, (hs k ((hy.mem k).1 hk).2).1, (hs k ((hy.mem k).1 hk).2).2⟩)
  have h0 : saveB ys last tp = numB ys.length ++ (bodyB last ys ++ textB (tapeB tp)) := by simp [saveB]
  have e1 := numS_back (m := M20) (s := ⟨saveB ys last tp, 0, 0, []⟩) (t := bodyB last ys ++ textB (tapeB tp)) rfl hn (by unfold M20 at hn; omega) (by simpa using h0)
  unfold loadP
  rw [e1]
  simp only
  have d1 : (saveB ys last tp).drop (0 + (numB ys.length).length) = (entsOf ys last).flatMap encE ++ textB (tapeB tp) := by rw [h0, Nat.zero_add, List.drop_left, body_ents]
  obtain ⟨q, i1, i2⟩ := ents_back (entsOf ys last) none ⟨saveB ys last tp, 0 + (numB ys.length).length, 0, []⟩ (textB (tapeB tp)) hc (fun x hx => by
    obtain ⟨k, -, rfl⟩ := List.mem_map.1 hx
    exact hA k) rfl d1
  have hl : (entsOf ys last).length = ys.length := by simp [entsOf]
  rw [hl] at i1
  rw [i1]
  simp only
  have e3 := textS_back (m := M30) (s := ⟨saveB ys last tp, q, 0, []⟩) (t := []) rfl hT (by unfold M30 at hT; omega) (by simpa using i2)
  rw [e3]
  simp only
  rw [if_pos ?_]
  unfold endS
  rw [if_neg (by simp)]
  simp only
  rw [if_neg ?_]
  have := congrArg List.length i2
  simp at this
  have h4 : 0 < (textB (tapeB tp)).length := by unfold textB; rw [List.length_append]; have := (numB_len (tapeB tp).length).2; omega
  omega
theorem tapeP_form : ∀ (n : Nat) (d : List UInt8) (L : List (List UInt8)), d.length ≤ n → tapeP d = some L → tapeB L = d ∧ (∀ x ∈ L, x.length < 65536) ∧ L.length ≤ d.length
  | _, [], L, _, h => by cases h; exact ⟨rfl, (fun x h => by cases h), Nat.le_refl _⟩
  | 0, _ :: _, _, hn, _ => by simp at hn
  | _ + 1, [_], L, _, h => by rw [tapeP_one] at h; cases h
  | n + 1, x :: y :: r, L, hn, h => by
    rw [tapeP_cons] at h
    split at h
    · rename_i hle
      obtain ⟨L2, h2, rfl⟩ := Option.map_eq_some_iff.1 h
      obtain ⟨i1, i2, i3⟩ := tapeP_form n _ L2 (by simp at hn ⊢; omega) h2
      have hx := x.toNat_lt
      have hy := y.toNat_lt
      have hl : (r.take (x.toNat + 256 * y.toNat)).length = x.toNat + 256 * y.toNat := by rw [List.length_take]; omega
      refine ⟨?_, fun z hz => ?_, ?_⟩
      · rw [tapeB_cons, hl, i1, List.take_append_drop]
        unfold lenB
        rw [show UInt8.ofNat (x.toNat + 256 * y.toNat) = x from by apply UInt8.toNat_inj.1; simp only [UInt8.toNat_ofNat']; omega, show UInt8.ofNat ((x.toNat + 256 * y.toNat) / 256) = y from by apply UInt8.toNat_inj.1; simp only [UInt8.toNat_ofNat']; omega]
        rfl
      · rcases List.mem_cons.1 hz with rfl | hz
        · rw [hl]; omega
        · exact i2 z hz
      · simp at i3 ⊢; omega
    · cases h
end Go.Proofs.Ythchpdflnpfjkaa
