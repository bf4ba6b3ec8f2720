/- THE REFERENCE's READER OF STRUCTS: a reader, and a fault of its own; its leaves. -/
import Derived.Test.YthchpdflnpfjkaaQRef
import Derived.Test.YthchpdflnpfjkaaQPars
namespace Go.Proofs.Ythchpdflnpfjkaa
open Go.RowKit

/-- What is seen of it: the same bytes; the first fault; the same place, while there is none. -/
structure Sees (s s0 : RdS) (bad : Int) : Prop where
  B : s.B = s0.B
  e : s.e = if bad ≠ 0 then bad else s0.e
  pos : s.e = 0 → s.pos = s0.pos
def IsIn (w : World) (x : Nat) (p : Nat → Prop) (s : RdS) : Prop := ∃ (s0 : RdS) (bad : Int), s0.rest = [.int .i64 bad] ∧ IsRd w 116 x p s0 ∧ Sees s s0 bad
theorem IsIn.keep {S : Nat → Prop} {w w' : World} {x : Nat} {p : Nat → Prop} {s : RdS} (h : IsIn w x p s) (k : Keep S w w') (hr : ¬ S x) (hp : ∀ b, p b → ¬ S b) : IsIn w' x p s := by
  obtain ⟨s0, bad, h1, h2, h3⟩ := h
  exact ⟨s0, bad, h1, h2.keep k hr hp, h3⟩
theorem IsIn.nix {w w' : World} {x : Nat} {p : Nat → Prop} {s : RdS} (h : IsIn w x p s) (k : Keep Nix w w') : IsIn w' x p s := h.keep k id (fun _ _ h => h)
theorem IsIn.lt {w : World} {x : Nat} {p : Nat → Prop} {s : RdS} (h : IsIn w x p s) : x < w.heap.size := by
  obtain ⟨s0, bad, h1, h2, h3⟩ := h
  exact h2.lt
theorem IsIn.same {w w' : World} {x : Nat} {p : Nat → Prop} {s : RdS} (h : IsIn w x p s) (hh : w'.heap = w.heap := by rfl) : IsIn w' x p s := by
  obtain ⟨s0, bad, h1, h2, h3⟩ := h
  exact ⟨s0, bad, h1, h2.same hh, h3⟩
theorem Sees.fine {s s0 : RdS} {bad : Int} (h : Sees s s0 bad) (he : s.e = 0) : bad = 0 ∧ s0.e = 0 ∧ s.pos = s0.pos := by
  have h1 := h.e
  rw [he] at h1
  by_cases hb : bad = 0
  · rw [if_neg (by simpa using hb)] at h1
    exact ⟨hb, h1.symm, h.pos he⟩
  · rw [if_pos hb] at h1
    exact absurd h1.symm hb
theorem Sees.numS {s s0 : RdS} {bad : Int} (h : Sees s s0 bad) (he : s.e = 0) (m : Nat) : (numS m s).1 = (numS m s0).1 ∧ Sees (numS m s).2 (numS m s0).2 bad := by
  obtain ⟨h1, h2, h3⟩ := h.fine he
  have hB := h.B
  obtain ⟨B, q, e, r⟩ := s
  obtain ⟨B0, q0, e0, r0⟩ := s0
  simp only at he h2 h3 hB
  subst h1 he h2 h3 hB
  clear h
  by_cases hL : (lookB (B.drop q)).2.2 = 0
  · by_cases hm : m < (lookB (B.drop q)).1
    · have key : ∀ r, Go.Proofs.Ythchpdflnpfjkaa.numS m ⟨B, q, 0, r⟩ = (0, ⟨B, q, 9, r⟩) := fun r => by unfold Go.Proofs.Ythchpdflnpfjkaa.numS; rw [if_neg (by simp), if_neg (by simpa using hL), if_pos hm]
      rw [key, key]
      exact ⟨rfl, rfl, by simp, fun _ => rfl⟩
    · have key : ∀ r, Go.Proofs.Ythchpdflnpfjkaa.numS m ⟨B, q, 0, r⟩ = ((lookB (B.drop q)).1, ⟨B, q + (lookB (B.drop q)).2.1, 0, r⟩) := fun r => by unfold Go.Proofs.Ythchpdflnpfjkaa.numS; rw [if_neg (by simp), if_neg (by simpa using hL), if_neg hm]
      rw [key, key]
      exact ⟨rfl, rfl, by simp, fun _ => rfl⟩
  · have key : ∀ r, Go.Proofs.Ythchpdflnpfjkaa.numS m ⟨B, q, 0, r⟩ = (0, ⟨B, q, (lookB (B.drop q)).2.2, r⟩) := fun r => by unfold Go.Proofs.Ythchpdflnpfjkaa.numS; rw [if_neg (by simp), if_pos (by simpa using hL)]
    rw [key, key]
    exact ⟨rfl, rfl, by simp, fun _ => rfl⟩
theorem Sees.textS {s s0 : RdS} {bad : Int} (h : Sees s s0 bad) (he : s.e = 0) (m : Nat) : (textS m s).1 = (textS m s0).1 ∧ Sees (textS m s).2 (textS m s0).2 bad := by
  obtain ⟨h1, h2, h3⟩ := h.fine he
  obtain ⟨n1, n2⟩ := h.numS he m
  have hB := h.B
  subst h1
  have hE : (Go.Proofs.Ythchpdflnpfjkaa.numS m s).2.e = (Go.Proofs.Ythchpdflnpfjkaa.numS m s0).2.e := by have := n2.e; simpa using this
  by_cases hz : (Go.Proofs.Ythchpdflnpfjkaa.numS m s0).2.e = 0
  · have hp := n2.pos (by rw [hE, hz])
    have e1 : Go.Proofs.Ythchpdflnpfjkaa.textS m s = if s0.B.length - (Go.Proofs.Ythchpdflnpfjkaa.numS m s0).2.pos < (Go.Proofs.Ythchpdflnpfjkaa.numS m s0).1 then ([], { s with e := 8 }) else ((s0.B.drop (Go.Proofs.Ythchpdflnpfjkaa.numS m s0).2.pos).take (Go.Proofs.Ythchpdflnpfjkaa.numS m s0).1, { s with pos := (Go.Proofs.Ythchpdflnpfjkaa.numS m s0).2.pos + (Go.Proofs.Ythchpdflnpfjkaa.numS m s0).1 }) := by
      unfold Go.Proofs.Ythchpdflnpfjkaa.textS; rw [if_neg (by simpa using he), if_neg (by rw [hE]; simpa using hz), n1, hp, hB]
    have e2 : Go.Proofs.Ythchpdflnpfjkaa.textS m s0 = if s0.B.length - (Go.Proofs.Ythchpdflnpfjkaa.numS m s0).2.pos < (Go.Proofs.Ythchpdflnpfjkaa.numS m s0).1 then ([], { s0 with e := 8 }) else ((s0.B.drop (Go.Proofs.Ythchpdflnpfjkaa.numS m s0).2.pos).take (Go.Proofs.Ythchpdflnpfjkaa.numS m s0).1, { s0 with pos := (Go.Proofs.Ythchpdflnpfjkaa.numS m s0).2.pos + (Go.Proofs.Ythchpdflnpfjkaa.numS m s0).1 }) := by
      unfold Go.Proofs.Ythchpdflnpfjkaa.textS; rw [if_neg (by simpa using h2), if_neg (by simpa using hz)]
    rw [e1, e2]
    by_cases hc : s0.B.length - (Go.Proofs.Ythchpdflnpfjkaa.numS m s0).2.pos < (Go.Proofs.Ythchpdflnpfjkaa.numS m s0).1
    · rw [if_pos hc, if_pos hc]
      exact ⟨rfl, hB, by simp, fun _ => h3⟩
    · rw [if_neg hc, if_neg hc]
      exact ⟨rfl, hB, by simp [he, h2], fun _ => rfl⟩
  · have e1 : Go.Proofs.Ythchpdflnpfjkaa.textS m s = ([], (Go.Proofs.Ythchpdflnpfjkaa.numS m s).2) := by
      unfold Go.Proofs.Ythchpdflnpfjkaa.textS; rw [if_neg (by simpa using he), if_pos (by rw [hE]; exact hz)]
    have e2 : Go.Proofs.Ythchpdflnpfjkaa.textS m s0 = ([], (Go.Proofs.Ythchpdflnpfjkaa.numS m s0).2) := by
      unfold Go.Proofs.Ythchpdflnpfjkaa.textS; rw [if_neg (by simpa using h2), if_pos hz]
    rw [e1, e2]
    exact ⟨rfl, n2⟩
theorem textS_rest (m : Nat) (s : RdS) : (Go.Proofs.Ythchpdflnpfjkaa.textS m s).2.rest = s.rest := by
  unfold Go.Proofs.Ythchpdflnpfjkaa.textS; split
  · rfl
  · split
    · exact numS_rest m s
    · split <;> rfl
theorem numS_stuck {s : RdS} (he : s.e ≠ 0) (m : Nat) : numS m s = (0, s) := by unfold numS; rw [if_pos he]
theorem textS_stuck {s : RdS} (he : s.e ≠ 0) (m : Nat) : textS m s = ([], s) := by unfold textS; rw [if_pos he]
theorem zag_zero : zag 0 = 0 := rfl
section
variable (x : Nat) (p : Nat → Prop) (s : RdS) (w : World)
theorem fault_c (h : IsIn w x p s) : Calls Try.prog 66 #[.pointer (some ⟨x, 0, none⟩)] w fun e w' => e = .returned (.bool (s.e != 0)) ∧ w = w' := by
  obtain ⟨s0, bad, hb, hr, hs⟩ := h
  obtain ⟨a, cap, row, -⟩ := hr.cells
  unfold RdAt at row
  rw [hb] at row
  have c2 := row.cell 2
  have c3 := row.cell 3
  have HS := Lib.hid hs.e
  clear row hr hs hb
  rcases test_eq bad 0 with ⟨t, e⟩ | ⟨t, e⟩
  · have t' : (bad != 0) = false := by simp [e.out]
    go_enter Try.func66, Try.ntmps66
    go_wp2
    go_ret
    exact ⟨ret_bool (by rw [HS.out, e.out]; simp), rfl⟩
  · have t' : (bad != 0) = true := by simp [e]
    have E := Lib.hid e
    clear e
    go_enter Try.func66, Try.ntmps66
    go_wp2
    go_ret
    exact ⟨ret_bool (by rw [HS.out, if_pos E.out]; simp [E.out]), rfl⟩
theorem inum_g (h : IsIn w x p s) : Calls Try.prog 55 #[.pointer (some ⟨x, 0, none⟩)] w fun e w' => e = .returned (.int .u64 (pNum s).1) ∧ IsIn w' x p (pNum s).2 ∧ Keep (· = x) w w' := by
  go_enter Try.func55, Try.ntmps55
  go_wp2_with fail
  go_fit (fault_c x p s w h)
  rintro e w1 ⟨rfl, rfl⟩
  rcases test_eq s.e 0 with ⟨t, e⟩ | ⟨t, e⟩
  · have t' : (s.e != 0) = false := by simp [e.out]
    obtain ⟨s0, bad, hb, hr, hs⟩ := h
    have hn := Lib.hid (hs.numS e.out maxU)
    have hrest := Lib.hid ((numS_rest maxU s0).trans hb)
    clear hs hb
    go_wp2_with fail
    go_fit (RNum x p s0 w hr)
    rintro e w1 ⟨rfl, h1, k1⟩
    go_wp2
    go_ret
    exact ⟨by unfold pNum; rw [hn.out.1]; rfl, ⟨_, bad, hrest.out, h1, hn.out.2⟩, k1⟩
  · have t' : (s.e != 0) = true := by simp [e]
    have E := Lib.hid e
    clear e
    go_wp2_with fail
    go_ret
    unfold pNum
    rw [numS_stuck E.out]
    exact ⟨rfl, h, Keep.refl _ _⟩
theorem ibytes_g (h : IsIn w x p s) : Calls Try.prog 56 #[.pointer (some ⟨x, 0, none⟩)] w fun e w' => ∃ v, e = .returned v ∧ rBytes w' (NewIn w w') [v] (pBytes s).1 ∧ IsIn w' x p (pBytes s).2 ∧ Keep (· = x) w w' := by
  go_enter Try.func56, Try.ntmps56
  go_wp2_with fail
  go_fit (fault_c x p s w h)
  rintro e w1 ⟨rfl, rfl⟩
  rcases test_eq s.e 0 with ⟨t, e⟩ | ⟨t, e⟩
  · have t' : (s.e != 0) = false := by simp [e.out]
    obtain ⟨s0, bad, hb, hr, hs⟩ := h
    have hn := Lib.hid (hs.textS e.out 65536)
    have hl := Lib.hid (textS_len 65536 s0)
    have hrest := Lib.hid ((textS_rest 65536 s0).trans hb)
    clear hs hb
    go_wp2_with fail
    go_fit (RText x p s0 w hr 65536 (by unfold isI64; omega))
    rintro e w1 ⟨a, cap, rfl, own, h1, k1⟩
    have hbd := owned_bounds own
    have hr2 : rBytes w1 (NewIn w w1) [.slice a (textS 65536 s0).1.length cap] (textS 65536 s0).1 := by
      refine ⟨a, cap, rfl, fun hx => ?_, hbd.2.1, by have := hl.out; unfold far; omega⟩
      obtain ⟨b, off, ha, hp, hb, hc⟩ := Lies.of_owned own hx
      exact ⟨b, off, ha, ⟨hp.1, hb⟩, hb, hc⟩
    clear own hl hbd
    go_wp2
    go_ret
    refine ⟨_, rfl, ?_, ⟨_, bad, hrest.out, h1, hn.out.2⟩, k1⟩
    unfold pBytes
    rw [hn.out.1]
    exact hr2
  · have t' : (s.e != 0) = true := by simp [e]
    have E := Lib.hid e
    clear e
    go_wp2_with fail
    go_ret
    unfold pBytes
    rw [textS_stuck E.out]
    exact ⟨_, rfl, ⟨none, 0, rfl, Lies.nil _ _ _, by simp, by simp⟩, h, Keep.refl _ _⟩
/-- A fault of its own. -/
theorem IsIn.setBad {x : Nat} {p : Nat → Prop} {s : RdS} {w : World} (h : IsIn w x p s) : IsIn (w.setCell ⟨x, 3, none⟩ (.int .i64 9)) x p { s with e := 9 } := by
  obtain ⟨s0, bad, hb, ⟨⟨a, cap, row, lies, hc, hcm⟩, ap, hp⟩, hs⟩ := h
  refine ⟨{ s0 with rest := [.int .i64 9] }, 9, rfl, ⟨⟨a, cap, ?_, lies.keep ((Keep.refl (· = x) w).setCell (fun _ => rfl) _) (fun b hb e => ap (e ▸ hb)), hc, hcm⟩, ap, hp⟩, hs.B, by simp, fun hz => by simp at hz⟩
  unfold RdAt at row ⊢
  rw [hb] at row
  exact RowIs.set row 3 _
theorem IsIn.bad {x : Nat} {p : Nat → Prop} {s : RdS} {w : World} (h : IsIn w x p s) : ∃ bad, w.cell? ⟨x, 3, none⟩ = some (.int .i64 bad) ∧ w.frozen? ⟨x, 3, none⟩ = false := by
  obtain ⟨s0, bad, hb, hr, hs⟩ := h
  obtain ⟨a, cap, row, -⟩ := hr.cells
  unfold RdAt at row
  rw [hb] at row
  exact ⟨bad, row.cell 3, row.frozen 3⟩
end
/-- What a method of the reference's reader ends with. -/
def GotV {α : Type} (R : RD α) (x : Nat) (p : Nat → Prop) (w : World) (y : α × RdS) (e : Ending) (w' : World) : Prop := ∃ v, e = .returned v ∧ R w' (NewIn w w') [v] y.1 ∧ IsIn w' x p y.2 ∧ Keep (· = x) w w'
def GotS {α : Type} (R : RD α) (x : Nat) (p : Nat → Prop) (w : World) (y : α × RdS) (e : Ending) (w' : World) : Prop := ∃ cs : List Value, e = .returned (.agg cs.toArray) ∧ R w' (NewIn w w') cs y.1 ∧ ones cs = true ∧ IsIn w' x p y.2 ∧ Keep (· = x) w w'
def NewBut (n c : Nat) (w' : World) : Nat → Prop := fun b => n ≤ b ∧ b < w'.heap.size ∧ b ≠ c
end Go.Proofs.Ythchpdflnpfjkaa
