/- THE REFERENCE's READER OF STRUCTS: a reader, and a fault of its own; its leaves. -/
import Derived.Test.YtabgbleldbapbaaGreatRef
import Derived.Test.YtabgbleldbapbaaGreatPars
namespace Go.Proofs.YtabgbleldbapbaaGreat
open Go.RowKit

/-- What is seen of it: the same bytes; the first fault; the same place, while there is none. -/
structure Sees (s s0 : RdS) (bad : Int) : Prop where
  B : s.B = s0.B
  e : s.e = if bad ≠ 0 then bad else s0.e
  pos : s.e = 0 → s.pos = s0.pos
def IsIn (w : World) (x : Nat) (p : Nat → Prop) (s : RdS) : Prop := ∃ (s0 : RdS) (bad : Int), s0.rest = [.int .i64 bad] ∧ IsRd w 169 x p s0 ∧ Sees s s0 bad
theorem IsIn.keep {S : Nat → Prop} {w w' : World} {x : Nat} {p : Nat → Prop} {s : RdS} (h : IsIn w x p s) (k : Keep S w w') (hr : ¬ S x) (hp : ∀ b, p b → ¬ S b) : IsIn w' x p s := by
  obtain ⟨s0, bad, h1, h2, h3⟩ := h
  exact ⟨s0, bad, h1, h2.keep k hr hp, h3⟩
theorem IsIn.nix {w w' : World} {x : Nat} {p : Nat → Prop} {s : RdS} (h : IsIn w x p s) (k : Keep Nix w w') : IsIn w' x p s := h.keep k id (fun _ _ h => h)
theorem IsIn.lt {w : World} {x : Nat} {p : Nat → Prop} {s : RdS} (h : IsIn w x p s) : x < w.heap.size := by
  obtain ⟨s0, bad, h1, h2, h3⟩ := h
  exact h2.lt
theorem IsIn.same {w w' : World} {x : Nat} {p : Nat → Prop} {s : RdS} (h : IsIn w x p s) (hh : w'.heap = w.heap := by rfl) : IsIn w' x p s := by
  obtain ⟨s0, bad, h1, h2, h3⟩ := h
  exact ⟨s0, bad, h1, h2.same hh, h3⟩
theorem Sees.fine {s s0 : RdS} {bad : Int} (h : Sees s s0 bad) (he : s.e = 0) : bad = 0 ∧ s0.e = 0 ∧ s.pos = s0.pos := by
  have h1 := h.e
  rw [he] at h1
  by_cases hb : bad = 0
  · rw [if_neg (by simpa using hb)] at h1
    exact ⟨hb, h1.symm, h.pos he⟩
  · rw [if_pos hb] at h1
    exact absurd h1.symm hb
theorem Sees.numS {s s0 : RdS} {bad : Int} (h : Sees s s0 bad) (he : s.e = 0) (m : Nat) : (numS m s).1 = (numS m s0).1 ∧ Sees (numS m s).2 (numS m s0).2 bad := by
  obtain ⟨h1, h2, h3⟩ := h.fine he
  have hB := h.B
  obtain ⟨B, q, e, r⟩ := s
  obtain ⟨B0, q0, e0, r0⟩ := s0
  simp only at he h2 h3 hB
  subst h1 he h2 h3 hB
  clear h
  by_cases hL : (lookB (B.drop q)).2.2 = 0
  · by_cases hm : m < (lookB (B.drop q)).1
    · have key : ∀ r, Go.Proofs.YtabgbleldbapbaaGreat.numS m ⟨B, q, 0, r⟩ = (0, ⟨B, q, 9, r⟩) := fun r => by unfold Go.Proofs.YtabgbleldbapbaaGreat.numS; rw [if_neg (by simp), if_neg (by simpa using hL), if_pos hm]
      rw [key, key]
      exact ⟨rfl, rfl, by simp, fun _ => rfl⟩
    · have key : ∀ r, Go.Proofs.YtabgbleldbapbaaGreat.numS m ⟨B, q, 0, r⟩ = ((lookB (B.drop q)).1, ⟨B, q + (lookB (B.drop q)).2.1, 0, r⟩) := fun r => by unfold Go.Proofs.YtabgbleldbapbaaGreat.numS; rw [if_neg (by simp), if_neg (by simpa using hL), if_neg hm]
      rw [key, key]
      exact ⟨rfl, rfl, by simp, fun _ => rfl⟩
  · have key : ∀ r, Go.Proofs.YtabgbleldbapbaaGreat.numS m ⟨B, q, 0, r⟩ = (0, ⟨B, q, (lookB (B.drop q)).2.2, r⟩) := fun r => by unfold Go.Proofs.YtabgbleldbapbaaGreat.numS; rw [if_neg (by simp), if_pos (by simpa using hL)]
    rw [key, key]
    exact ⟨rfl, rfl, by simp, fun _ => rfl⟩
theorem Sees.textS {s s0 : RdS} {bad : Int} (h : Sees s s0 bad) (he : s.e = 0) (m : Nat) : (textS m s).1 = (textS m s0).1 ∧ Sees (textS m s).2 (textS m s0).2 bad := by
  obtain ⟨h1, h2, h3⟩ := h.fine he
  obtain ⟨n1, n2⟩ := h.numS he m
  have hB := h.B
  subst h1
  have hE : (Go.Proofs.YtabgbleldbapbaaGreat.numS m s).2.e = (Go.Proofs.YtabgbleldbapbaaGreat.numS m s0).2.e := by have := n2.e; simpa using this
  by_cases hz : (Go.Proofs.YtabgbleldbapbaaGreat.numS m s0).2.e = 0
  · have hp := n2.pos (by rw [hE, hz])
    have e1 : Go.Proofs.YtabgbleldbapbaaGreat.textS m s = if s0.B.length - (Go.Proofs.YtabgbleldbapbaaGreat.numS m s0).2.pos < (Go.Proofs.YtabgbleldbapbaaGreat.numS m s0).1 then ([], { s with e := 8 }) else ((s0.B.drop (Go.Proofs.YtabgbleldbapbaaGreat.numS m s0).2.pos).take (Go.Proofs.YtabgbleldbapbaaGreat.numS m s0).1, { s with pos := (Go.Proofs.YtabgbleldbapbaaGreat.numS m s0).2.pos + (Go.Proofs.YtabgbleldbapbaaGreat.numS m s0).1 }) := by
      unfold Go.Proofs.YtabgbleldbapbaaGreat.textS; rw [if_neg (by simpa using he), if_neg (by rw [hE]; simpa using hz), n1, hp, hB]
    have e2 : Go.Proofs.YtabgbleldbapbaaGreat.textS m s0 = if s0.B.length - (Go.Proofs.YtabgbleldbapbaaGreat.numS m s0).2.pos < (Go.Proofs.YtabgbleldbapbaaGreat.numS m s0).1 then ([], { s0 with e := 8 }) else ((s0.B.drop (Go.Proofs.YtabgbleldbapbaaGreat.numS m s0).2.pos).take (Go.Proofs.YtabgbleldbapbaaGreat.numS m s0).1, { s0 with pos := (Go.Proofs.YtabgbleldbapbaaGreat.numS m s0).2.pos + (Go.Proofs.YtabgbleldbapbaaGreat.numS m s0).1 }) := by
      unfold Go.Proofs.YtabgbleldbapbaaGreat.textS; rw [if_neg (by simpa using h2), if_neg (by simpa using hz)]
    rw [e1, e2]
    by_cases hc : s0.B.length - (Go.Proofs.YtabgbleldbapbaaGreat.numS m s0).2.pos < (Go.Proofs.YtabgbleldbapbaaGreat.numS m s0).1
    · rw [if_pos hc, if_pos hc]
      exact ⟨rfl, hB, by simp, fun _ => h3⟩
    · rw [if_neg hc, if_neg hc]
      exact ⟨rfl, hB, by simp [he, h2], fun _ => rfl⟩
  · have e1 : Go.Proofs.YtabgbleldbapbaaGreat.textS m s = ([], (Go.Proofs.YtabgbleldbapbaaGreat.numS m s).2) := by
      unfold Go.Proofs.YtabgbleldbapbaaGreat.textS; rw [if_neg (by simpa using he), if_pos (by rw [hE]; exact hz)]
    have e2 : Go.Proofs.YtabgbleldbapbaaGreat.textS m s0 = ([], (Go.Proofs.YtabgbleldbapbaaGreat.numS m s0).2) := by
      unfold Go.Proofs.YtabgbleldbapbaaGreat.textS; rw [if_neg (by simpa using h2), if_pos hz]
    rw [e1, e2]
    exact ⟨rfl, n2⟩
theorem textS_rest (m : Nat) (s : RdS) : (Go.Proofs.YtabgbleldbapbaaGreat.textS m s).2.rest = s.rest := by
  unfold Go.Proofs.YtabgbleldbapbaaGreat.textS; split
  · rfl
  · split
    · exact numS_rest m s
    · split <;> rfl
theorem numS_stuck {s : RdS} (he : s.e ≠ 0) (m : Nat) : numS m s = (0, s) := by unfold numS; rw [if_pos he]
theorem textS_stuck {s : RdS} (he : s.e ≠ 0) (m : Nat) : textS m s = ([], s) := by unfold textS; rw [if_pos he]
theorem zag_zero : zag 0 = 0 := rfl
section
variable (x : Nat) (p : Nat → Prop) (s : RdS) (w : World)
theorem fault_c (h : IsIn w x p s) : Calls Tryz.prog 97 #[.pointer (some ⟨x, 0, none⟩)] w fun e w' => e = .returned (.bool (s.e != 0)) ∧ w = w' := by
  obtain ⟨s0, bad, hb, hr, hs⟩ := h
  obtain ⟨a, cap, row, -⟩ := hr.cells
  unfold RdAt at row
  rw [hb] at row
  have c2 := row.cell 2
  have c3 := row.cell 3
  have HS := Lib.hid hs.e
  clear row hr hs hb
  rcases test_eq bad 0 with ⟨t, e⟩ | ⟨t, e⟩
  · have t' : (bad != 0) = false := by simp [e.out]
    go_enter Tryz.func97, Tryz.ntmps97
    go_wp2
    go_ret
    exact ⟨ret_bool (by rw [HS.out, e.out]; simp), rfl⟩
  · have t' : (bad != 0) = true := by simp [e]
    have E := Lib.hid e
    clear e
    go_enter Tryz.func97, Tryz.ntmps97
    go_wp2
    go_ret
    exact ⟨ret_bool (by rw [HS.out, if_pos E.out]; simp [E.out]), rfl⟩
theorem inum_g (h : IsIn w x p s) : Calls Tryz.prog 33 #[.pointer (some ⟨x, 0, none⟩)] w fun e w' => e = .returned (.int .u64 (pNum s).1) ∧ IsIn w' x p (pNum s).2 ∧ Keep (· = x) w w' := by
  go_enter Tryz.func33, Tryz.ntmps33
  go_wp2_with fail
  go_fit (fault_c x p s w h)
  rintro e w1 ⟨rfl, rfl⟩
  rcases test_eq s.e 0 with ⟨t, e⟩ | ⟨t, e⟩
  · have t' : (s.e != 0) = false := by simp [e.out]
    obtain ⟨s0, bad, hb, hr, hs⟩ := h
    have hn := Lib.hid (hs.numS e.out maxU)
    have hrest := Lib.hid ((numS_rest maxU s0).trans hb)
    clear hs hb
    go_wp2_with fail
    go_fit (RNum x p s0 w hr)
    rintro e w1 ⟨rfl, h1, k1⟩
    go_wp2
    go_ret
    exact ⟨by unfold pNum; rw [hn.out.1]; rfl, ⟨_, bad, hrest.out, h1, hn.out.2⟩, k1⟩
  · have t' : (s.e != 0) = true := by simp [e]
    have E := Lib.hid e
    clear e
    go_wp2_with fail
    go_ret
    unfold pNum
    rw [numS_stuck E.out]
    exact ⟨rfl, h, Keep.refl _ _⟩
theorem iwide_g (h : IsIn w x p s) : Calls Tryz.prog 113 #[.pointer (some ⟨x, 0, none⟩)] w fun e w' => e = .returned (.int .i64 (pInt s).1) ∧ IsIn w' x p (pInt s).2 ∧ Keep (· = x) w w' := by
  go_enter Tryz.func113, Tryz.ntmps113
  go_wp2_with fail
  go_fit (fault_c x p s w h)
  rintro e w1 ⟨rfl, rfl⟩
  rcases test_eq s.e 0 with ⟨t, e⟩ | ⟨t, e⟩
  · have t' : (s.e != 0) = false := by simp [e.out]
    obtain ⟨s0, bad, hb, hr, hs⟩ := h
    have hn := Lib.hid (hs.numS e.out maxU)
    have hrest := Lib.hid ((numS_rest maxU s0).trans hb)
    clear hs hb
    go_wp2_with fail
    go_fit (RInt x p s0 w hr)
    rintro e w1 ⟨rfl, h1, k1⟩
    go_wp2
    go_ret
    exact ⟨by unfold pInt; rw [hn.out.1]; rfl, ⟨_, bad, hrest.out, h1, hn.out.2⟩, k1⟩
  · have t' : (s.e != 0) = true := by simp [e]
    have E := Lib.hid e
    clear e
    go_wp2_with fail
    go_ret
    unfold pInt
    rw [numS_stuck E.out]
    refine ⟨?_, h, Keep.refl _ _⟩
    show Ending.returned (.int .i64 0) = Ending.returned (.int .i64 (zag 0))
    rw [zag_zero]
theorem iint_g (h : IsIn w x p s) : Calls Tryz.prog 38 #[.pointer (some ⟨x, 0, none⟩)] w fun e w' => e = .returned (.int .i64 (pInt s).1) ∧ IsIn w' x p (pInt s).2 ∧ Keep (· = x) w w' := by
  have hw : IntKind.i64.wrap (pInt s).1 = (pInt s).1 := by
    have hb : isI64 (pInt s).1 := isI64_wf (zag_wf (numS_lt maxU s))
    unfold isI64 at hb
    rw [IntKind.wrap_i64]; omega
  go_enter Tryz.func38, Tryz.ntmps38
  go_wp2_with fail
  go_fit (iwide_g x p s w h)
  rintro e w1 ⟨rfl, h1, k1⟩
  go_wp2
  go_ret
  exact ⟨rfl, h1, k1⟩
theorem ibytes_g (h : IsIn w x p s) : Calls Tryz.prog 34 #[.pointer (some ⟨x, 0, none⟩)] w fun e w' => ∃ v, e = .returned v ∧ rBytes w' (NewIn w w') [v] (pBytes s).1 ∧ IsIn w' x p (pBytes s).2 ∧ Keep (· = x) w w' := by
  go_enter Tryz.func34, Tryz.ntmps34
  go_wp2_with fail
  go_fit (fault_c x p s w h)
  rintro e w1 ⟨rfl, rfl⟩
  rcases test_eq s.e 0 with ⟨t, e⟩ | ⟨t, e⟩
  · have t' : (s.e != 0) = false := by simp [e.out]
    obtain ⟨s0, bad, hb, hr, hs⟩ := h
    have hn := Lib.hid (hs.textS e.out 65536)
    have hl := Lib.hid (textS_len 65536 s0)
    have hrest := Lib.hid ((textS_rest 65536 s0).trans hb)
    clear hs hb
    go_wp2_with fail
    go_fit (RText x p s0 w hr 65536 (by unfold isI64; omega))
    rintro e w1 ⟨a, cap, rfl, own, h1, k1⟩
    have hbd := owned_bounds own
    have hr2 : rBytes w1 (NewIn w w1) [.slice a (textS 65536 s0).1.length cap] (textS 65536 s0).1 := by
      refine ⟨a, cap, rfl, fun hx => ?_, hbd.2.1, by have := hl.out; unfold far; omega⟩
      obtain ⟨b, off, ha, hp, hb, hc⟩ := Lies.of_owned own hx
      exact ⟨b, off, ha, ⟨hp.1, hb⟩, hb, hc⟩
    clear own hl hbd
    go_wp2
    go_ret
    refine ⟨_, rfl, ?_, ⟨_, bad, hrest.out, h1, hn.out.2⟩, k1⟩
    unfold pBytes
    rw [hn.out.1]
    exact hr2
  · have t' : (s.e != 0) = true := by simp [e]
    have E := Lib.hid e
    clear e
    go_wp2_with fail
    go_ret
    unfold pBytes
    rw [textS_stuck E.out]
    exact ⟨_, rfl, ⟨none, 0, rfl, Lies.nil _ _ _, by simp, by simp⟩, h, Keep.refl _ _⟩
theorem itext_g (h : IsIn w x p s) : Calls Tryz.prog 46 #[.pointer (some ⟨x, 0, none⟩)] w fun e w' => e = .returned (.string (strB (pBytes s).1)) ∧ IsIn w' x p (pBytes s).2 ∧ Keep (· = x) w w' := by
  go_enter Tryz.func46, Tryz.ntmps46
  go_wp2_with fail
  go_fit (ibytes_g x p s w h)
  rintro e w1 ⟨v, rfl, ⟨a, cap, hv, hl, -, -⟩, h1, k1⟩
  simp only [List.cons.injEq, and_true] at hv
  subst hv
  have hcv := conv_bytes (P := Tryz.prog) Tryz.underlying22 Tryz.underlying5 Tryz.underlying9 (cap := cap) rfl hl
  clear hl
  go_wp2
  go_ret
  exact ⟨rfl, h1, k1⟩
/-- A fault of its own. -/
theorem IsIn.setBad {x : Nat} {p : Nat → Prop} {s : RdS} {w : World} (h : IsIn w x p s) : IsIn (w.setCell ⟨x, 3, none⟩ (.int .i64 9)) x p { s with e := 9 } := by
  obtain ⟨s0, bad, hb, ⟨⟨a, cap, row, lies, hc, hcm⟩, ap, hp⟩, hs⟩ := h
  refine ⟨{ s0 with rest := [.int .i64 9] }, 9, rfl, ⟨⟨a, cap, ?_, lies.keep ((Keep.refl (· = x) w).setCell (fun _ => rfl) _) (fun b hb e => ap (e ▸ hb)), hc, hcm⟩, ap, hp⟩, hs.B, by simp, fun hz => by simp at hz⟩
  unfold RdAt at row ⊢
  rw [hb] at row
  exact RowIs.set row 3 _
theorem IsIn.bad {x : Nat} {p : Nat → Prop} {s : RdS} {w : World} (h : IsIn w x p s) : ∃ bad, w.cell? ⟨x, 3, none⟩ = some (.int .i64 bad) ∧ w.frozen? ⟨x, 3, none⟩ = false := by
  obtain ⟨s0, bad, hb, hr, hs⟩ := h
  obtain ⟨a, cap, row, -⟩ := hr.cells
  unfold RdAt at row
  rw [hb] at row
  exact ⟨bad, row.cell 3, row.frozen 3⟩
theorem ibool_g (h : IsIn w x p s) : Calls Tryz.prog 39 #[.pointer (some ⟨x, 0, none⟩)] w fun e w' => e = .returned (.bool (pFlag s).1) ∧ IsIn w' x p (pFlag s).2 ∧ Keep (· = x) w w' := by
  have hm := Lib.hid (numS_most 1 s)
  have hbad := Lib.hid (numS_bad maxU s)
  go_enter Tryz.func39, Tryz.ntmps39
  go_wp2_with fail
  go_fit (inum_g x p s w h)
  rintro e w1 ⟨rfl, h1, k1⟩
  have hP : Hid (pNum s = (((numS maxU s).1 : Int), (numS maxU s).2)) := rfl
  obtain ⟨v, hv⟩ : ∃ v : Nat, Hid ((numS maxU s).1 = v) := ⟨_, rfl⟩
  obtain ⟨s1, hs1⟩ : ∃ s1 : RdS, Hid ((numS maxU s).2 = s1) := ⟨_, rfl⟩
  rw [hP.out, hv.out]
  rw [hP.out, hs1.out] at h1
  clear hP
  rcases Int.lt_or_le 1 (v : Int) with hgt | hle
  · have hgt' : decide ((1 : Int) < (v : Int)) = true := decide_eq_true hgt
    go_wp2_with fail
    go_fit (fault_c x p s1 w1 h1)
    rintro e w2 ⟨rfl, rfl⟩
    rcases test_eq s1.e 0 with ⟨t, e⟩ | ⟨t, e⟩
    · have t' : (s1.e != 0) = false := by simp [e.out]
      obtain ⟨bad, hcb, hfb⟩ := h1.bad
      have h2 := h1.setBad
      have hB : Hid (s1.B = s.B ∧ s1.rest = s.rest ∧ s1.pos = s1.pos) := by
        rw [← hs1.out]; exact ⟨(numS_fields maxU s).1, numS_rest maxU s, rfl⟩
      have k2 := k1.setCell (p := ⟨x, 3, none⟩) (fun _ => rfl) (.int .i64 9)
      have hne : ((v : Int) == 1) = false := by simp; omega
      clear h1 k1
      go_wp2
      go_ret
      have hx : pFlag s = (false, { s with e := 9 }) := by
        unfold pFlag; rw [hm.out, if_pos ⟨by rw [hs1.out]; exact e.out, by rw [hv.out]; omega⟩]; rfl
      rw [hx]
      refine ⟨rfl, ?_, k2⟩
      obtain ⟨s0, bad2, q1, q2, q3⟩ := h2
      exact ⟨s0, bad2, q1, q2, by have := q3.B; rw [← this]; exact hB.out.1.symm, q3.e, fun hz => by simp at hz⟩
    · have t' : (s1.e != 0) = true := by simp [e]
      have hv0 : Hid (v = 0) := by show _ = _; rw [← hv.out]; exact hbad.out (by rw [hs1.out]; exact e)
      exact absurd hv0.out (by omega)
  · have hle' : decide ((1 : Int) < (v : Int)) = false := decide_eq_false (by omega)
    have hx : Hid (pFlag s = (decide ((v : Int) = 1), s1)) := by
      show _ = _
      unfold pFlag; rw [hm.out, if_neg (by rw [hv.out]; omega), hv.out, hs1.out]
    go_wp2
    go_ret
    rw [hx.out]
    exact ⟨ret_bool (by rw [Bool.eq_iff_iff]; simp), h1, k1⟩
theorem imany_g (h : IsIn w x p s) : Calls Tryz.prog 114 #[.pointer (some ⟨x, 0, none⟩)] w fun e w' => e = .returned (.int .i64 ((numS 5000 s).1 : Int)) ∧ IsIn w' x p (numS 5000 s).2 ∧ Keep (· = x) w w' := by
  have hm := Lib.hid (numS_most 5000 s)
  have hbad := Lib.hid (numS_bad maxU s)
  go_enter Tryz.func114, Tryz.ntmps114
  go_wp2_with fail
  go_fit (inum_g x p s w h)
  rintro e w1 ⟨rfl, h1, k1⟩
  have hP : Hid (pNum s = (((numS maxU s).1 : Int), (numS maxU s).2)) := rfl
  obtain ⟨v, hv⟩ : ∃ v : Nat, Hid ((numS maxU s).1 = v) := ⟨_, rfl⟩
  obtain ⟨s1, hs1⟩ : ∃ s1 : RdS, Hid ((numS maxU s).2 = s1) := ⟨_, rfl⟩
  rw [hP.out, hv.out]
  rw [hP.out, hs1.out] at h1
  clear hP
  rcases Int.lt_or_le 5000 (v : Int) with hgt | hle
  · have hgt' : decide ((5000 : Int) < (v : Int)) = true := decide_eq_true hgt
    go_wp2_with fail
    go_fit (fault_c x p s1 w1 h1)
    rintro e w2 ⟨rfl, rfl⟩
    rcases test_eq s1.e 0 with ⟨t, e⟩ | ⟨t, e⟩
    · have t' : (s1.e != 0) = false := by simp [e.out]
      obtain ⟨bad, hcb, hfb⟩ := h1.bad
      have h2 := h1.setBad
      have hB : Hid (s1.B = s.B) := by show _ = _; rw [← hs1.out]; exact (numS_fields maxU s).1
      have k2 := k1.setCell (p := ⟨x, 3, none⟩) (fun _ => rfl) (.int .i64 9)
      clear h1 k1
      go_wp2_with fail
      go_fit (fault_c x p { s1 with e := 9 } _ h2)
      rintro e w2 ⟨rfl, rfl⟩
      go_wp2
      go_ret
      have hx : numS 5000 s = (0, { s with e := 9 }) := by
        rw [hm.out, if_pos ⟨by rw [hs1.out]; exact e.out, by rw [hv.out]; omega⟩]
      rw [hx]
      refine ⟨rfl, ?_, k2⟩
      obtain ⟨s0, bad2, q1, q2, q3⟩ := h2
      exact ⟨s0, bad2, q1, q2, by have := q3.B; rw [← this]; exact hB.out.symm, q3.e, fun hz => by simp at hz⟩
    · have t' : (s1.e != 0) = true := by simp [e]
      have hv0 : Hid (v = 0) := by show _ = _; rw [← hv.out]; exact hbad.out (by rw [hs1.out]; exact e)
      exact absurd hv0.out (by omega)
  · have hle' : decide ((5000 : Int) < (v : Int)) = false := decide_eq_false (by omega)
    have hw : wrap64 (v : Int) = (v : Int) := by unfold wrap64; omega
    have hw2 : IntKind.i64.wrap (v : Int) = (v : Int) := by rw [IntKind.wrap_i64]; omega
    have hx : Hid (numS 5000 s = (v, s1)) := by
      show _ = _
      rw [hm.out, if_neg (by rw [hv.out]; omega), ← hv.out, ← hs1.out]
    go_wp2_with fail
    go_fit (fault_c x p s1 w1 h1)
    rintro e w2 ⟨rfl, rfl⟩
    rcases test_eq s1.e 0 with ⟨t, e⟩ | ⟨t, e⟩
    · have t' : (s1.e != 0) = false := by simp [e.out]
      go_wp2
      go_ret
      rw [hx.out]
      exact ⟨rfl, h1, k1⟩
    · have t' : (s1.e != 0) = true := by simp [e]
      have hv0 : Hid (v = 0) := by show _ = _; rw [← hv.out]; exact hbad.out (by rw [hs1.out]; exact e)
      go_wp2
      go_ret
      rw [hx.out, hv0.out]
      exact ⟨rfl, h1, k1⟩
end
/-- What a method of the reference's reader ends with. -/
def GotV {α : Type} (R : RD α) (x : Nat) (p : Nat → Prop) (w : World) (y : α × RdS) (e : Ending) (w' : World) : Prop := ∃ v, e = .returned v ∧ R w' (NewIn w w') [v] y.1 ∧ IsIn w' x p y.2 ∧ Keep (· = x) w w'
def GotS {α : Type} (R : RD α) (x : Nat) (p : Nat → Prop) (w : World) (y : α × RdS) (e : Ending) (w' : World) : Prop := ∃ cs : List Value, e = .returned (.agg cs.toArray) ∧ R w' (NewIn w w') cs y.1 ∧ ones cs = true ∧ IsIn w' x p y.2 ∧ Keep (· = x) w w'
def NewBut (n c : Nat) (w' : World) : Nat → Prop := fun b => n ≤ b ∧ b < w'.heap.size ∧ b ≠ c
end Go.Proofs.YtabgbleldbapbaaGreat
