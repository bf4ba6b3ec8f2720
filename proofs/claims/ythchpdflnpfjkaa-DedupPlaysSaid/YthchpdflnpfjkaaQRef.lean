/- THE REFERENCE's READER: its methods read what the program's do. -/
import Derived.Test.YthchpdflnpfjkaaQRdX
namespace Go.Proofs.Ythchpdflnpfjkaa
open Go.RowKit

/-- The reference's 'Num': whatever the fault, the same state. -/
theorem numS_ref (s : RdS) : numS maxU s = if s.e ≠ 0 then (0, s) else ((lookB (s.B.drop s.pos)).1, { s with pos := s.pos + (lookB (s.B.drop s.pos)).2.1, e := (lookB (s.B.drop s.pos)).2.2 }) := by
  unfold numS
  by_cases h : s.e = 0
  · have h' : ¬ s.e ≠ 0 := by simpa using h
    rw [if_neg h', if_neg h']
    rcases lookB_fine (s.B.drop s.pos) with ⟨a, b, -, -, -⟩ | ⟨a, b, c⟩
    · rw [if_neg (show ¬ (lookB (s.B.drop s.pos)).2.2 ≠ 0 by simpa using a), if_neg (show ¬ maxU < (lookB (s.B.drop s.pos)).1 by unfold maxU; omega), a, ← h]
    · rw [if_pos (show (lookB (s.B.drop s.pos)).2.2 ≠ 0 by omega), b, c]; rfl
  · rw [if_pos h, if_pos h]
set_option maxRecDepth 100000 in
set_option maxHeartbeats 1000000 in
theorem numS_rest (m : Nat) (s : RdS) : (numS m s).2.rest = s.rest := by
  unfold numS; split
  · rfl
  · split
    · rfl
    · split <;> rfl
theorem RNum {T : TypeId} (r : Nat) (p : Nat → Prop) (s : RdS) (w : World) (h : IsRd w T r p s) :
    Calls Try.prog 67 #[.pointer (some ⟨r, 0, none⟩)] w fun e w' =>
      e = .returned (.int .u64 (numS maxU s).1) ∧ IsRd w' T r p (numS maxU s).2 ∧ Keep (· = r) w w' := by
  obtain ⟨a, cap, -, lies, hc, hcm, c0, c1, c2, hr, hf⟩ := h.cells
  have hp := h.place
  have f1 := hf 1
  have f2 := hf 2
  have hs := Lib.hid (numS_ref s)
  clear hf
  by_cases he : s.e = 0
  · have te : (s.e != 0) = false := by simp [he]
    have HE := Lib.hid he
    clear he
    have hcut := lies.cut cap s.pos 1 (by simpa using hc)
    rw [← List.map_drop, Nat.mul_one] at hcut
    have hlen : Hid ((s.B.drop s.pos).length = s.B.length - s.pos) := by show _ = _; simp
    have hl := lookB_fine (s.B.drop s.pos)
    have hpl : s.pos + (lookB (s.B.drop s.pos)).2.1 ≤ s.B.length := by
      have := hlen.out
      rcases hl with ⟨-, -, -, a, -⟩ | ⟨-, -, a⟩ <;> omega
    clear hl lies
    go_enter Try.func67, Try.ntmps67
    go_wp2_with fail
    go_quiet ((go_at_call 81; exact quiet_eq (take_c _ _ _ _ _ hlen.out (hcut.same) (by omega))))
    generalize (if cap = s.pos then a else a.map (·.add s.pos)) = ax
    go_wp2_with fail
    go_ret
    rw [hs.out, if_neg (show ¬ s.e ≠ 0 by simpa using HE.out)]
    have h2 := (h.setErr (lookB (s.B.drop s.pos)).2.2).setPos (s.pos + (lookB (s.B.drop s.pos)).2.1) hpl
    rw [Int.natCast_add] at h2
    exact ⟨rfl, h2.same, (((Keep.refl (· = r) w).setCell (fun _ => rfl) _).setCell (fun _ => rfl) _).same⟩
  · have te : (s.e != 0) = true := by simp [he]
    have HE := Lib.hid he
    clear he
    go_enter Try.func67, Try.ntmps67
    go_wp2_with fail
    go_ret
    rw [hs.out, if_pos HE.out]
    exact ⟨rfl, h, Keep.refl _ _⟩

/-- The reference's 'small' and the program's 'num' up to most come to one. -/
theorem numS_most (m : Nat) (s : RdS) : numS m s = if (numS maxU s).2.e = 0 ∧ m < (numS maxU s).1 then (0, { s with e := 9 }) else numS maxU s := by
  rw [numS_ref]
  unfold numS
  by_cases h : s.e = 0
  · have h' : ¬ s.e ≠ 0 := by simpa using h
    simp only [if_neg h']
    rcases lookB_fine (s.B.drop s.pos) with ⟨a, b, -, -, -⟩ | ⟨a, b, c⟩
    · rw [if_neg (show ¬ (lookB (s.B.drop s.pos)).2.2 ≠ 0 by simpa using a)]
      by_cases hm : m < (lookB (s.B.drop s.pos)).1
      · rw [if_pos hm, if_pos ⟨a, hm⟩]
      · rw [if_neg hm, if_neg (fun x => hm x.2), a, ← h]
    · rw [if_pos (show (lookB (s.B.drop s.pos)).2.2 ≠ 0 by omega), if_neg (fun x => by have := x.1; omega), b, c]; rfl
  · simp only [if_pos h]
    rw [if_neg (fun x => h x.1)]
theorem numS_bad (m : Nat) (s : RdS) (h : (numS m s).2.e ≠ 0) : (numS m s).1 = 0 := by
  unfold numS at *
  split
  · rfl
  · split
    · rfl
    · split
      · rfl
      · rename_i h1 h2 h3; rw [if_neg h1, if_neg h2, if_neg h3] at h; exact absurd h h1
set_option maxRecDepth 100000 in
set_option maxHeartbeats 1000000 in
theorem Rsmall {T : TypeId} (r : Nat) (p : Nat → Prop) (s : RdS) (w : World) (h : IsRd w T r p s) (m : Int) (hm : isI64 m) :
    Calls Try.prog 82 #[.pointer (some ⟨r, 0, none⟩), .int .i64 m] w fun e w' =>
      e = .returned (.tuple #[.int .i64 (numS m.toNat s).1, .int .i64 s.pos]) ∧ IsRd w' T r p (numS m.toNat s).2 ∧ Keep (· = r) w w' := by
  obtain ⟨a, cap, -, -, -, -, c0, c1, c2, hr, hf⟩ := h.cells
  have hp := h.place
  have hs := Lib.hid (numS_most m.toNat s)
  have hB := Lib.hid (numS_fields maxU s)
  have hRs := Lib.hid (numS_rest maxU s)
  have hbad := Lib.hid (numS_bad maxU s)
  unfold isI64 at hm
  clear hf
  go_enter Try.func82, Try.ntmps82
  go_wp2_with fail
  go_fit (RNum r p s w h)
  rintro e w1 ⟨rfl, h1, k1⟩
  obtain ⟨a1, cap1, -, -, -, -, d0, d1, d2, hr1, hf1⟩ := h1.cells
  have f1 := hf1 1
  have f2 := hf1 2
  clear hf1 c0 c1 c2
  have hpair : Hid (numS maxU s = ((numS maxU s).1, (numS maxU s).2)) := rfl
  generalize (numS maxU s).1 = v at *
  generalize (numS maxU s).2 = s1 at *
  by_cases he : s1.e = 0
  · have te : (s1.e == 0) = true := by simp [he]
    obtain ⟨hs0, hs1⟩ := hB.out.2 he
    have HS1 := Lib.hid hs1
    have HS0 := Lib.hid hs0
    have HE := Lib.hid he
    clear he hs1 hs0
    have big : m.toNat < v → IsRd ((w1.setCell ⟨r, 2, none⟩ (.int .i64 9)).setCell ⟨r, 1, none⟩ (.int .i64 s.pos)) T r p (numS m.toNat s).2 := by
      intro hv
      rw [hs.out, if_pos ⟨HE.out, hv⟩]
      have h2 := (h1.setErr 9).setPos s.pos (by rw [show s1.B = s.B from hB.out.1]; exact hp)
      rw [show s1.B = s.B from hB.out.1, show s1.rest = s.rest from hRs.out] at h2
      exact h2
    have bigv : m.toNat < v → (numS m.toNat s).1 = 0 := fun hv => by rw [hs.out, if_pos ⟨HE.out, hv⟩]
    have small : ¬ m.toNat < v → numS m.toNat s = (v, s1) := fun hv => by rw [hs.out, if_neg (fun x => hv x.2)]; exact hpair.out
    have BIG := Lib.hid big
    have BIGV := Lib.hid bigv
    have SMALL := Lib.hid small
    clear big bigv small hs hB
    rcases Int.lt_or_le m 0 with h0 | h0
    · by_cases hv : 0 < v
      · have hv' : (0 : Int) < (v : Int) := by omega
        go_wp2_with fail
        go_ret2
        rw [BIGV.out (by omega)]
        exact ⟨rfl, (BIG.out (by omega)), (((k1.setCell (p := ⟨r, 2, none⟩) (fun _ => rfl) _).setCell (p := ⟨r, 1, none⟩) (fun _ => rfl) _))⟩
      · obtain rfl : v = 0 := by omega
        go_wp2_with fail
        go_ret2
        rw [SMALL.out (by omega)]
        exact ⟨rfl, h1, k1⟩
    · by_cases hv : m < (v : Int)
      · go_wp2_with fail
        go_ret2
        rw [BIGV.out (by omega)]
        exact ⟨rfl, (BIG.out (by omega)), (((k1.setCell (p := ⟨r, 2, none⟩) (fun _ => rfl) _).setCell (p := ⟨r, 1, none⟩) (fun _ => rfl) _))⟩
      · go_wp2_with fail
        go_ret2
        rw [SMALL.out (by omega)]
        exact ⟨rfl, h1, k1⟩
  · have te : (s1.e == 0) = false := by simp [he]
    obtain rfl : v = 0 := hbad.out he
    have HS : Hid (numS m.toNat s = (0, s1)) := by show _ = _; rw [hs.out, if_neg (fun x => he x.1)]; exact hpair.out
    clear he hs hB hbad
    go_wp2_with fail
    go_ret2
    rw [HS.out]
    exact ⟨rfl, h1, k1⟩
theorem REnd {T : TypeId} (r : Nat) (p : Nat → Prop) (s : RdS) (w : World) (h : IsRd w T r p s) :
    Calls Try.prog 69 #[.pointer (some ⟨r, 0, none⟩)] w fun e w' => e = .returned (.int .i64 (endS s)) ∧ Keep Nix w w' := by
  obtain ⟨a, cap, -, -, hc, hm, c0, c1, c2, hr, hf⟩ := h.cells
  clear hf
  rcases test_eq s.e 0 with ⟨t, he⟩ | ⟨t, he⟩
  · by_cases hlt : s.pos < s.B.length
    · go_enter Try.func69, Try.ntmps69
      go_wp2_with fail
      go_quiet (fail)
      go_wp2_with fail
      go_ret
      exact ⟨ret_int (by unfold endS; rw [if_neg (by simpa using he.out), if_pos hlt]), (Keep.refl _ _).same⟩
    · go_enter Try.func69, Try.ntmps69
      go_wp2_with fail
      go_quiet (fail)
      go_wp2_with fail
      go_ret
      exact ⟨ret_int (by unfold endS; rw [if_neg (by simpa using he.out), if_neg hlt]; exact he.out), (Keep.refl _ _).same⟩
  · have HE := Lib.hid he
    clear he
    go_enter Try.func69, Try.ntmps69
    go_wp2_with fail
    go_quiet (fail)
    go_wp2_with fail
    go_ret
    exact ⟨ret_int (by unfold endS; rw [if_pos HE.out]), (Keep.refl _ _).same⟩
set_option maxRecDepth 100000 in
set_option maxHeartbeats 2000000 in
theorem RText {T : TypeId} (r : Nat) (p : Nat → Prop) (s : RdS) (w : World) (h : IsRd w T r p s) (most : Int) (hm : isI64 most) :
    Calls Try.prog 68 #[.pointer (some ⟨r, 0, none⟩), .int .i64 most] w fun e w' =>
      ∃ a' cap', e = .returned (.slice a' (textS most.toNat s).1.length cap') ∧ w'.ownsRow w.heap.size 5 1 (.slice a' (textS most.toNat s).1.length cap') (textS most.toNat s).1.length ((textS most.toNat s).1.map bv) ∧
      IsRd w' T r p (textS most.toNat s).2 ∧ Keep (· = r) w w' := by
  have hp := h.place
  have hlt := numS_lt most.toNat s
  have HLT := Lib.hid hlt
  clear hlt
  go_enter Try.func68, Try.ntmps68
  go_wp2_with fail
  go_fit (Rsmall r p s w h most hm)
  rintro e w1 ⟨rfl, h1, k1⟩
  obtain ⟨hB, hnext⟩ := numS_fields most.toNat s
  have hRs := Lib.hid (numS_rest most.toNat s)
  have hT : textS most.toNat s = if (numS most.toNat s).2.e ≠ 0 then ([], (numS most.toNat s).2)
      else if s.B.length - (numS most.toNat s).2.pos < (numS most.toNat s).1 then ([], { s with e := 8 })
      else ((s.B.drop (numS most.toNat s).2.pos).take (numS most.toNat s).1, { s with pos := (numS most.toNat s).2.pos + (numS most.toNat s).1 }) := by
    unfold textS
    by_cases he : s.e = 0
    · rw [if_neg (show ¬ s.e ≠ 0 by simpa using he)]
    · have e : numS most.toNat s = (0, s) := by unfold numS; rw [if_pos he]
      rw [if_pos (show s.e ≠ 0 from he), e, if_pos (show s.e ≠ 0 from he)]
  have HT := Lib.hid hT
  clear hT
  generalize (numS most.toNat s).1 = n at *
  generalize (numS most.toNat s).2 = s1 at *
  obtain ⟨a1, cap1, row1, lies1, hc1, hm1, d0, d1, d2, hr1, hf1⟩ := h1.cells
  have f1 := hf1 1
  have f2 := hf1 2
  have hp1 := h1.place
  clear hf1
  rw [hB] at d0 lies1 hc1 hm1 hp1
  by_cases he1 : s1.e = 0
  · have te2 : (s1.e != 0) = false := by simp [he1]
    obtain ⟨-, hs1⟩ := hnext he1
    have HE1 := Lib.hid he1
    have HS1 := Lib.hid hs1
    have HB := Lib.hid hB
    clear he1 hs1 hnext hB
    by_cases hbig : s.B.length - s1.pos < n
    · have hb : (s.B.length : Int) - (s1.pos : Int) < (n : Int) := by omega
      go_wp2_with fail
      go_quiet (fail)
      go_wp2_with fail
      go_ret
      rw [HT.out, if_neg (by rw [HE1.out]; decide), if_pos hbig]
      refine ⟨_, _, rfl, World.ownsRow_nil _ _ _ _, ?_, ((k1.setCell (p := ⟨r, 2, none⟩) (fun _ => rfl) _).setCell (p := ⟨r, 1, none⟩) (fun _ => rfl) _).same⟩
      have := ((h1.setErr 8).setPos s.pos (by rw [HB.out]; exact hp))
      rw [HB.out, show s1.rest = s.rest from hRs.out] at this
      exact this.same
    · have hb : ¬ (s.B.length : Int) - (s1.pos : Int) < (n : Int) := by omega
      go_wp2_with fail
      go_quiet (fail)
      have hn2 : s1.pos + n ≤ s.B.length := by omega
      have h2 := h1.same (w' := w1.drewN nq)
      have k2 := k1.same (c := w1.drewN nq)
      generalize w1.drewN nq = w2 at h2 k2 ⊢
      obtain ⟨a2, cap2, row2, lies2, hc2, hm2, e0, e1, e2, hr2, hf2⟩ := h2.cells
      simp only [HB.out] at e0 lies2 hc2
      have i3 : IntKind.i64.wrap ((s1.pos : Int) + (n : Int)) = (s1.pos : Int) + (n : Int) := by rw [IntKind.wrap_i64]; omega
      have j1 : (s1.pos : Int) + (n : Int) ≤ (cap2 : Int) := by omega
      have j2 : (s1.pos : Int) ≤ (s1.pos : Int) + (n : Int) := by omega
      have j3 : (0 : Int) ≤ (s1.pos : Int) + (n : Int) := by omega
      clear hf2 d0 d1 d2 row1 lies1 k1 h1 f1 f2
      go_wp2_with fail
      go_still_tail 15, (by kernel_rfl)
      change wpList _ _ _ _ _ w2.drew
      have h3 := h2.same (w' := w2.drew)
      have k3 := k2.same (c := w2.drew)
      have lies3 := (lies2.same (w' := w2.drew)).cut cap2 s1.pos 1 (by simpa using hc2)
      generalize w2.drew = w3 at h3 k3 lies3 ⊢
      refine wpl_append T_bytes rfl (.const (.slice none 0 0)) (.tmp 52) rfl w.heap.size rfl (World.ownsRow_nil _ _ _ _) (p := p) (((s.B.drop s1.pos).take n).map bv) rfl ?c1 ?c2 (bv_one _) ?c3 ?c4 k3.size ?_
      case c1 => simp; omega
      case c2 => simpa [List.map_take, List.map_drop] using lies3.take n
      case c3 => unfold maxLen; omega
      case c4 => omega
      have en : 0 + (((s1.pos : Int) + (n : Int)).toNat - s1.pos) = n := by omega
      simp only [en, List.nil_append]
      generalize (if cap2 = s1.pos then a2 else Option.map (fun x => x.add s1.pos) a2) = ax
      intro a' cap' w4 own4 hg
      have k4 := Keep.grown (Keep.refl Nix w3) hg (fun k hk _ => nomatch hk)
      have h4 := h3.nix k4
      have k5 := k3.trans k4.nix
      clear hg h3 k3 lies3 k4 e0 e1 e2 row2 lies2 h2 k2
      have hlen : ((s.B.drop s1.pos).take n).length = n := by simp; omega
      have HLEN := Lib.hid hlen
      clear hlen
      obtain ⟨a5, cap5, -, -, -, -, g0, g1, g2, hr5, hf5⟩ := h4.cells
      have f1 := hf5 1
      clear hf5
      have hro : r < w.heap.size := h.cells.choose_spec.choose_spec.2.2.2.2.2.2.2.1
      have own5 := owned_keep own4 ((Keep.refl (· = r) w4).setCell (p := ⟨r, 1, none⟩) (fun _ => rfl) (.int .i64 ((s1.pos + n : Nat) : Int))) (fun b hb e => by have := (own4.lt b hb).1; omega)
      have h5 := h4.setPos (s1.pos + n) (by rw [HB.out]; exact hn2)
      have k6 := k5.setCell (p := ⟨r, 1, none⟩) (fun _ => rfl) (.int .i64 ((s1.pos + n : Nat) : Int))
      rw [Int.natCast_add] at h5 own5 k6
      go_wp2
      go_ret
      rw [HT.out, if_neg (by rw [HE1.out]; decide), if_neg hbig]
      refine ⟨a', cap', ?_, ?_, ?_, k6⟩
      · rw [HLEN.out]; rfl
      · simp only [HLEN.out]; exact own5
      · have := h5
        rw [HS1.out] at this
        exact this
  · have te2 : (s1.e != 0) = true := by simp [he1]
    have HE1 := Lib.hid he1
    clear he1 hnext
    go_wp2_with fail
    go_ret
    rw [HT.out, if_pos HE1.out]
    exact ⟨_, _, rfl, World.ownsRow_nil _ _ _ _, h1, k1⟩

/-! ### quiet contracts: draws alone -/
theorem Left_rq (r : Nat) (p : Nat → Prop) (s : RdS) (w : World) (h : IsRd w 99 r p s) :
    Calls Try.prog 51 #[.pointer (some ⟨r, 0, none⟩)] w fun e w' => e = .returned (.int .i64 ((s.B.length - s.pos : Nat) : Int)) ∧ ∃ m, w' = w.drewN m := by
  obtain ⟨a, cap, -, -, hc, hm, c0, c1, c2, hr, hf⟩ := h.cells
  have hp := h.place
  clear hf
  go_enter Try.func51, Try.ntmps51
  go_wp2
  go_quiet (fail)
  go_wp2
  go_ret
  exact ⟨ret_int (by omega), nq, rfl⟩
theorem End_rq (r : Nat) (p : Nat → Prop) (s : RdS) (w : World) (h : IsRd w 99 r p s) :
    Calls Try.prog 35 #[.pointer (some ⟨r, 0, none⟩)] w fun e w' => e = .returned (.int .i64 (endS s)) ∧ ∃ m, w' = w.drewN m := by
  have hp := h.place
  go_enter Try.func35, Try.ntmps35
  go_wp2_with fail
  go_fit (Err_rq r p s w h)
  rintro e w1 ⟨rfl, rfl⟩
  rcases test_eq s.e 0 with ⟨t, he⟩ | ⟨t, he⟩
  · have t' : (s.e != 0) = false := by simpa using t
    go_wp2_with fail
    go_fit (Left_rq r p s w h)
    rintro e w2 ⟨rfl, hw⟩
    by_cases hlt : s.pos < s.B.length
    · have hl : (0 : Int) < ((s.B.length - s.pos : Nat) : Int) := by omega
      go_wp2_with fail
      go_ret
      exact ⟨ret_int (by unfold endS; rw [if_neg (by simpa using he.out), if_pos hlt]), hw⟩
    · have hl : ¬ (0 : Int) < ((s.B.length - s.pos : Nat) : Int) := by omega
      go_wp2_with fail
      go_ret
      exact ⟨ret_int (by unfold endS; rw [if_neg (by simpa using he.out), if_neg hlt]), hw⟩
  · have t' : (s.e != 0) = true := by simpa using he
    have HE := Lib.hid he
    clear he
    go_wp2_with fail
    go_ret
    exact ⟨ret_int (by unfold endS; rw [if_pos HE.out]), 0, rfl⟩
theorem REnd_rq {T : TypeId} (r : Nat) (p : Nat → Prop) (s : RdS) (w : World) (h : IsRd w T r p s) :
    Calls Try.prog 69 #[.pointer (some ⟨r, 0, none⟩)] w fun e w' => e = .returned (.int .i64 (endS s)) ∧ ∃ m, w' = w.drewN m := by
  obtain ⟨a, cap, -, -, hc, hm, c0, c1, c2, hr, hf⟩ := h.cells
  clear hf
  rcases test_eq s.e 0 with ⟨t, he⟩ | ⟨t, he⟩
  · by_cases hlt : s.pos < s.B.length
    · go_enter Try.func69, Try.ntmps69
      go_wp2_with fail
      go_quiet (fail)
      go_wp2_with fail
      go_ret
      exact ⟨ret_int (by unfold endS; rw [if_neg (by simpa using he.out), if_pos hlt]), nq, rfl⟩
    · go_enter Try.func69, Try.ntmps69
      go_wp2_with fail
      go_quiet (fail)
      go_wp2_with fail
      go_ret
      exact ⟨ret_int (by unfold endS; rw [if_neg (by simpa using he.out), if_neg hlt]; exact he.out), nq, rfl⟩
  · have HE := Lib.hid he
    clear he
    go_enter Try.func69, Try.ntmps69
    go_wp2_with fail
    go_quiet (fail)
    go_wp2_with fail
    go_ret
    exact ⟨ret_int (by unfold endS; rw [if_pos HE.out]), nq, rfl⟩
theorem IsRd.tight {w : World} {T r : Nat} {p : Nat → Prop} {s : RdS} (h : IsRd w T r p s) : IsRd w T r (fun b => p b ∧ b < w.heap.size) s := by
  obtain ⟨⟨a, cap, h1, h2, h3⟩, h4, h5⟩ := h
  refine ⟨⟨a, cap, h1, fun hx => ?_, h3⟩, fun x => h4 x.1, h5⟩
  obtain ⟨b, off, ha, hp, hb, hc⟩ := h2 hx
  exact ⟨b, off, ha, ⟨hp, hb⟩, hb, hc⟩
theorem IsRd.mono {w : World} {T r : Nat} {p q : Nat → Prop} {s : RdS} (h : IsRd w T r p s) (hq : ∀ b, p b → q b) (hr : ¬ q r) : IsRd w T r q s := by
  obtain ⟨⟨a, cap, h1, h2, h3⟩, h4, h5⟩ := h
  exact ⟨⟨a, cap, h1, h2.mono hq, h3⟩, hr, h5⟩
theorem spoil_zero (a : Option Addr) (ca : Nat) (w : World) : Calls Try.prog 16 #[.slice a 0 ca] w fun e w' => e = .returned (.tuple #[]) ∧ w = w' := by
  go_enter Try.func16, Try.ntmps16
  go_wp2
  refine wp_loop_rounds 1 ?_
  rw [rounds_succ]
  go_wp2
  go_end0
  exact ⟨rfl, rfl⟩
/-- 'Spoil' of what is owned: nothing old is turned. -/
theorem spoil_own {base : Nat} (a : Option Addr) (n ca : Nat) (l : List UInt8) (w : World) (own : w.ownsRow base 5 1 (.slice a n ca) n (l.map bv)) :
    Calls Try.prog 16 #[.slice a n ca] w fun e w' => e = .returned (.tuple #[]) ∧ Keep (fun b => base ≤ b) w w' := by
  rcases Nat.eq_zero_or_pos n with h0 | h0
  · subst h0
    refine (spoil_zero a ca w).mono ?_
    rintro e w' ⟨rfl, rfl⟩
    exact ⟨rfl, Keep.refl _ _⟩
  · have hl : l.length = n := by have := own.1; simpa using this
    cases a with
    | none =>
      rcases own.2 with ⟨h1, h2⟩ | ⟨g, cap, cur, h1, _⟩
      · omega
      · cases h1
    | some a =>
      have hbd := owned_bounds own
      obtain ⟨b, rest, rfl, hbb, row, -⟩ := RowIs.of_owned own
      refine (spoil_c b n ca _ l w hl row (fun j u hu => by rw [List.getElem?_append_left (List.getElem?_eq_some_iff.1 hu).1]; exact hu) (by omega)).mono ?_
      rintro e w' ⟨rfl, k⟩
      exact ⟨rfl, k.mono (fun i h => by subst h; exact hbb)⟩
end Go.Proofs.Ythchpdflnpfjkaa
