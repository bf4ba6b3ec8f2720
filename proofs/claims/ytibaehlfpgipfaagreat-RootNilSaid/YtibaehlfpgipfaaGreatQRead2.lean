/- THE READERS' METHODS. -/
import Derived.Test.YtibaehlfpgipfaaGreatQRead
namespace Go.Proofs.YtibaehlfpgipfaaGreat
open Go.RowKit

theorem IsRd.cells {w : World} {T r : Nat} {p : Nat → Prop} {s : RdS} (h : IsRd w T r p s) : ∃ a cap, RdAt w T r a cap s ∧ Lies w p a (s.B.map bv) ∧ s.B.length ≤ cap ∧ s.B.length ≤ 140737488355328 ∧
    w.cell? ⟨r, 0, none⟩ = some (.slice a s.B.length cap) ∧ w.cell? ⟨r, 1, none⟩ = some (.int .i64 s.pos) ∧ w.cell? ⟨r, 2, none⟩ = some (.int .i64 s.e) ∧ r < w.heap.size ∧ (∀ j, w.frozen? ⟨r, j, none⟩ = false) := by
  obtain ⟨⟨a, cap, row, lies, hc, hcm⟩, ap, hp⟩ := h
  have c0 := RowIs.cell row 0
  have c1 := RowIs.cell row 1
  have c2 := RowIs.cell row 2
  simp only [List.getElem?_cons_zero, List.getElem?_cons_succ] at c0 c1 c2
  exact ⟨a, cap, row, lies, hc, hcm, c0, c1, c2, RowIs.lt row, RowIs.frozen row⟩
/-- A store into a reader's place, or its fault. -/
theorem IsRd.setPos {w : World} {T r : Nat} {p : Nat → Prop} {s : RdS} (h : IsRd w T r p s) (n : Nat) (hn : n ≤ s.B.length) : IsRd (w.setCell ⟨r, 1, none⟩ (.int .i64 n)) T r p { s with pos := n } := by
  obtain ⟨⟨a, cap, row, lies, hc, hcm⟩, ap, hp⟩ := h
  refine ⟨⟨a, cap, RowIs.set row 1 _, lies.keep ((Keep.refl (· = r) w).setCell (fun _ => rfl) _) (fun b hb e => ap (e ▸ hb)), hc, hcm⟩, ap, hn⟩
theorem IsRd.setErr {w : World} {T r : Nat} {p : Nat → Prop} {s : RdS} (h : IsRd w T r p s) (e : Int) : IsRd (w.setCell ⟨r, 2, none⟩ (.int .i64 e)) T r p { s with e := e } := by
  obtain ⟨⟨a, cap, row, lies, hc, hcm⟩, ap, hp⟩ := h
  refine ⟨⟨a, cap, RowIs.set row 2 _, lies.keep ((Keep.refl (· = r) w).setCell (fun _ => rfl) _) (fun b hb e => ap (e ▸ hb)), hc, hcm⟩, ap, hp⟩
theorem IsRd.nix {w w' : World} {T r : Nat} {p : Nat → Prop} {s : RdS} (h : IsRd w T r p s) (k : Keep Nix w w') : IsRd w' T r p s := h.keep k id (fun _ _ h => h)

theorem numS_cases (most : Nat) (s : RdS) (hp : s.pos ≤ s.B.length) :
    (s.e ≠ 0 ∧ numS most s = (0, s)) ∨ (s.e = 0 ∧
      ((lookB (s.B.drop s.pos)).2.2 ≠ 0 ∧ numS most s = (0, { s with e := (lookB (s.B.drop s.pos)).2.2 }) ∨
       (lookB (s.B.drop s.pos)).2.2 = 0 ∧ (lookB (s.B.drop s.pos)).1 < 2 ^ 64 ∧ s.pos + (lookB (s.B.drop s.pos)).2.1 ≤ s.B.length ∧
        (most < (lookB (s.B.drop s.pos)).1 ∧ numS most s = (0, { s with e := 9 }) ∨
         (lookB (s.B.drop s.pos)).1 ≤ most ∧ numS most s = ((lookB (s.B.drop s.pos)).1, { s with pos := s.pos + (lookB (s.B.drop s.pos)).2.1 })))) := by
  unfold numS
  by_cases h1 : s.e = 0
  · refine .inr ⟨h1, ?_⟩
    rw [if_neg (by simpa using h1)]
    by_cases h2 : (lookB (s.B.drop s.pos)).2.2 = 0
    · rw [if_neg (by simpa using h2)]
      refine .inr ?_
      rcases lookB_fine (s.B.drop s.pos) with ⟨-, a, b, c, d⟩ | ⟨a, -⟩
      · rw [List.length_drop] at c
        refine ⟨h2, a, by omega, ?_⟩
        by_cases h3 : most < (lookB (s.B.drop s.pos)).1
        · exact .inl ⟨h3, by rw [if_pos h3]⟩
        · exact .inr ⟨by omega, by rw [if_neg h3]⟩
      · omega
    · exact .inl ⟨h2, by rw [if_pos h2]⟩
  · exact .inl ⟨h1, by rw [if_pos h1]⟩
set_option maxRecDepth 100000 in
set_option maxHeartbeats 1000000 in
/-- 'num'. -/
theorem num_rd (r : Nat) (p : Nat → Prop) (s : RdS) (w : World) (h : IsRd w 151 r p s) (most : Nat) :
    Calls Tryz.prog 81 #[.pointer (some ⟨r, 0, none⟩), .int .u64 most] w fun e w' =>
      e = .returned (.int .u64 (numS most s).1) ∧ IsRd w' 151 r p (numS most s).2 ∧ Keep (· = r) w w' := by
  obtain ⟨a, cap, -, -, -, -, c0, c1, c2, hr, hf⟩ := h.cells
  have f1 := hf 1
  have f2 := hf 2
  clear hf
  rcases numS_cases most s h.place with ⟨he, hs⟩ | ⟨he, hs⟩
  · have te : (s.e != 0) = true := by simpa using he
    have HS := Lib.hid hs
    clear hs he
    go_enter Tryz.func81, Tryz.ntmps81
    go_wp2_with fail
    go_ret
    rw [HS.out]
    exact ⟨rfl, h, Keep.refl _ _⟩
  · have te : (s.e != 0) = false := by simp [he]
    have HE := Lib.hid he
    clear he
    go_enter Tryz.func81, Tryz.ntmps81
    go_wp2_with fail
    refine (look_c r p s w h).mono ?_
    rintro e w1 ⟨rfl, k1⟩
    have h1 := h.nix k1
    obtain ⟨a1, cap1, -, -, -, -, c0', c1', c2', hr', hf'⟩ := h1.cells
    have f1' := hf' 1
    have f2' := hf' 2
    clear hf'
    have k0 := Keep.nix (S := (· = r)) k1
    unfold lookT
    clear h k1 c0 c1 c2 f1 f2 hr HE
    rcases hs with ⟨hL, hs⟩ | ⟨hL, hv, hn, ⟨hm, hs⟩ | ⟨hm, hs⟩⟩
    · rw [if_neg hL]
      generalize lookB (s.B.drop s.pos) = L at hL hs ⊢
      have HS := Lib.hid hs
      clear hs
      have t1 : (L.2.2 == 0) = false := by simpa using hL
      have t2 : (L.2.2 != 0) = true := by simpa using hL
      clear hL
      go_wp2_with fail
      go_ret
      rw [HS.out]
      exact ⟨rfl, h1.setErr _, k0.setCell (fun _ => rfl) _⟩
    · rw [if_pos hL]
      generalize lookB (s.B.drop s.pos) = L at hL hm hs ⊢
      have HS := Lib.hid hs
      clear hs
      have t1 : (L.2.2 == 0) = true := by simpa using hL
      have HL := Lib.hid hL
      clear hL hv hn
      go_wp2_with fail
      go_ret
      rw [HS.out]
      exact ⟨rfl, h1.setErr _, k0.setCell (fun _ => rfl) _⟩
    · rw [if_pos hL]
      generalize lookB (s.B.drop s.pos) = L at hL hm hn hs ⊢
      have HS := Lib.hid hs
      clear hs
      have t1 : (L.2.2 == 0) = true := by simpa using hL
      have t2 : (L.2.2 != 0) = false := by simpa using hL
      have HL := Lib.hid hL
      clear hL hv
      go_wp2_with fail
      go_ret
      rw [HS.out]
      exact ⟨rfl, h1.setPos _ hn, k0.setCell (fun _ => rfl) _⟩
theorem num_rdI (r : Nat) (p : Nat → Prop) (s : RdS) (w : World) (h : IsRd w 151 r p s) (most : Int) (h0 : 0 ≤ most) :
    Calls Tryz.prog 81 #[.pointer (some ⟨r, 0, none⟩), .int .u64 most] w fun e w' =>
      e = .returned (.int .u64 (numS most.toNat s).1) ∧ IsRd w' 151 r p (numS most.toNat s).2 ∧ Keep (· = r) w w' := by
  have e : most = (most.toNat : Int) := by omega
  have := num_rd r p s w h most.toNat
  rw [← e] at this
  exact this
def maxU : Nat := 18446744073709551615
theorem maxU_eq : (18446744073709551615 : Int).toNat = maxU := rfl
theorem Num_rd (r : Nat) (p : Nat → Prop) (s : RdS) (w : World) (h : IsRd w 151 r p s) :
    Calls Tryz.prog 48 #[.pointer (some ⟨r, 0, none⟩)] w fun e w' =>
      e = .returned (.int .u64 (numS maxU s).1) ∧ IsRd w' 151 r p (numS maxU s).2 ∧ Keep (· = r) w w' := by
  rw [← maxU_eq]
  go_enter Tryz.func48, Tryz.ntmps48
  go_wp2_with fail
  refine (num_rdI r p s w h 18446744073709551615 (by decide)).mono ?_
  rintro e w1 ⟨rfl, h1, k1⟩
  go_wp2
  go_ret
  exact ⟨rfl, h1, k1⟩
theorem numS_le (most : Nat) (s : RdS) : (numS most s).1 ≤ most := by
  unfold numS; split
  · simp
  · split
    · simp
    · split
      · simp
      · simp; omega
theorem numS_lt (most : Nat) (s : RdS) : (numS most s).1 < 2 ^ 64 := by
  unfold numS; split
  · simp
  · split
    · simp
    · split
      · simp
      · rcases lookB_fine (s.B.drop s.pos) with ⟨-, a, -⟩ | ⟨-, a, -⟩
        · exact a
        · simp [a]
theorem Small_rd (r : Nat) (p : Nat → Prop) (s : RdS) (w : World) (h : IsRd w 151 r p s) (most : Int) (hm : isI64 most) :
    Calls Tryz.prog 43 #[.pointer (some ⟨r, 0, none⟩), .int .i64 most] w fun e w' =>
      e = .returned (.int .i64 (numS most.toNat s).1) ∧ IsRd w' 151 r p (numS most.toNat s).2 ∧ Keep (· = r) w w' := by
  have hle := numS_le most.toNat s
  unfold isI64 at hm
  rcases Int.lt_or_le most 0 with h0 | h0
  · have e : most.toNat = (0 : Int).toNat := by omega
    rw [e] at hle ⊢
    clear e
    go_enter Tryz.func43, Tryz.ntmps43
    go_wp2_with fail
    refine (num_rdI r p s w h 0 (by decide)).mono ?_
    rintro e w1 ⟨rfl, h1, k1⟩
    go_wp2
    go_ret
    refine ⟨ret_int ?_, h1, k1⟩
    have hz : (numS 0 s).1 = 0 := by have : (numS 0 s).1 ≤ 0 := hle; omega
    show wrap64 ((numS 0 s).1 : Int) = ((numS 0 s).1 : Int)
    rw [hz]; simp [wrap64]
  · go_enter Tryz.func43, Tryz.ntmps43
    go_wp2_with fail
    refine (num_rdI r p s w h most h0).mono ?_
    rintro e w1 ⟨rfl, h1, k1⟩
    go_wp2
    go_ret
    exact ⟨rfl, h1, k1⟩
def zag (v : Nat) : Int := if v % 2 = 1 then -((v / 2 : Nat) : Int) - 1 else ((v / 2 : Nat) : Int)
theorem zag_bits {v : Nat} (h : v < 2 ^ 64) : bits BinOp.xor IntKind.i64 ((v : Int) / 2) (wrap64 (-wrap64 (bits BinOp.and IntKind.u64 (v : Int) 1))) = zag v := by
  have e1 : bits BinOp.and IntKind.u64 (v : Int) 1 = ((v % 2 : Nat) : Int) := by
    show IntKind.u64.wrap (((BitVec.ofInt 64 (v : Int) &&& BitVec.ofInt 64 1 : BitVec 64).toNat : Nat) : Int) = _
    rw [IntKind.wrap_u64, show BitVec.ofInt 64 1 = 1#64 by decide +kernel, BitVec.toNat_and, BitVec.ofInt_natCast, BitVec.toNat_ofNat, Nat.mod_eq_of_lt h]
    rw [show (1#64 : BitVec 64).toNat = 1 from rfl, Nat.and_one_is_mod]; omega
  rw [e1, show wrap64 ((v % 2 : Nat) : Int) = ((v % 2 : Nat) : Int) by simp only [wrap64]; omega]
  unfold zag
  rcases Nat.mod_two_eq_zero_or_one v with h2 | h2
  · rw [h2, if_neg (by decide)]
    show IntKind.i64.wrap (((BitVec.ofInt 64 ((v : Int) / 2) ^^^ BitVec.ofInt 64 (wrap64 (-((0 : Nat) : Int))) : BitVec 64).toNat : Nat) : Int) = _
    rw [show BitVec.ofInt 64 (wrap64 (-((0 : Nat) : Int))) = 0#64 by decide +kernel, BitVec.xor_zero, show ((v : Int) / 2) = ((v / 2 : Nat) : Int) by omega, BitVec.ofInt_natCast, BitVec.toNat_ofNat, IntKind.wrap_i64]
    omega
  · rw [h2, if_pos rfl]
    show IntKind.i64.wrap (((BitVec.ofInt 64 ((v : Int) / 2) ^^^ BitVec.ofInt 64 (wrap64 (-((1 : Nat) : Int))) : BitVec 64).toNat : Nat) : Int) = _
    rw [show BitVec.ofInt 64 (wrap64 (-((1 : Nat) : Int))) = BitVec.allOnes 64 by decide +kernel, BitVec.xor_allOnes, show ((v : Int) / 2) = ((v / 2 : Nat) : Int) by omega, BitVec.ofInt_natCast, BitVec.toNat_not, BitVec.toNat_ofNat, IntKind.wrap_i64]
    omega
theorem zag_zig {i : Int} : zag (zig i).toNat = i := by unfold zag zig; split <;> split <;> omega
theorem Int_rd (r : Nat) (p : Nat → Prop) (s : RdS) (w : World) (h : IsRd w 151 r p s) :
    Calls Tryz.prog 189 #[.pointer (some ⟨r, 0, none⟩)] w fun e w' =>
      e = .returned (.int .i64 (zag (numS maxU s).1)) ∧ IsRd w' 151 r p (numS maxU s).2 ∧ Keep (· = r) w w' := by
  have hz := zag_bits (numS_lt maxU s)
  have hlt : ((numS maxU s).1 : Int) / 2 ≤ 9223372036854775807 := by have := numS_lt maxU s; omega
  go_enter Tryz.func189, Tryz.ntmps189
  go_wp2_with fail
  refine (Num_rd r p s w h).mono ?_
  rintro e w1 ⟨rfl, h1, k1⟩
  go_wp2
  go_ret
  exact ⟨rfl, h1, k1⟩

theorem Err_rq (r : Nat) (p : Nat → Prop) (s : RdS) (w : World) (h : IsRd w 151 r p s) :
    Calls Tryz.prog 49 #[.pointer (some ⟨r, 0, none⟩)] w fun e w' => e = .returned (.int .i64 s.e) ∧ w = w' := by
  obtain ⟨a, cap, -, -, -, -, c0, c1, c2, hr, hf⟩ := h.cells
  clear hf
  go_enter Tryz.func49, Tryz.ntmps49
  go_wp2
  go_ret
  exact ⟨rfl, rfl⟩
theorem Err_rd (r : Nat) (p : Nat → Prop) (s : RdS) (w : World) (h : IsRd w 151 r p s) :
    Calls Tryz.prog 49 #[.pointer (some ⟨r, 0, none⟩)] w fun e w' => e = .returned (.int .i64 s.e) ∧ Keep Nix w w' := by
  obtain ⟨a, cap, -, -, -, -, c0, c1, c2, hr, hf⟩ := h.cells
  clear hf
  go_enter Tryz.func49, Tryz.ntmps49
  go_wp2
  go_ret
  exact ⟨rfl, Keep.refl _ _⟩
theorem Left_rd (r : Nat) (p : Nat → Prop) (s : RdS) (w : World) (h : IsRd w 151 r p s) :
    Calls Tryz.prog 88 #[.pointer (some ⟨r, 0, none⟩)] w fun e w' => e = .returned (.int .i64 ((s.B.length - s.pos : Nat) : Int)) ∧ Keep Nix w w' := by
  obtain ⟨a, cap, -, -, hc, hm, c0, c1, c2, hr, hf⟩ := h.cells
  have hp := h.place
  clear hf
  go_enter Tryz.func88, Tryz.ntmps88
  go_wp2
  go_quiet (fail)
  go_wp2
  go_ret
  exact ⟨ret_int (by omega), (Keep.refl _ _).same⟩
/-- 'End'. -/
def endS (s : RdS) : Int := if s.e ≠ 0 then s.e else if s.pos < s.B.length then 9 else 0
theorem End_rd (r : Nat) (p : Nat → Prop) (s : RdS) (w : World) (h : IsRd w 151 r p s) :
    Calls Tryz.prog 50 #[.pointer (some ⟨r, 0, none⟩)] w fun e w' => e = .returned (.int .i64 (endS s)) ∧ Keep Nix w w' := by
  have hp := h.place
  go_enter Tryz.func50, Tryz.ntmps50
  go_wp2_with fail
  refine (Err_rd r p s w h).mono ?_
  rintro e w1 ⟨rfl, k1⟩
  rcases test_eq s.e 0 with ⟨t, he⟩ | ⟨t, he⟩
  · have t' : (s.e != 0) = false := by simpa using t
    go_wp2_with fail
    refine (Left_rd r p s w1 (h.nix k1)).mono ?_
    rintro e w2 ⟨rfl, k2⟩
    by_cases hlt : s.pos < s.B.length
    · have hl : (0 : Int) < ((s.B.length - s.pos : Nat) : Int) := by omega
      go_wp2_with fail
      go_ret
      exact ⟨ret_int (by unfold endS; rw [if_neg (by simpa using he.out), if_pos hlt]), k1.trans k2⟩
    · have hl : ¬ (0 : Int) < ((s.B.length - s.pos : Nat) : Int) := by omega
      go_wp2_with fail
      go_ret
      exact ⟨ret_int (by unfold endS; rw [if_neg (by simpa using he.out), if_neg hlt]), k1.trans k2⟩
  · have t' : (s.e != 0) = true := by simpa using he
    go_wp2_with fail
    go_ret
    exact ⟨ret_int (by unfold endS; rw [if_pos he]), k1⟩

theorem numS_fields (m : Nat) (s : RdS) : (numS m s).2.B = s.B ∧ ((numS m s).2.e = 0 → s.e = 0 ∧ (numS m s).2 = { s with pos := (numS m s).2.pos }) := by
  unfold numS; split
  · exact ⟨rfl, fun h => by contradiction⟩
  · rename_i h1
    split
    · rename_i h2; exact ⟨rfl, fun h => absurd h h2⟩
    · split
      · exact ⟨rfl, fun h => by simp at h⟩
      · exact ⟨rfl, fun h => ⟨by simpa using h1, rfl⟩⟩
theorem Lies.cut {w : World} {p : Nat → Prop} {a : Option Addr} {xs : List Value} (h : Lies w p a xs) (cap l sz : Nat) (hx : xs.length ≤ cap * sz) : Lies w p (if cap = l then a else a.map (·.add (l * sz))) (xs.drop (l * sz)) := by
  intro hne
  have hlt : l * sz < xs.length := by
    rcases Nat.lt_or_ge (l * sz) xs.length with h | h
    · exact h
    · exact absurd (List.drop_eq_nil_of_le h) hne
  have hcl : ¬ cap = l := by rintro rfl; omega
  obtain ⟨b, off, rfl, hp, hb, hc⟩ := h (by rintro rfl; simp at hlt)
  rw [if_neg hcl]
  refine ⟨b, off + l * sz, by simp [Addr.add_lit], hp, hb, fun j u hu => ?_⟩
  rw [List.getElem?_drop] at hu
  rw [Nat.add_assoc]; exact hc _ _ hu
theorem Lies.take {w : World} {p : Nat → Prop} {a : Option Addr} {xs : List Value} (h : Lies w p a xs) (n : Nat) : Lies w p a (xs.take n) := by
  intro hne
  obtain ⟨b, off, ha, hp, hb, hc⟩ := h (by rintro rfl; simp at hne)
  refine ⟨b, off, ha, hp, hb, fun j u hu => hc j u ?_⟩
  rw [List.getElem?_take] at hu
  split at hu
  · exact hu
  · cases hu

set_option maxRecDepth 100000 in
set_option maxHeartbeats 2000000 in
theorem Text_rd (r : Nat) (p : Nat → Prop) (s : RdS) (w : World) (h : IsRd w 151 r p s) (most : Int) (hm : isI64 most) :
    Calls Tryz.prog 45 #[.pointer (some ⟨r, 0, none⟩), .int .i64 most] w fun e w' =>
      ∃ a' cap', e = .returned (.slice a' (textS most.toNat s).1.length cap') ∧ w'.ownsRow w.heap.size 5 1 (.slice a' (textS most.toNat s).1.length cap') (textS most.toNat s).1.length ((textS most.toNat s).1.map bv) ∧
      IsRd w' 151 r p (textS most.toNat s).2 ∧ Keep (· = r) w w' := by
  obtain ⟨a, cap, -, -, -, -, c0, c1, c2, hr, hf⟩ := h.cells
  have hp := h.place
  have hlt := numS_lt most.toNat s
  have hle := numS_le most.toNat s
  clear hf
  by_cases he : s.e = 0
  · have te : (s.e != 0) = false := by simp [he]
    have HE := Lib.hid he
    clear he
    go_enter Tryz.func45, Tryz.ntmps45
    go_wp2_with fail
    refine (Small_rd r p s w h most hm).mono ?_
    rintro e w1 ⟨rfl, h1, k1⟩
    obtain ⟨hB, hnext⟩ := numS_fields most.toNat s
    have hT : textS most.toNat s = if (numS most.toNat s).2.e ≠ 0 then ([], (numS most.toNat s).2)
        else if s.B.length - (numS most.toNat s).2.pos < (numS most.toNat s).1 then ([], { s with e := 8 })
        else ((s.B.drop (numS most.toNat s).2.pos).take (numS most.toNat s).1, { s with pos := (numS most.toNat s).2.pos + (numS most.toNat s).1 }) := by
      rw [textS, if_neg (by simpa using HE.out)]
    have HT := Lib.hid hT
    clear hT
    generalize (numS most.toNat s).1 = n at *
    generalize (numS most.toNat s).2 = s1 at *
    obtain ⟨a1, cap1, row1, lies1, hc1, hm1, d0, d1, d2, hr1, hf1⟩ := h1.cells
    have f1 := hf1 1
    have f2 := hf1 2
    have hp1 := h1.place
    clear hf1 c0 c1 c2
    rw [hB] at d0 lies1 hc1 hm1 hp1
    by_cases he1 : s1.e = 0
    · have te1 : (s1.e == 0) = true := by simp [he1]
      have te2 : (s1.e != 0) = false := by simp [he1]
      obtain ⟨-, hs1⟩ := hnext he1
      have HE1 := Lib.hid he1
      have HS1 := Lib.hid hs1
      have HB := Lib.hid hB
      clear he1 hs1 hnext hB
      by_cases hbig : s.B.length - s1.pos < n
      · have hb : (s.B.length : Int) - (s1.pos : Int) < (n : Int) := by omega
        go_wp2_with fail
        go_quiet (fail)
        go_wp2_with fail
        go_ret
        rw [HT.out, if_neg (by rw [HE1.out]; decide), if_pos hbig]
        refine ⟨_, _, rfl, World.ownsRow_nil _ _ _ _, ?_, ((k1.setCell (fun _ => rfl) _).setCell (fun _ => rfl) _).same⟩
        have := ((h1.setPos s.pos (by rw [HB.out]; exact hp)).setErr 8)
        rw [HS1.out] at this
        exact this.same
      · have hb : ¬ (s.B.length : Int) - (s1.pos : Int) < (n : Int) := by omega
        go_wp2_with fail
        go_quiet (fail)
        go_wp2_with fail
        have hn2 : s1.pos + n ≤ s.B.length := by omega
        have i1 : IntKind.i64.wrap ((s1.pos : Int) + (n : Int)) = (s1.pos : Int) + (n : Int) := by rw [IntKind.wrap_i64]; omega
        have i2 : IntKind.i64.wrap ((s1.pos : Int) + (n : Int) - (n : Int)) = (s1.pos : Int) := by rw [IntKind.wrap_i64]; omega
        have h2 := (h1.setPos (s1.pos + n) (by rw [HB.out]; exact hn2)).same (w' := (w1.drewN nq).setCell ⟨r, 1, none⟩ (.int .i64 ((s1.pos + n : Nat) : Int)))
        have k2 := (k1.setCell (p := ⟨r, 1, none⟩) (fun _ => rfl) (.int .i64 ((s1.pos + n : Nat) : Int))).same (c := (w1.drewN nq).setCell ⟨r, 1, none⟩ (.int .i64 ((s1.pos + n : Nat) : Int)))
        rw [Int.natCast_add] at h2 k2
        generalize (w1.drewN nq).setCell ⟨r, 1, none⟩ (.int .i64 ((s1.pos : Int) + (n : Int))) = w2 at h2 k2 ⊢
        obtain ⟨a2, cap2, row2, lies2, hc2, hm2, e0, e1, e2, hr2, hf2⟩ := h2.cells
        simp only [HB.out] at e0 lies2 hc2
        rw [Int.natCast_add] at e1
        have i3 : IntKind.i64.wrap (s1.pos : Int) = (s1.pos : Int) := by rw [IntKind.wrap_i64]; omega
        have j1 : (s1.pos : Int) + (n : Int) ≤ (cap2 : Int) := by omega
        have j2 : (s1.pos : Int) ≤ (s1.pos : Int) + (n : Int) := by omega
        have j3 : (0 : Int) ≤ (s1.pos : Int) + (n : Int) := by omega
        clear hf2 d0 d1 d2 row1 lies1 k1 h1 f1 f2
        go_still_tail 15, (by kernel_rfl)
        change wpList _ _ _ _ _ w2.drew
        have h3 := h2.same (w' := w2.drew)
        have k3 := k2.same (c := w2.drew)
        have lies3 := (lies2.same (w' := w2.drew)).cut cap2 s1.pos 1 (by simpa using hc2)
        generalize w2.drew = w3 at h3 k3 lies3 ⊢
        refine wpl_append T_bytes rfl (.const (.slice none 0 0)) (.tmp 76) rfl w.heap.size rfl (World.ownsRow_nil _ _ _ _) (p := p) (((s.B.drop s1.pos).take n).map bv) rfl ?c1 ?c2 (bv_one _) ?c3 ?c4 k3.size ?_
        case c1 => simp; omega
        case c2 => simpa [List.map_take, List.map_drop] using lies3.take n
        case c3 => unfold maxLen; omega
        case c4 => omega
        have en : 0 + (((s1.pos : Int) + (n : Int)).toNat - s1.pos) = n := by omega
        simp only [en, List.nil_append]
        generalize (if cap2 = s1.pos then a2 else Option.map (fun x => x.add s1.pos) a2) = ax
        intro a' cap' w4 own4 hg
        have k4 := Keep.grown (Keep.refl Nix w3) hg (fun k hk _ => nomatch hk)
        have h4 := h3.nix k4
        have k5 := k3.trans k4.nix
        clear hg h3 k3 lies3 k4
        have hlen : ((s.B.drop s1.pos).take n).length = n := by simp; omega
        have HLEN := Lib.hid hlen
        clear hlen
        go_wp2
        go_ret
        rw [HT.out, if_neg (by rw [HE1.out]; decide), if_neg hbig]
        refine ⟨a', cap', ?_, ?_, ?_, k5⟩
        · rw [HLEN.out]; rfl
        · simp only [HLEN.out]; exact own4
        · have := h4
          rw [HS1.out] at this
          exact this
    · have te1 : (s1.e == 0) = false := by simp [he1]
      have te2 : (s1.e != 0) = true := by simp [he1]
      have HE1 := Lib.hid he1
      clear he1 hnext
      go_wp2_with fail
      go_quiet (fail)
      go_wp2_with fail
      go_ret
      rw [HT.out, if_pos HE1.out]
      exact ⟨_, _, rfl, World.ownsRow_nil _ _ _ _, h1.keep ((Keep.refl Nix _).same) id (fun _ _ h => h), k1.same⟩
  · have te : (s.e != 0) = true := by simp [he]
    have hs : textS most.toNat s = ([], s) := by rw [textS, if_pos he]
    have HS := Lib.hid hs
    clear hs he
    go_enter Tryz.func45, Tryz.ntmps45
    go_wp2_with fail
    go_ret
    rw [HS.out]
    exact ⟨_, _, rfl, World.ownsRow_nil _ _ _ _, h, Keep.refl _ _⟩
end Go.Proofs.YtibaehlfpgipfaaGreat
