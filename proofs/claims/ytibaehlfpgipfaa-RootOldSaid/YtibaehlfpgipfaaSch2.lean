/- SCHEMA: places of columns. -/
import Derived.Test.YtibaehlfpgipfaaSch1
import Derived.Deep.RegionHeld3
namespace Go.Proofs.Ytibaehlfpgipfaa
open Go.RowKit

/-! ### plainly -/
def goodP (m : Int) (l : List Int) : Prop := (∀ k ∈ l, 0 ≤ k ∧ k < m) ∧ l.Nodup
instance (m : Int) (l : List Int) : Decidable (goodP m l) := by unfold goodP; infer_instance
theorem goodP_nil (m : Int) : goodP m [] := ⟨by simp, List.nodup_nil⟩
theorem goodP_app {m : Int} (t : List Int) (x : Int) : goodP m (t ++ [x]) ↔ goodP m t ∧ 0 ≤ x ∧ x < m ∧ x ∉ t := by
  unfold goodP
  rw [List.nodup_append]
  constructor
  · rintro ⟨h1, h2, h3, h4⟩
    exact ⟨⟨fun y hy => h1 y (by simp [hy]), h2⟩, (h1 x (by simp)).1, (h1 x (by simp)).2, fun hm => h4 _ hm _ (by simp) rfl⟩
  · rintro ⟨⟨h1, h2⟩, h3, h4, h5⟩
    refine ⟨fun y hy => ?_, h2, by simp, fun a ha b hb e => ?_⟩
    · rcases List.mem_append.1 hy with hy | hy
      · exact h1 y hy
      · simp at hy; subst hy; exact ⟨h3, h4⟩
    · simp at hb; subst hb; subst e; exact h5 ha
theorem goodP_snoc {m : Int} {l : List Int} (k : Nat) (h : k < l.length) : goodP m (l.take (k + 1)) ↔ goodP m (l.take k) ∧ 0 ≤ l[k] ∧ l[k] < m ∧ l[k] ∉ l.take k := by
  rw [List.take_succ_eq_append_getElem h]
  exact goodP_app _ _
theorem goodP_take {m : Int} {l : List Int} (k : Nat) (h : goodP m l) : goodP m (l.take k) :=
  ⟨fun x hx => h.1 x (List.mem_of_mem_take hx), h.2.sublist (List.take_sublist k l)⟩
theorem goodP_bad {m : Int} {l : List Int} (k : Nat) (h : k < l.length) (hb : ¬ (0 ≤ l[k] ∧ l[k] < m ∧ l[k] ∉ l.take k)) : ¬ goodP m l :=
  fun hg => hb ((goodP_snoc k h).1 (goodP_take (k + 1) hg)).2
theorem goodP_len : ∀ (m : Nat) (l : List Int), goodP (m : Int) l → l.length ≤ m
  | 0, l, h => by
    cases l with
    | nil => simp
    | cons x l => have := h.1 x (by simp); omega
  | m + 1, l, h => by
    by_cases hm : (m : Int) ∈ l
    · have h1 := goodP_len m (l.erase (m : Int)) ⟨fun k hk => by
        have h2 := h.1 k (List.mem_of_mem_erase hk)
        have h3 : k ≠ (m : Int) := fun e => by subst e; exact (h.2.not_mem_erase) hk
        omega, h.2.erase _⟩
      rw [List.length_erase_of_mem hm] at h1
      omega
    · have h1 := goodP_len m l ⟨fun k hk => by
        have h2 := h.1 k hk
        have h3 : k ≠ (m : Int) := fun e => by subst e; exact hm hk
        omega, h.2⟩
      omega
/-- The program's places: each below 6. -/
def placesB (m : Int) (l : List Int) : Bool := decide (goodP (min m 6) l ∧ 1 ≤ l.length)
/-- The reference's: at most 6 of them. -/
def placesR (m : Int) (l : List Int) : Bool := decide (goodP m l ∧ 1 ≤ l.length ∧ l.length ≤ 6)
theorem places_eq {m : Int} (h : m ≤ 6) (h0 : 0 ≤ m) (l : List Int) : placesB m l = placesR m l := by
  unfold placesB placesR
  rw [show min m 6 = m by omega]
  obtain ⟨k, rfl⟩ : ∃ k : Nat, m = (k : Int) := ⟨m.toNat, by omega⟩
  refine decide_eq_decide.2 ⟨fun ⟨h1, h2⟩ => ⟨h1, h2, ?_⟩, fun ⟨h1, h2, _⟩ => ⟨h1, h2⟩⟩
  have := goodP_len k l h1
  omega

/-! ### the program's -/
def seenRow (l : List Int) : List Value := [.bool (decide ((0 : Int) ∈ l)), .bool (decide ((1 : Int) ∈ l)), .bool (decide ((2 : Int) ∈ l)), .bool (decide ((3 : Int) ∈ l)), .bool (decide ((4 : Int) ∈ l)), .bool (decide ((5 : Int) ∈ l))]
theorem seenRow_at (l : List Int) (j : Nat) (h : j < 6) : (seenRow l)[j]? = some (.bool (decide ((j : Int) ∈ l))) := by
  match j, h with
  | 0, _ => rfl
  | 1, _ => rfl
  | 2, _ => rfl
  | 3, _ => rfl
  | 4, _ => rfl
  | 5, _ => rfl
theorem seenRow_set (l : List Int) (j : Nat) (h : j < 6) : (seenRow l).set j (.bool true) = seenRow (l ++ [(j : Int)]) := by
  have key : ∀ i : Int, decide (i ∈ l ++ [(j : Int)]) = (decide (i ∈ l) || decide (i = (j : Int))) := fun i => by simp
  unfold seenRow
  rw [key, key, key, key, key, key]
  match j, h with
  | 0, _ => simp
  | 1, _ => simp
  | 2, _ => simp
  | 3, _ => simp
  | 4, _ => simp
  | 5, _ => simp
theorem rInt_at {w : World} {p : Nat → Prop} {a : Option Addr} {n cap : Nat} {l : List Int} (h : rList (rInt .i64) w p [.slice a n cap] l) (k : Nat) (hk : k < l.length) :
    ∃ b off, a = some ⟨b, off, none⟩ ∧ b < w.heap.size ∧ w.cell? ⟨b, off + k, none⟩ = some (.int .i64 l[k]) ∧ isI64 l[k] := by
  obtain ⟨b, o, c, ca, e, -, hb, r, hc⟩ := rList_at (rInt_lawful _) (by decide) h k hk
  simp only [List.cons.injEq, Value.slice.injEq, and_true] at e
  obtain ⟨rfl, -, -⟩ := e
  obtain ⟨rfl, hw⟩ := r
  have x := hc 0 _ rfl
  rw [Nat.mul_one, Nat.add_zero] at x
  exact ⟨b, o, rfl, hb, x, isI64_wf hw⟩
set_option maxHeartbeats 2000000 in
theorem splaces_c {p : Nat → Prop} (a : Option Addr) (n cap : Nat) (l : List Int) (m : Int) (w : World) (hl : rList (rInt .i64) w p [.slice a n cap] l) :
    Calls Try.prog 49 #[.slice a n cap, .int .i64 m] w fun e w' => e = .returned (.bool (placesB m l)) ∧ Keep Nix w w' := by
  obtain ⟨rfl, -, hf⟩ := rList_len hl
  have hfar : l.length ≤ 9223372036854775807 := by have := far_len; unfold maxLen at this; omega
  clear hf
  have row0 : RowIs (w.alloc (.cells #[.bool false, .bool false, .bool false, .bool false, .bool false, .bool false] 122)) w.heap.size 122 (seenRow []) := RowIs.alloc w _ _
  have kk0 : Keep Nix w (w.alloc (.cells #[.bool false, .bool false, .bool false, .bool false, .bool false, .bool false] 122)) := (Keep.refl Nix w).alloc _
  go_enter Try.func49, Try.ntmps49
  go_wp2_with fail
  go_loopw [11] (fun i wr => ∃ k : Nat, k ≤ l.length ∧ i = .int .i64 k ∧ Hid (goodP (min m 6) (l.take k)) ∧ RowIs wr w.heap.size 122 (seenRow (l.take k)) ∧ Keep Nix w wr) (fun i _ => l.length - (intOf i).toNat)
  case atStart => exact ⟨0, by omega, rfl, goodP_nil _, row0, kk0⟩
  case round =>
    clear row0 kk0
    obtain ⟨k, hk, rfl, hg, row, kk⟩ := hrel
    by_cases hlt : k < l.length
    · have hi0 : (0 : Int) ≤ (k : Int) := by omega
      have hi1 : (k : Int) < (l.length : Int) := by omega
      obtain ⟨b, off, rfl, hb, x, -⟩ := rInt_at ((rList_lawful (rInt_lawful _)).nix hl kk) k hlt
      have HB := Lib.hid (goodP_bad (m := min m 6) k hlt)
      have HS := Lib.hid (goodP_snoc (m := min m 6) k hlt)
      clear hl
      generalize hv : l[k] = v at x HB HS
      replace hv := Lib.hid hv
      have fin : ¬ goodP (min m 6) l → placesB m l = false := fun h => by unfold placesB; rw [decide_eq_false_iff_not]; exact fun h2 => h h2.1
      have FIN := Lib.hid fin
      clear fin
      rcases Int.lt_or_le v 0 with h1 | h1
      · go_wp2_with fail
        go_ret
        exact ⟨ret_bool (FIN.out (HB.out (by omega))).symm, kk⟩
      rcases Int.lt_or_le v m with h2 | h2
      rotate_left
      · go_wp2_with fail
        go_ret
        exact ⟨ret_bool (FIN.out (HB.out (by omega))).symm, kk⟩
      rcases Int.lt_or_le v 6 with h3 | h3
      rotate_left
      · go_wp2_with fail
        go_ret
        exact ⟨ret_bool (FIN.out (HB.out (by omega))).symm, kk⟩
      obtain ⟨j, rfl⟩ : ∃ j : Nat, v = (j : Int) := ⟨v.toNat, by omega⟩
      have hj : j < 6 := by omega
      have y : wr.cell? ⟨w.heap.size, j, none⟩ = some (.bool (decide ((j : Int) ∈ l.take k))) := by rw [row.cell, seenRow_at _ _ hj]
      have yf := row.frozen j
      by_cases hm : (j : Int) ∈ l.take k
      · have hd : decide ((j : Int) ∈ l.take k) = true := decide_eq_true hm
        rw [hd] at y
        have HM := Lib.hid hm
        clear hd hm
        go_wp2_with fail
        go_ret
        exact ⟨ret_bool (FIN.out (HB.out (fun h => h.2.2 HM.out))).symm, kk⟩
      · have hd : decide ((j : Int) ∈ l.take k) = false := decide_eq_false hm
        rw [hd] at y
        have HM := Lib.hid hm
        have row2 := row.set j (.bool true)
        rw [seenRow_set _ _ hj] at row2
        have kk2 := kk.setCell (p := ⟨w.heap.size, j, none⟩) (fun h => absurd h (Nat.lt_irrefl _)) (.bool true)
        have HT : Hid (l.take (k + 1) = l.take k ++ [(j : Int)]) := by show _ = _; rw [List.take_succ_eq_append_getElem hlt, hv.out]
        clear hd hm row kk hv
        go_wp2_with fail
        go_roundw
        case rel => exact ⟨k + 1, by omega, by go_num, by show goodP _ _; rw [HS.out]; exact ⟨hg.out, by omega, by omega, HM.out⟩, by rw [HT.out]; exact row2, kk2⟩
        case measure => simp [intOf]; omega
    · obtain rfl : k = l.length := by omega
      have hG : placesB m l = decide (1 ≤ l.length) := by
        have := hg.out
        rw [List.take_length] at this
        unfold placesB; exact decide_eq_decide.2 ⟨fun h => h.2, fun h => ⟨this, h⟩⟩
      have HG := Lib.hid hG
      clear hG
      go_wp2_with fail
      go_ret
      exact ⟨ret_bool (by rw [HG.out]; exact decide_eq_decide.2 (by omega)), kk⟩

/-! ### the reference's -/
theorem rList_take {α : Type} {R : RD α} {w : World} {p : Nat → Prop} {a : Option Addr} {n cap : Nat} {l : List α} (h : rList R w p [.slice a n cap] l) (k : Nat) (hk : k ≤ l.length) : rList R w p [.slice a k cap] (l.take k) := by
  obtain ⟨a', cap', css, e, h1, h2, h3, h4, h5⟩ := h
  simp only [List.cons.injEq, Value.slice.injEq, and_true] at e
  obtain ⟨rfl, rfl, rfl⟩ := e
  have hlen : (l.take k).length = k := by rw [List.length_take]; omega
  refine ⟨a, cap, css.take k, by rw [hlen], by rw [List.length_take, hlen]; omega, fun hx => ?_, by omega, by omega, fun i c x hc hx => ?_⟩
  · have hne : css.flatten ≠ [] := fun e => hx (by
      have : (css.take k ++ css.drop k).flatten = [] := by rw [List.take_append_drop]; exact e
      rw [List.flatten_append] at this
      exact (List.append_eq_nil_iff.1 this).1)
    obtain ⟨b, off, ha, hp, hb, hc⟩ := h2 hne
    refine ⟨b, off, ha, hp, hb, fun j u hu => hc j u ?_⟩
    have : css.flatten = (css.take k).flatten ++ (css.drop k).flatten := by rw [← List.flatten_append, List.take_append_drop]
    rw [this, List.getElem?_append_left (List.getElem?_eq_some_iff.1 hu).1]; exact hu
  · rw [List.getElem?_take] at hc hx
    split at hc
    · rename_i hik
      rw [if_pos hik] at hx
      exact h5 i c x hc hx
    · cases hc
end Go.Proofs.Ytibaehlfpgipfaa
