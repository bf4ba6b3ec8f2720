/- SCHEMA, THE SMALLEST PARTS: names, places, what a state does. -/
import Derived.Test.YtibaehlfpgipfaaOpens
import Derived.Deep.RegionHeld3
import Derived.WalkSpells
namespace Go.Proofs.Ytibaehlfpgipfaa
open Go.RowKit

/-- May a byte be in a name? -/
def chB (c : UInt8) : Bool := decide (97 ≤ c.toNat ∧ c.toNat ≤ 122 ∨ 48 ≤ c.toNat ∧ c.toNat ≤ 57 ∨ c.toNat = 95)
def nameB (l : List UInt8) : Bool := l.all chB && decide (1 ≤ l.length ∧ l.length ≤ 20)
theorem nameB_bad {l : List UInt8} (k : Nat) (h : k < l.length) (hc : chB l[k] = false) : nameB l = false := by
  unfold nameB
  rw [Bool.and_eq_false_iff]; left
  rw [List.all_eq_false]
  exact ⟨l[k], List.getElem_mem h, by simp [hc]⟩
theorem nameB_good {l : List UInt8} (h : l.all chB = true) : nameB l = decide (1 ≤ l.length ∧ l.length ≤ 20) := by unfold nameB; rw [h]; rfl
theorem all_snoc (l : List UInt8) (k : Nat) (h : k < l.length) : (l.take (k + 1)).all chB = ((l.take k).all chB && chB l[k]) := by
  rw [List.take_succ_eq_append_getElem h, List.all_append]; simp
theorem take_snoc_b (s : ByteArray) (k : Nat) (h : k < s.size) : (s.data.toList.take (k + 1)).all chB = ((s.data.toList.take k).all chB && chB s[k]) := all_snoc _ k (by simpa using h)
set_option maxHeartbeats 1000000 in
theorem named_c (s : ByteArray) (w : World) (hs : s.size ≤ maxLen) : Calls Try.prog 48 #[.string s] w fun e w' => e = .returned (.bool (nameB s.data.toList)) ∧ w = w' := by
  unfold maxLen at hs
  have hl : s.data.toList.length = s.size := by rw [Array.length_toList]; rfl
  have HL := Lib.hid hl
  clear hl
  go_enter Try.func48, Try.ntmps48
  go_wp2
  go_loop [7] (fun i => ∃ k : Nat, k ≤ s.size ∧ i = .int .i64 k ∧ Hid ((s.data.toList.take k).all chB = true)) (fun i => s.size - (intOf i).toNat)
  case atStart => exact ⟨0, Nat.zero_le _, rfl, rfl⟩
  case round =>
    obtain ⟨k, hk, rfl, hp⟩ := hrel
    by_cases hlt : k < s.size
    · have HS := Lib.hid (take_snoc_b s k hlt)
      have hB : chB s[k] = false → nameB s.data.toList = false := fun h => nameB_bad (l := s.data.toList) k (by rw [HL.out]; exact hlt) h
      have HB := Lib.hid hB
      clear hB
      go_wp2
      all_goals first
        | (go_ret; exact ⟨ret_bool (HB.out (by unfold chB; rw [decide_eq_false_iff_not]; simp only [bne_iff_ne, ne_eq] at *; omega)).symm, rfl⟩)
        | (go_round
           case rel => exact ⟨k + 1, by omega, by go_num, by show _ = _; rw [HS.out, hp.out, Bool.true_and]; unfold chB; rw [decide_eq_true_iff]; (try simp only [bne_eq_false_iff_eq] at *); omega⟩
           case measure => simp [intOf]; omega)
    · have e : k = s.size := by omega
      have ha : s.data.toList.all chB = true := by
        have := hp.out
        rwa [List.take_of_length_le (by rw [HL.out]; omega)] at this
      have HG := Lib.hid (nameB_good ha)
      clear ha hp e
      have hz : (s.toList = []) ↔ s.size = 0 := by rw [ByteArray.toList_eq, ← HL.out]; exact List.length_eq_zero_iff.symm
      have HZ := Lib.hid hz
      clear hz
      by_cases h0 : s.size = 0
      · have t1 := HZ.out.2 h0
        go_wp2
        go_ret
        exact ⟨ret_bool (by rw [HG.out, HL.out]; exact (decide_eq_false (by omega)).symm), rfl⟩
      · have t1 : ¬ s.toList = [] := fun h => h0 (HZ.out.1 h)
        have t2 : (!s.toList.isEmpty) = true := by simp [t1]
        go_wp2
        go_ret
        exact ⟨ret_bool (by rw [HG.out, HL.out]; exact decide_eq_decide.2 (by omega)), rfl⟩
theorem named_s (l : List UInt8) (w : World) (hs : l.length ≤ far) : Calls Try.prog 48 #[.string (strB l)] w fun e w' => e = .returned (.bool (nameB l)) ∧ w = w' := by
  have := named_c (strB l) w (by rw [strB_size]; exact Nat.le_trans hs far_len.2)
  rwa [strB_list] at this

/-! ### states -/
def nextF (s : Int) : Int := if s = 1 ∨ s = 2 ∨ s = 3 ∨ s = 5 ∨ s = 6 then s + 1 else if s = 4 then 4 else 0
def readsB (s : Int) : Bool := decide (s = 4)
def writesB (s : Int) : Bool := decide (2 ≤ s ∧ s ≤ 5)
def deletesB (s : Int) : Bool := decide (1 ≤ s ∧ s ≤ 7)
theorem ret_bool3 {a b c a' b' c' : Bool} (h : a = a') (h2 : b = b') (h3 : c = c') : Ending.returned (.tuple #[.bool a, .bool b, .bool c]) = .returned (.tuple #[.bool a', .bool b', .bool c']) := by rw [h, h2, h3]
theorem sNext_c {p : Nat → Prop} (x : GIndex) (cs : List Value) (w : World) (hx : rGIndex w p cs x) : Calls Try.prog 39 #[.agg cs.toArray] w fun e w' => e = .returned (.int .i64 (nextF x.fState)) ∧ Keep Nix w w' := by
  obtain ⟨a, c, rfl, -, -, -, -, h5, -⟩ := rGIndex_open hx
  generalize x.fState = s at h5
  have kk : Keep Nix w (w.alloc (.cells #[.int .i64 x.fID, .int .i64 x.fTable, .string (strB x.fName), .slice a x.fColumns.length c, .bool x.fUnique, .int .i64 s, .bool x.fBad] 51)) := (Keep.refl Nix w).alloc _
  clear hx
  have hs : s = 1 ∨ s = 2 ∨ s = 3 ∨ s = 4 ∨ s = 5 ∨ s = 6 ∨ ((s == 1) = false ∧ (s == 2) = false ∧ (s == 3) = false ∧ (s == 4) = false ∧ (s == 5) = false ∧ (s == 6) = false ∧ nextF s = 0) := by
    simp only [beq_eq_false_iff_ne, ne_eq, nextF]; split
    · omega
    · split <;> omega
  clear h5
  rcases hs with rfl | rfl | rfl | rfl | rfl | rfl | ⟨t1, t2, t3, t4, t5, t6, hn⟩
  rotate_right
  · have HN := Lib.hid hn
    clear hn
    go_enter Try.func39, Try.ntmps39
    go_wp2
    go_ret
    exact ⟨ret_int HN.out.symm, kk⟩
  all_goals
    go_enter Try.func39, Try.ntmps39
    go_wp2
    go_ret
    exact ⟨rfl, kk⟩
end Go.Proofs.Ytibaehlfpgipfaa
namespace Go.Proofs.Ytibaehlfpgipfaa
open Go.RowKit

/-! ### plainly -/
def goodP (m : Int) (l : List Int) : Prop := (∀ k ∈ l, 0 ≤ k ∧ k < m) ∧ l.Nodup
instance (m : Int) (l : List Int) : Decidable (goodP m l) := by unfold goodP; infer_instance
theorem goodP_nil (m : Int) : goodP m [] := ⟨by simp, List.nodup_nil⟩
theorem goodP_app {m : Int} (t : List Int) (x : Int) : goodP m (t ++ [x]) ↔ goodP m t ∧ 0 ≤ x ∧ x < m ∧ x ∉ t := by
  unfold goodP
  rw [List.nodup_append]
  constructor
  · rintro ⟨h1, h2, h3, h4⟩
    exact ⟨⟨fun y hy => h1 y (by simp [hy]), h2⟩, (h1 x (by simp)).1, (h1 x (by simp)).2, fun hm => h4 _ hm _ (by simp) rfl⟩
  · rintro ⟨⟨h1, h2⟩, h3, h4, h5⟩
    refine ⟨fun y hy => ?_, h2, by simp, fun a ha b hb e => ?_⟩
    · rcases List.mem_append.1 hy with hy | hy
      · exact h1 y hy
      · simp at hy; subst hy; exact ⟨h3, h4⟩
    · simp at hb; subst hb; subst e; exact h5 ha
theorem goodP_snoc {m : Int} {l : List Int} (k : Nat) (h : k < l.length) : goodP m (l.take (k + 1)) ↔ goodP m (l.take k) ∧ 0 ≤ l[k] ∧ l[k] < m ∧ l[k] ∉ l.take k := by
  rw [List.take_succ_eq_append_getElem h]
  exact goodP_app _ _
theorem goodP_take {m : Int} {l : List Int} (k : Nat) (h : goodP m l) : goodP m (l.take k) :=
  ⟨fun x hx => h.1 x (List.mem_of_mem_take hx), h.2.sublist (List.take_sublist k l)⟩
theorem goodP_bad {m : Int} {l : List Int} (k : Nat) (h : k < l.length) (hb : ¬ (0 ≤ l[k] ∧ l[k] < m ∧ l[k] ∉ l.take k)) : ¬ goodP m l :=
  fun hg => hb ((goodP_snoc k h).1 (goodP_take (k + 1) hg)).2
theorem goodP_len : ∀ (m : Nat) (l : List Int), goodP (m : Int) l → l.length ≤ m
  | 0, l, h => by
    cases l with
    | nil => simp
    | cons x l => have := h.1 x (by simp); omega
  | m + 1, l, h => by
    by_cases hm : (m : Int) ∈ l
    · have h1 := goodP_len m (l.erase (m : Int)) ⟨fun k hk => by
        have h2 := h.1 k (List.mem_of_mem_erase hk)
        have h3 : k ≠ (m : Int) := fun e => by subst e; exact (h.2.not_mem_erase) hk
        omega, h.2.erase _⟩
      rw [List.length_erase_of_mem hm] at h1
      omega
    · have h1 := goodP_len m l ⟨fun k hk => by
        have h2 := h.1 k hk
        have h3 : k ≠ (m : Int) := fun e => by subst e; exact hm hk
        omega, h.2⟩
      omega
/-- The program's places: each below 6. -/
def placesB (m : Int) (l : List Int) : Bool := decide (goodP (min m 6) l ∧ 1 ≤ l.length)
/-- The reference's: at most 6 of them. -/
def placesR (m : Int) (l : List Int) : Bool := decide (goodP m l ∧ 1 ≤ l.length ∧ l.length ≤ 6)
theorem places_eq {m : Int} (h : m ≤ 6) (h0 : 0 ≤ m) (l : List Int) : placesB m l = placesR m l := by
  unfold placesB placesR
  rw [show min m 6 = m by omega]
  obtain ⟨k, rfl⟩ : ∃ k : Nat, m = (k : Int) := ⟨m.toNat, by omega⟩
  refine decide_eq_decide.2 ⟨fun ⟨h1, h2⟩ => ⟨h1, h2, ?_⟩, fun ⟨h1, h2, _⟩ => ⟨h1, h2⟩⟩
  have := goodP_len k l h1
  omega

/-! ### the program's -/
def seenRow (l : List Int) : List Value := [.bool (decide ((0 : Int) ∈ l)), .bool (decide ((1 : Int) ∈ l)), .bool (decide ((2 : Int) ∈ l)), .bool (decide ((3 : Int) ∈ l)), .bool (decide ((4 : Int) ∈ l)), .bool (decide ((5 : Int) ∈ l))]
theorem seenRow_at (l : List Int) (j : Nat) (h : j < 6) : (seenRow l)[j]? = some (.bool (decide ((j : Int) ∈ l))) := by
  match j, h with
  | 0, _ => rfl
  | 1, _ => rfl
  | 2, _ => rfl
  | 3, _ => rfl
  | 4, _ => rfl
  | 5, _ => rfl
theorem seenRow_set (l : List Int) (j : Nat) (h : j < 6) : (seenRow l).set j (.bool true) = seenRow (l ++ [(j : Int)]) := by
  have key : ∀ i : Int, decide (i ∈ l ++ [(j : Int)]) = (decide (i ∈ l) || decide (i = (j : Int))) := fun i => by simp
  unfold seenRow
  rw [key, key, key, key, key, key]
  match j, h with
  | 0, _ => simp
  | 1, _ => simp
  | 2, _ => simp
  | 3, _ => simp
  | 4, _ => simp
  | 5, _ => simp
theorem rInt_at {w : World} {p : Nat → Prop} {a : Option Addr} {n cap : Nat} {l : List Int} (h : rList (rInt .i64) w p [.slice a n cap] l) (k : Nat) (hk : k < l.length) :
    ∃ b off, a = some ⟨b, off, none⟩ ∧ b < w.heap.size ∧ w.cell? ⟨b, off + k, none⟩ = some (.int .i64 l[k]) ∧ isI64 l[k] := by
  obtain ⟨b, o, c, ca, e, -, hb, r, hc⟩ := rList_at (rInt_lawful _) (by decide) h k hk
  simp only [List.cons.injEq, Value.slice.injEq, and_true] at e
  obtain ⟨rfl, -, -⟩ := e
  obtain ⟨rfl, hw⟩ := r
  have x := hc 0 _ rfl
  rw [Nat.mul_one, Nat.add_zero] at x
  exact ⟨b, o, rfl, hb, x, isI64_wf hw⟩
set_option maxHeartbeats 2000000 in
theorem splaces_c {p : Nat → Prop} (a : Option Addr) (n cap : Nat) (l : List Int) (m : Int) (w : World) (hl : rList (rInt .i64) w p [.slice a n cap] l) :
    Calls Try.prog 49 #[.slice a n cap, .int .i64 m] w fun e w' => e = .returned (.bool (placesB m l)) ∧ Keep Nix w w' := by
  obtain ⟨rfl, -, hf⟩ := rList_len hl
  have hfar : l.length ≤ 9223372036854775807 := by have := far_len; unfold maxLen at this; omega
  clear hf
  have row0 : RowIs (w.alloc (.cells #[.bool false, .bool false, .bool false, .bool false, .bool false, .bool false] 122)) w.heap.size 122 (seenRow []) := RowIs.alloc w _ _
  have kk0 : Keep Nix w (w.alloc (.cells #[.bool false, .bool false, .bool false, .bool false, .bool false, .bool false] 122)) := (Keep.refl Nix w).alloc _
  go_enter Try.func49, Try.ntmps49
  go_wp2_with fail
  go_loopw [11] (fun i wr => ∃ k : Nat, k ≤ l.length ∧ i = .int .i64 k ∧ Hid (goodP (min m 6) (l.take k)) ∧ RowIs wr w.heap.size 122 (seenRow (l.take k)) ∧ Keep Nix w wr) (fun i _ => l.length - (intOf i).toNat)
  case atStart => exact ⟨0, by omega, rfl, goodP_nil _, row0, kk0⟩
  case round =>
    clear row0 kk0
    obtain ⟨k, hk, rfl, hg, row, kk⟩ := hrel
    by_cases hlt : k < l.length
    · have hi0 : (0 : Int) ≤ (k : Int) := by omega
      have hi1 : (k : Int) < (l.length : Int) := by omega
      obtain ⟨b, off, rfl, hb, x, -⟩ := rInt_at ((rList_lawful (rInt_lawful _)).nix hl kk) k hlt
      have HB := Lib.hid (goodP_bad (m := min m 6) k hlt)
      have HS := Lib.hid (goodP_snoc (m := min m 6) k hlt)
      clear hl
      generalize hv : l[k] = v at x HB HS
      replace hv := Lib.hid hv
      have fin : ¬ goodP (min m 6) l → placesB m l = false := fun h => by unfold placesB; rw [decide_eq_false_iff_not]; exact fun h2 => h h2.1
      have FIN := Lib.hid fin
      clear fin
      rcases Int.lt_or_le v 0 with h1 | h1
      · go_wp2_with fail
        go_ret
        exact ⟨ret_bool (FIN.out (HB.out (by omega))).symm, kk⟩
      rcases Int.lt_or_le v m with h2 | h2
      rotate_left
      · go_wp2_with fail
        go_ret
        exact ⟨ret_bool (FIN.out (HB.out (by omega))).symm, kk⟩
      rcases Int.lt_or_le v 6 with h3 | h3
      rotate_left
      · go_wp2_with fail
        go_ret
        exact ⟨ret_bool (FIN.out (HB.out (by omega))).symm, kk⟩
      obtain ⟨j, rfl⟩ : ∃ j : Nat, v = (j : Int) := ⟨v.toNat, by omega⟩
      have hj : j < 6 := by omega
      have y : wr.cell? ⟨w.heap.size, j, none⟩ = some (.bool (decide ((j : Int) ∈ l.take k))) := by rw [row.cell, seenRow_at _ _ hj]
      have yf := row.frozen j
      by_cases hm : (j : Int) ∈ l.take k
      · have hd : decide ((j : Int) ∈ l.take k) = true := decide_eq_true hm
        rw [hd] at y
        have HM := Lib.hid hm
        clear hd hm
        go_wp2_with fail
        go_ret
        exact ⟨ret_bool (FIN.out (HB.out (fun h => h.2.2 HM.out))).symm, kk⟩
      · have hd : decide ((j : Int) ∈ l.take k) = false := decide_eq_false hm
        rw [hd] at y
        have HM := Lib.hid hm
        have row2 := row.set j (.bool true)
        rw [seenRow_set _ _ hj] at row2
        have kk2 := kk.setCell (p := ⟨w.heap.size, j, none⟩) (fun h => absurd h (Nat.lt_irrefl _)) (.bool true)
        have HT : Hid (l.take (k + 1) = l.take k ++ [(j : Int)]) := by show _ = _; rw [List.take_succ_eq_append_getElem hlt, hv.out]
        clear hd hm row kk hv
        go_wp2_with fail
        go_roundw
        case rel => exact ⟨k + 1, by omega, by go_num, by show goodP _ _; rw [HS.out]; exact ⟨hg.out, by omega, by omega, HM.out⟩, by rw [HT.out]; exact row2, kk2⟩
        case measure => simp [intOf]; omega
    · obtain rfl : k = l.length := by omega
      have hG : placesB m l = decide (1 ≤ l.length) := by
        have := hg.out
        rw [List.take_length] at this
        unfold placesB; exact decide_eq_decide.2 ⟨fun h => h.2, fun h => ⟨this, h⟩⟩
      have HG := Lib.hid hG
      clear hG
      go_wp2_with fail
      go_ret
      exact ⟨ret_bool (by rw [HG.out]; exact decide_eq_decide.2 (by omega)), kk⟩

/-! ### the reference's -/
theorem rList_take {α : Type} {R : RD α} {w : World} {p : Nat → Prop} {a : Option Addr} {n cap : Nat} {l : List α} (h : rList R w p [.slice a n cap] l) (k : Nat) (hk : k ≤ l.length) : rList R w p [.slice a k cap] (l.take k) := by
  obtain ⟨a', cap', css, e, h1, h2, h3, h4, h5⟩ := h
  simp only [List.cons.injEq, Value.slice.injEq, and_true] at e
  obtain ⟨rfl, rfl, rfl⟩ := e
  have hlen : (l.take k).length = k := by rw [List.length_take]; omega
  refine ⟨a, cap, css.take k, by rw [hlen], by rw [List.length_take, hlen]; omega, fun hx => ?_, by omega, by omega, fun i c x hc hx => ?_⟩
  · have hne : css.flatten ≠ [] := fun e => hx (by
      have : (css.take k ++ css.drop k).flatten = [] := by rw [List.take_append_drop]; exact e
      rw [List.flatten_append] at this
      exact (List.append_eq_nil_iff.1 this).1)
    obtain ⟨b, off, ha, hp, hb, hc⟩ := h2 hne
    refine ⟨b, off, ha, hp, hb, fun j u hu => hc j u ?_⟩
    have : css.flatten = (css.take k).flatten ++ (css.drop k).flatten := by rw [← List.flatten_append, List.take_append_drop]
    rw [this, List.getElem?_append_left (List.getElem?_eq_some_iff.1 hu).1]; exact hu
  · rw [List.getElem?_take] at hc hx
    split at hc
    · rename_i hik
      rw [if_pos hik] at hx
      exact h5 i c x hc hx
    · cases hc
end Go.Proofs.Ytibaehlfpgipfaa
namespace Go.Proofs.Ytibaehlfpgipfaa
open Go.RowKit

/-- Where the first one is. -/
def findB {α : Type} (P : α → Bool) (l : List α) : Int := match l.findIdx? P with
  | some i => (i : Int)
  | none => -1
theorem findB_at {α : Type} {P : α → Bool} {l : List α} (k : Nat) (h : k < l.length) (hn : ∀ j, j < k → ∀ x, l[j]? = some x → P x = false) (hp : P l[k] = true) : findB P l = (k : Int) := by
  have : l.findIdx? P = some k := by
    rw [List.findIdx?_eq_some_iff_getElem]
    exact ⟨h, hp, fun j hj => by simp [hn j hj _ (List.getElem?_eq_getElem (by omega))]⟩
  unfold findB; rw [this]
theorem findB_none {α : Type} {P : α → Bool} {l : List α} (hn : ∀ j, j < l.length → ∀ x, l[j]? = some x → P x = false) : findB P l = -1 := by
  have : l.findIdx? P = none := by
    rw [List.findIdx?_eq_none_iff]
    intro x hx
    obtain ⟨j, hj, rfl⟩ := List.mem_iff_getElem.1 hx
    exact hn j hj _ (List.getElem?_eq_getElem hj)
  unfold findB; rw [this]
theorem findB_cases {α : Type} (P : α → Bool) (l : List α) : (findB P l = -1 ∧ ∀ x ∈ l, P x = false) ∨ ∃ (k : Nat) (h : k < l.length), findB P l = (k : Int) ∧ P l[k] = true ∧ ∀ j (hj : j < k), P (l[j]'(by omega)) = false := by
  cases hf : l.findIdx? P with
  | none => exact .inl ⟨by unfold findB; rw [hf], fun x hx => by
      have := List.findIdx?_eq_none_iff.1 hf x hx; simpa using this⟩
  | some k =>
    obtain ⟨h, h1, h2⟩ := List.findIdx?_eq_some_iff_getElem.1 hf
    exact .inr ⟨k, h, by unfold findB; rw [hf], h1, fun j hj => by have := h2 j hj; simpa using this⟩
def NoneYet {α : Type} (P : α → Bool) (l : List α) (k : Nat) : Prop := ∀ j, j < k → ∀ x, l[j]? = some x → P x = false
theorem NoneYet.succ {α : Type} {P : α → Bool} {l : List α} {k : Nat} (h : NoneYet P l k) (hk : k < l.length) (hp : P l[k] = false) : NoneYet P l (k + 1) := fun j hj x hx => by
  by_cases e : j = k
  · subst e; rw [List.getElem?_eq_getElem hk] at hx; cases hx; exact hp
  · exact h j (by omega) x hx
section
attribute [local go_sem ↓] ldz_Column
set_option maxHeartbeats 1000000 in
theorem ifColumn_c {p : Nat → Prop} (a : Option Addr) (n cap : Nat) (l : List GColumn) (fv : FuncId) (u : Value) (P : GColumn → Bool) (w : World) (hl : rList rGColumn w p [.slice a n cap] l)
    (hE : ∀ args w, (callFunc fv args).run Try.prog w = .ok (.enter fv args) w) (hF : (∀ (w' : World) (x : GColumn) (cs : List Value), Keep Nix w w' → x ∈ l → rGColumn w' p cs x → Calls Try.prog fv #[.agg cs.toArray, u] w' fun e w'' => e = .returned (.bool (P x)) ∧ Keep Nix w' w'')) :
    Calls Try.prog 51 #[.slice a n cap, .func (.func fv) #[] #[u]] w fun e w' => e = .returned (.int .i64 (findB P l)) ∧ Keep Nix w w' := by
  obtain ⟨rfl, -, hf⟩ := rList_len hl
  have hfar : l.length ≤ 9223372036854775807 := by have := far_len; unfold maxLen at this; omega
  have HF := Lib.hid hF
  clear hf hF
  go_enter Try.func51, Try.ntmps51
  go_wp2_with fail
  go_loopw [8] (fun i wr => ∃ k : Nat, k ≤ l.length ∧ i = .int .i64 k ∧ Hid (NoneYet P l k) ∧ Keep Nix w wr) (fun i _ => l.length - (intOf i).toNat)
  case atStart => exact ⟨0, by omega, rfl, fun j hj => by omega, Keep.refl _ _⟩
  case round =>
    obtain ⟨k, hk, rfl, hg, kk⟩ := hrel
    by_cases hlt : k < l.length
    · have hi0 : (0 : Int) ≤ (k : Int) := by omega
      have hi1 : (k : Int) < (l.length : Int) := by omega
      have HM : Hid (l[k] ∈ l) := List.getElem_mem hlt
      have HA := Lib.hid (findB_at (P := P) k hlt hg.out)
      have HS := Lib.hid (hg.out.succ (P := P) hlt)
      obtain ⟨b, o, c, cs, e1, -, hb, r, hc⟩ := rList_at rGColumn_lawful (by decide) ((rList_lawful rGColumn_lawful).nix hl kk) k hlt
      simp only [List.cons.injEq, Value.slice.injEq, and_true] at e1
      obtain ⟨rfl, -, -⟩ := e1
      have ld := Whole.at (P := Try.prog) S_Column (rGColumn_lawful.len r) hc
      unfold Whole at ld
      clear hl hc
      generalize l[k] = x at HM HA HS r
      have hcall := HF.out wr x cs kk HM.out r
      clear r
      rcases hP : P x with _ | _
      · rw [hP] at hcall
        have HP := Lib.hid hP
        have HC := Lib.hid hcall
        clear hP hcall
        go_wp2_with fail
        go_fit HC.out
        clear HC
        rintro e w2 ⟨rfl, k2⟩
        replace kk := kk.trans k2
        clear k2
        go_wp2_with fail
        go_roundw
        case rel => exact ⟨k + 1, by omega, by go_num, HS.out HP.out, kk⟩
        case measure => simp [intOf]; omega
      · rw [hP] at hcall
        have HP := Lib.hid hP
        have HC := Lib.hid hcall
        clear hP hcall
        go_wp2_with fail
        go_fit HC.out
        clear HC
        rintro e w2 ⟨rfl, k2⟩
        replace kk := kk.trans k2
        clear k2
        go_wp2_with fail
        go_ret
        exact ⟨ret_int (HA.out HP.out).symm, kk⟩
    · obtain rfl : k = l.length := by omega
      have HN := Lib.hid (findB_none (P := P) hg.out)
      go_wp2_with fail
      go_ret
      exact ⟨ret_int HN.out.symm, kk⟩
end
section
attribute [local go_sem ↓] ldz_Table
set_option maxHeartbeats 1000000 in
theorem ifTable_c {p : Nat → Prop} (a : Option Addr) (n cap : Nat) (l : List GTable) (fv : FuncId) (u : Value) (P : GTable → Bool) (w : World) (hl : rList rGTable w p [.slice a n cap] l)
    (hE : ∀ args w, (callFunc fv args).run Try.prog w = .ok (.enter fv args) w) (hF : (∀ (w' : World) (x : GTable) (cs : List Value), Keep Nix w w' → x ∈ l → rGTable w' p cs x → Calls Try.prog fv #[.agg cs.toArray, u] w' fun e w'' => e = .returned (.bool (P x)) ∧ Keep Nix w' w'')) :
    Calls Try.prog 46 #[.slice a n cap, .func (.func fv) #[] #[u]] w fun e w' => e = .returned (.int .i64 (findB P l)) ∧ Keep Nix w w' := by
  obtain ⟨rfl, -, hf⟩ := rList_len hl
  have hfar : l.length ≤ 9223372036854775807 := by have := far_len; unfold maxLen at this; omega
  have HF := Lib.hid hF
  clear hf hF
  go_enter Try.func46, Try.ntmps46
  go_wp2_with fail
  go_loopw [8] (fun i wr => ∃ k : Nat, k ≤ l.length ∧ i = .int .i64 k ∧ Hid (NoneYet P l k) ∧ Keep Nix w wr) (fun i _ => l.length - (intOf i).toNat)
  case atStart => exact ⟨0, by omega, rfl, fun j hj => by omega, Keep.refl _ _⟩
  case round =>
    obtain ⟨k, hk, rfl, hg, kk⟩ := hrel
    by_cases hlt : k < l.length
    · have hi0 : (0 : Int) ≤ (k : Int) := by omega
      have hi1 : (k : Int) < (l.length : Int) := by omega
      have HM : Hid (l[k] ∈ l) := List.getElem_mem hlt
      have HA := Lib.hid (findB_at (P := P) k hlt hg.out)
      have HS := Lib.hid (hg.out.succ (P := P) hlt)
      obtain ⟨b, o, c, cs, e1, -, hb, r, hc⟩ := rList_at rGTable_lawful (by decide) ((rList_lawful rGTable_lawful).nix hl kk) k hlt
      simp only [List.cons.injEq, Value.slice.injEq, and_true] at e1
      obtain ⟨rfl, -, -⟩ := e1
      have ld := Whole.at (P := Try.prog) S_Table (rGTable_lawful.len r) hc
      unfold Whole at ld
      clear hl hc
      generalize l[k] = x at HM HA HS r
      have hcall := HF.out wr x cs kk HM.out r
      clear r
      rcases hP : P x with _ | _
      · rw [hP] at hcall
        have HP := Lib.hid hP
        have HC := Lib.hid hcall
        clear hP hcall
        go_wp2_with fail
        go_fit HC.out
        clear HC
        rintro e w2 ⟨rfl, k2⟩
        replace kk := kk.trans k2
        clear k2
        go_wp2_with fail
        go_roundw
        case rel => exact ⟨k + 1, by omega, by go_num, HS.out HP.out, kk⟩
        case measure => simp [intOf]; omega
      · rw [hP] at hcall
        have HP := Lib.hid hP
        have HC := Lib.hid hcall
        clear hP hcall
        go_wp2_with fail
        go_fit HC.out
        clear HC
        rintro e w2 ⟨rfl, k2⟩
        replace kk := kk.trans k2
        clear k2
        go_wp2_with fail
        go_ret
        exact ⟨ret_int (HA.out HP.out).symm, kk⟩
    · obtain rfl : k = l.length := by omega
      have HN := Lib.hid (findB_none (P := P) hg.out)
      go_wp2_with fail
      go_ret
      exact ⟨ret_int HN.out.symm, kk⟩
end
section
attribute [local go_sem ↓] ldz_Index
set_option maxHeartbeats 1000000 in
theorem ifIndex_c {p : Nat → Prop} (a : Option Addr) (n cap : Nat) (l : List GIndex) (fv : FuncId) (u : Value) (P : GIndex → Bool) (w : World) (hl : rList rGIndex w p [.slice a n cap] l)
    (hE : ∀ args w, (callFunc fv args).run Try.prog w = .ok (.enter fv args) w) (hF : (∀ (w' : World) (x : GIndex) (cs : List Value), Keep Nix w w' → x ∈ l → rGIndex w' p cs x → Calls Try.prog fv #[.agg cs.toArray, u] w' fun e w'' => e = .returned (.bool (P x)) ∧ Keep Nix w' w'')) :
    Calls Try.prog 37 #[.slice a n cap, .func (.func fv) #[] #[u]] w fun e w' => e = .returned (.int .i64 (findB P l)) ∧ Keep Nix w w' := by
  obtain ⟨rfl, -, hf⟩ := rList_len hl
  have hfar : l.length ≤ 9223372036854775807 := by have := far_len; unfold maxLen at this; omega
  have HF := Lib.hid hF
  clear hf hF
  go_enter Try.func37, Try.ntmps37
  go_wp2_with fail
  go_loopw [8] (fun i wr => ∃ k : Nat, k ≤ l.length ∧ i = .int .i64 k ∧ Hid (NoneYet P l k) ∧ Keep Nix w wr) (fun i _ => l.length - (intOf i).toNat)
  case atStart => exact ⟨0, by omega, rfl, fun j hj => by omega, Keep.refl _ _⟩
  case round =>
    obtain ⟨k, hk, rfl, hg, kk⟩ := hrel
    by_cases hlt : k < l.length
    · have hi0 : (0 : Int) ≤ (k : Int) := by omega
      have hi1 : (k : Int) < (l.length : Int) := by omega
      have HM : Hid (l[k] ∈ l) := List.getElem_mem hlt
      have HA := Lib.hid (findB_at (P := P) k hlt hg.out)
      have HS := Lib.hid (hg.out.succ (P := P) hlt)
      obtain ⟨b, o, c, cs, e1, -, hb, r, hc⟩ := rList_at rGIndex_lawful (by decide) ((rList_lawful rGIndex_lawful).nix hl kk) k hlt
      simp only [List.cons.injEq, Value.slice.injEq, and_true] at e1
      obtain ⟨rfl, -, -⟩ := e1
      have ld := Whole.at (P := Try.prog) S_Index (rGIndex_lawful.len r) hc
      unfold Whole at ld
      clear hl hc
      generalize l[k] = x at HM HA HS r
      have hcall := HF.out wr x cs kk HM.out r
      clear r
      rcases hP : P x with _ | _
      · rw [hP] at hcall
        have HP := Lib.hid hP
        have HC := Lib.hid hcall
        clear hP hcall
        go_wp2_with fail
        go_fit HC.out
        clear HC
        rintro e w2 ⟨rfl, k2⟩
        replace kk := kk.trans k2
        clear k2
        go_wp2_with fail
        go_roundw
        case rel => exact ⟨k + 1, by omega, by go_num, HS.out HP.out, kk⟩
        case measure => simp [intOf]; omega
      · rw [hP] at hcall
        have HP := Lib.hid hP
        have HC := Lib.hid hcall
        clear hP hcall
        go_wp2_with fail
        go_fit HC.out
        clear HC
        rintro e w2 ⟨rfl, k2⟩
        replace kk := kk.trans k2
        clear k2
        go_wp2_with fail
        go_ret
        exact ⟨ret_int (HA.out HP.out).symm, kk⟩
    · obtain rfl : k = l.length := by omega
      have HN := Lib.hid (findB_none (P := P) hg.out)
      go_wp2_with fail
      go_ret
      exact ⟨ret_int HN.out.symm, kk⟩
end
section

set_option maxHeartbeats 1000000 in
theorem ifint_c {p : Nat → Prop} (a : Option Addr) (n cap : Nat) (l : List Int) (fv : FuncId) (u : Value) (P : Int → Bool) (w : World) (hl : rList (rInt .i64) w p [.slice a n cap] l)
    (hE : ∀ args w, (callFunc fv args).run Try.prog w = .ok (.enter fv args) w) (hF : (∀ (w' : World) (x : Int), Keep Nix w w' → x ∈ l → Calls Try.prog fv #[.int .i64 x, u] w' fun e w'' => e = .returned (.bool (P x)) ∧ Keep Nix w' w'')) :
    Calls Try.prog 62 #[.slice a n cap, .func (.func fv) #[] #[u]] w fun e w' => e = .returned (.int .i64 (findB P l)) ∧ Keep Nix w w' := by
  obtain ⟨rfl, -, hf⟩ := rList_len hl
  have hfar : l.length ≤ 9223372036854775807 := by have := far_len; unfold maxLen at this; omega
  have HF := Lib.hid hF
  clear hf hF
  go_enter Try.func62, Try.ntmps62
  go_wp2_with fail
  go_loopw [8] (fun i wr => ∃ k : Nat, k ≤ l.length ∧ i = .int .i64 k ∧ Hid (NoneYet P l k) ∧ Keep Nix w wr) (fun i _ => l.length - (intOf i).toNat)
  case atStart => exact ⟨0, by omega, rfl, fun j hj => by omega, Keep.refl _ _⟩
  case round =>
    obtain ⟨k, hk, rfl, hg, kk⟩ := hrel
    by_cases hlt : k < l.length
    · have hi0 : (0 : Int) ≤ (k : Int) := by omega
      have hi1 : (k : Int) < (l.length : Int) := by omega
      have HM : Hid (l[k] ∈ l) := List.getElem_mem hlt
      have HA := Lib.hid (findB_at (P := P) k hlt hg.out)
      have HS := Lib.hid (hg.out.succ (P := P) hlt)
      obtain ⟨b, o, rfl, hb, y, -⟩ := rInt_at ((rList_lawful (rInt_lawful _)).nix hl kk) k hlt
      clear hl
      generalize l[k] = x at HM HA HS y
      have hcall := HF.out wr x kk HM.out
      rcases hP : P x with _ | _
      · rw [hP] at hcall
        have HP := Lib.hid hP
        have HC := Lib.hid hcall
        clear hP hcall
        go_wp2_with fail
        go_fit HC.out
        clear HC
        rintro e w2 ⟨rfl, k2⟩
        replace kk := kk.trans k2
        clear k2
        go_wp2_with fail
        go_roundw
        case rel => exact ⟨k + 1, by omega, by go_num, HS.out HP.out, kk⟩
        case measure => simp [intOf]; omega
      · rw [hP] at hcall
        have HP := Lib.hid hP
        have HC := Lib.hid hcall
        clear hP hcall
        go_wp2_with fail
        go_fit HC.out
        clear HC
        rintro e w2 ⟨rfl, k2⟩
        replace kk := kk.trans k2
        clear k2
        go_wp2_with fail
        go_ret
        exact ⟨ret_int (HA.out HP.out).symm, kk⟩
    · obtain rfl : k = l.length := by omega
      have HN := Lib.hid (findB_none (P := P) hg.out)
      go_wp2_with fail
      go_ret
      exact ⟨ret_int HN.out.symm, kk⟩
end
theorem cfint_c {p : Nat → Prop} (a : Option Addr) (n cap : Nat) (l : List Int) (fv : FuncId) (u : Value) (P : Int → Bool) (w : World) (hl : rList (rInt .i64) w p [.slice a n cap] l)
    (hE : ∀ args w, (callFunc fv args).run Try.prog w = .ok (.enter fv args) w) (hF : ∀ (w' : World) (x : Int), Keep Nix w w' → x ∈ l → Calls Try.prog fv #[.int .i64 x, u] w' fun e w'' => e = .returned (.bool (P x)) ∧ Keep Nix w' w'') :
    Calls Try.prog 52 #[.slice a n cap, .func (.func fv) #[] #[u]] w fun e w' => e = .returned (.bool (l.any P)) ∧ Keep Nix w w' := by
  have hany : decide (0 ≤ findB P l) = l.any P := by
    rcases findB_cases P l with ⟨h1, h2⟩ | ⟨k, h, h1, h2, -⟩
    · rw [h1]
      have : l.any P = false := by rw [List.any_eq_false]; exact fun x hx => by simp [h2 x hx]
      rw [this]; rfl
    · rw [h1]
      have : l.any P = true := by rw [List.any_eq_true]; exact ⟨_, List.getElem_mem h, h2⟩
      rw [this]; exact decide_eq_true (by omega)
  have HANY := Lib.hid hany
  clear hany
  go_enter Try.func52, Try.ntmps52
  go_wp2_with fail
  go_fit (ifint_c a n cap l fv u P w hl hE hF)
  rintro e w2 ⟨rfl, k2⟩
  go_wp2_with fail
  go_ret
  exact ⟨ret_bool HANY.out, k2⟩
end Go.Proofs.Ytibaehlfpgipfaa
namespace Go.Proofs.Ytibaehlfpgipfaa
open Go.RowKit

theorem owns_empty (w : World) (e sz base : Nat) (hb : base ≤ w.heap.size) : (w.alloc (.cells #[] e)).ownsRow base e sz (.slice (some ⟨w.heap.size, 0, none⟩) 0 0) 0 [] := by
  refine ⟨by simp, .inr ⟨w.heap.size, 0, #[], rfl, hb, heap_alloc_new _ _, Nat.le_refl _, Nat.zero_le _, by simp, by simp⟩⟩
theorem list0_run {P : Program} {t e n bytes : Nat} (S : SliceT P t e n bytes) (w : World) : (Instr.buildSlice t 0 #[]).run P w = .ok (.slice (some ⟨w.heap.size, 0, none⟩) 0 0) (w.alloc (.cells #[] e)) := by
  obtain ⟨i, z, hi, hz, hsz, hby, hzs⟩ := S.info
  unfold Instr.buildSlice
  simp [run_underlying S.under, sizeOf, typeInfo, hi, newRow, newObj, Instr.fill]
  have e : ∀ f : Nat → Value, Array.map f (Array.range 0) = #[] := fun f => by apply Array.eq_empty_of_size_eq_zero; simp
  rw [e]
  rfl
/-- Cells that lie, taken as a list's. -/
theorem rList_css {α : Type} {R : RD α} {w : World} {p : Nat → Prop} {a : Option Addr} {n cap : Nat} {l : List α} (h : rList R w p [.slice a n cap] l) : ∃ css, Lies w p a css.flatten ∧ Els R w p css l := by
  obtain ⟨a', cap', css, e, h1, h2, h3, h4, h5⟩ := h
  simp only [List.cons.injEq, Value.slice.injEq, and_true] at e
  obtain ⟨rfl, rfl, rfl⟩ := e
  exact ⟨css, h2, h1, h5⟩
theorem Els.flat_len {α : Type} {R : RD α} {sz : Nat} {w : World} {p : Nat → Prop} (L : Lawful R sz) {css : List (List Value)} {l : List α} (h : Els R w p css l) : css.flatten.length = l.length * sz := by
  have key : ∀ (css : List (List Value)), (∀ c ∈ css, c.length = sz) → css.flatten.length = css.length * sz := by
    intro css
    induction css with
    | nil => intro _; simp
    | cons c css ih =>
      intro hc
      rw [List.flatten_cons, List.length_append, ih (fun d hd => hc d (by simp [hd])), hc c (by simp), List.length_cons, Nat.add_mul]; omega
  rw [key css (fun c hc => by
    obtain ⟨i, hi, rfl⟩ := List.mem_iff_getElem.1 hc
    exact L.len (h.2 i _ (l[i]'(by rw [← h.1]; exact hi)) (List.getElem?_eq_getElem hi) (List.getElem?_eq_getElem _))), h.1]
theorem Els.ones {α : Type} {R : RD α} {w : World} {p : Nat → Prop} (L : ∀ {cs : List Value} {x : α}, R w p cs x → Go.Proofs.Ytibaehlfpgipfaa.ones cs = true) {css : List (List Value)} {l : List α} (h : Els R w p css l) : ∀ u ∈ css.flatten, u.oneCell' = true := by
  intro u hu
  obtain ⟨c, hc, hu⟩ := List.mem_flatten.1 hu
  obtain ⟨i, hi, rfl⟩ := List.mem_iff_getElem.1 hc
  have := L (h.2 i _ (l[i]'(by rw [← h.1]; exact hi)) (List.getElem?_eq_getElem hi) (List.getElem?_eq_getElem _))
  exact List.all_eq_true.1 this u hu
set_option maxHeartbeats 1000000 in
theorem clColumn_c {p : Nat → Prop} (a : Option Addr) (n cap : Nat) (l : List GColumn) (w : World) (hl : rList rGColumn w p [.slice a n cap] l) (hr : n * 32 ≤ 140737488355328) :
    Calls Try.prog 44 #[.slice a n cap] w fun e w' => ∃ a' cap' css, e = .returned (.slice a' n cap') ∧ w'.ownsRow w.heap.size 55 3 (.slice a' n cap') n css.flatten ∧ Els rGColumn w' p css l ∧ Keep Nix w w' := by
  obtain ⟨rfl, hcap, hf⟩ := rList_len hl
  have hfar : l.length ≤ 9223372036854775807 := by have := far_len; unfold maxLen at this; omega
  obtain ⟨css, lies, els⟩ := rList_css hl
  have hm : l.length ≤ maxLen := by have := far_len; omega
  have H1 := els.ones rGColumn_ones
  have hfl := els.flat_len rGColumn_lawful
  clear hl hf
  cases a with
  | none =>
    have h0 : l.length = 0 := by
      by_cases h : css.flatten = []
      · rw [h] at hfl; simp at hfl; omega
      · obtain ⟨b, off, hb, -⟩ := lies h; cases hb
    obtain rfl : l = [] := List.eq_nil_of_length_eq_zero h0
    obtain rfl : css = [] := List.eq_nil_of_length_eq_zero (by have := els.1; simpa using this)
    have hnil := fun (w' : World) (n c : Nat) => Lib.run_eql_slice_nil (P := Try.prog) w' 46 55 none n c 0 0 Try.underlying46
    clear lies H1 hfl
    go_enter Try.func44, Try.ntmps44
    go_wp2_with fail
    go_ret
    exact ⟨none, 0, [], rfl, World.ownsRow_nil _ _ _ _, Els.nil _ _ _, Keep.refl _ _⟩
  | some ad =>
    have hnil := fun (w' : World) => Lib.run_eql_slice_nil (P := Try.prog) w' 46 55 (some ad) l.length cap 0 0 Try.underlying46
    have hl0 := fun w' => list0_run T_lColumn w'
    have own0 := owns_empty w 55 3 w.heap.size (Nat.le_refl _)
    have lies2 := lies.keep ((Keep.refl Nix w).alloc (.cells #[] 55)) (fun _ _ h => h)
    have hsz : w.heap.size ≤ (w.alloc (.cells #[] 55)).heap.size := by simp
    clear lies
    go_enter Try.func44, Try.ntmps44
    go_wp2_with (at_builtin; refine wpl_append T_lColumn rfl (.tmp 5) (.tmp 6) rfl w.heap.size rfl own0 css.flatten rfl hfl lies2 H1 ?c1 ?c2 hsz ?_)
    case c1 => rw [Nat.zero_add]; exact hm
    case c2 => rw [Nat.zero_add]; exact hr
    intro a' cap' w2 own2 hg
    have kk : Keep Nix w w2 := ((Keep.refl Nix w).alloc (.cells #[] 55)).grown hg (fun k hk hlt => by simp [Value.ownBlock] at hk; omega)
    (try rw [Nat.zero_add, List.nil_append] at own2)
    clear own0 hg lies2
    go_wp2
    go_ret
    exact ⟨a', cap', css, by simp, own2, els.keep rGColumn_lawful kk (fun _ _ h => h), kk⟩
set_option maxHeartbeats 1000000 in
theorem clint_c {p : Nat → Prop} (a : Option Addr) (n cap : Nat) (l : List Int) (w : World) (hl : rList (rInt .i64) w p [.slice a n cap] l) (hr : n * 8 ≤ 140737488355328) :
    Calls Try.prog 45 #[.slice a n cap] w fun e w' => ∃ a' cap' css, e = .returned (.slice a' n cap') ∧ w'.ownsRow w.heap.size 3 1 (.slice a' n cap') n css.flatten ∧ Els (rInt .i64) w' p css l ∧ Keep Nix w w' := by
  obtain ⟨rfl, hcap, hf⟩ := rList_len hl
  have hfar : l.length ≤ 9223372036854775807 := by have := far_len; unfold maxLen at this; omega
  obtain ⟨css, lies, els⟩ := rList_css hl
  have hm : l.length ≤ maxLen := by have := far_len; omega
  have H1 := els.ones rInt_ones
  have hfl := els.flat_len (rInt_lawful _)
  clear hl hf
  cases a with
  | none =>
    have h0 : l.length = 0 := by
      by_cases h : css.flatten = []
      · rw [h] at hfl; simp at hfl; omega
      · obtain ⟨b, off, hb, -⟩ := lies h; cases hb
    obtain rfl : l = [] := List.eq_nil_of_length_eq_zero h0
    obtain rfl : css = [] := List.eq_nil_of_length_eq_zero (by have := els.1; simpa using this)
    have hnil := fun (w' : World) (n c : Nat) => Lib.run_eql_slice_nil (P := Try.prog) w' 47 3 none n c 0 0 Try.underlying47
    clear lies H1 hfl
    go_enter Try.func45, Try.ntmps45
    go_wp2_with fail
    go_ret
    exact ⟨none, 0, [], rfl, World.ownsRow_nil _ _ _ _, Els.nil _ _ _, Keep.refl _ _⟩
  | some ad =>
    have hnil := fun (w' : World) => Lib.run_eql_slice_nil (P := Try.prog) w' 47 3 (some ad) l.length cap 0 0 Try.underlying47
    have hl0 := fun w' => list0_run T_lint w'
    have own0 := owns_empty w 3 1 w.heap.size (Nat.le_refl _)
    have lies2 := lies.keep ((Keep.refl Nix w).alloc (.cells #[] 3)) (fun _ _ h => h)
    have hsz : w.heap.size ≤ (w.alloc (.cells #[] 3)).heap.size := by simp
    clear lies
    go_enter Try.func45, Try.ntmps45
    go_wp2_with (at_builtin; refine wpl_append T_lint rfl (.tmp 5) (.tmp 6) rfl w.heap.size rfl own0 css.flatten rfl hfl lies2 H1 ?c1 ?c2 hsz ?_)
    case c1 => rw [Nat.zero_add]; exact hm
    case c2 => rw [Nat.zero_add]; exact hr
    intro a' cap' w2 own2 hg
    have kk : Keep Nix w w2 := ((Keep.refl Nix w).alloc (.cells #[] 3)).grown hg (fun k hk hlt => by simp [Value.ownBlock] at hk; omega)
    (try rw [Nat.zero_add, List.nil_append] at own2)
    clear own0 hg lies2
    go_wp2
    go_ret
    exact ⟨a', cap', css, by simp, own2, els.keep (rInt_lawful _) kk (fun _ _ h => h), kk⟩
end Go.Proofs.Ytibaehlfpgipfaa
namespace Go.Proofs.Ytibaehlfpgipfaa
open Go.RowKit

theorem int_eq_dec (x y : Int) : (x == y) = decide (x = y) := by rw [Bool.eq_iff_iff]; simp
theorem f_rightTable1 {p : Nat → Prop} (x : GColumn) (cs : List Value) (b : Nat) (y : List UInt8) (w : World) (hx : rGColumn w p cs x) (hb : b < w.heap.size) (hc : w.cell? ⟨b, 0, none⟩ = some (.string (strB y))) :
    Calls Try.prog 50 #[.agg cs.toArray, .pointer (some ⟨b, 0, none⟩)] w fun e w' => e = .returned (.bool (decide (x.fName = y))) ∧ Keep Nix w w' := by
  obtain ⟨rfl, -⟩ := rGColumn_open hx
  have kk : Keep Nix w (w.alloc (.cells #[.string (strB x.fName), .int .i64 x.fKind, .bool x.fNull] 55)) := (Keep.refl Nix w).alloc _
  have hc' : (w.alloc (.cells #[.string (strB x.fName), .int .i64 x.fKind, .bool x.fNull] 55)).cell? ⟨b, 0, none⟩ = some (.string (strB y)) := (kk.cell (p := ⟨b, 0, none⟩) hb id).trans hc
  have HE := Lib.hid (strB_eq x.fName y)
  clear hx hc
  go_enter Try.func50, Try.ntmps50
  go_wp2
  go_ret
  exact ⟨ret_bool (by first | exact HE.out | simp), kk⟩
theorem f_byID1 {p : Nat → Prop} (x : GTable) (cs : List Value) (b : Nat) (y : Int) (w : World) (hx : rGTable w p cs x) (hb : b < w.heap.size) (hc : w.cell? ⟨b, 0, none⟩ = some (.int .i64 y)) :
    Calls Try.prog 63 #[.agg cs.toArray, .pointer (some ⟨b, 0, none⟩)] w fun e w' => e = .returned (.bool (decide (x.fID = y))) ∧ Keep Nix w w' := by
  obtain ⟨aColumns, cColumns, aKey, cKey, rfl, -⟩ := rGTable_open hx
  have kk : Keep Nix w (w.alloc (.cells #[.int .i64 x.fID, .string (strB x.fName), .slice aColumns x.fColumns.length cColumns, .slice aKey x.fKey.length cKey] 49)) := (Keep.refl Nix w).alloc _
  have hc' : (w.alloc (.cells #[.int .i64 x.fID, .string (strB x.fName), .slice aColumns x.fColumns.length cColumns, .slice aKey x.fKey.length cKey] 49)).cell? ⟨b, 0, none⟩ = some (.int .i64 y) := (kk.cell (p := ⟨b, 0, none⟩) hb id).trans hc
  have HE := Lib.hid (int_eq_dec x.fID y)
  clear hx hc
  go_enter Try.func63, Try.ntmps63
  go_wp2
  go_ret
  exact ⟨ret_bool (by first | exact HE.out | simp), kk⟩
theorem f_Table1 {p : Nat → Prop} (x : GTable) (cs : List Value) (b : Nat) (y : List UInt8) (w : World) (hx : rGTable w p cs x) (hb : b < w.heap.size) (hc : w.cell? ⟨b, 0, none⟩ = some (.string (strB y))) :
    Calls Try.prog 47 #[.agg cs.toArray, .pointer (some ⟨b, 0, none⟩)] w fun e w' => e = .returned (.bool (decide (x.fName = y))) ∧ Keep Nix w w' := by
  obtain ⟨aColumns, cColumns, aKey, cKey, rfl, -⟩ := rGTable_open hx
  have kk : Keep Nix w (w.alloc (.cells #[.int .i64 x.fID, .string (strB x.fName), .slice aColumns x.fColumns.length cColumns, .slice aKey x.fKey.length cKey] 49)) := (Keep.refl Nix w).alloc _
  have hc' : (w.alloc (.cells #[.int .i64 x.fID, .string (strB x.fName), .slice aColumns x.fColumns.length cColumns, .slice aKey x.fKey.length cKey] 49)).cell? ⟨b, 0, none⟩ = some (.string (strB y)) := (kk.cell (p := ⟨b, 0, none⟩) hb id).trans hc
  have HE := Lib.hid (strB_eq x.fName y)
  clear hx hc
  go_enter Try.func47, Try.ntmps47
  go_wp2
  go_ret
  exact ⟨ret_bool (by first | exact HE.out | simp), kk⟩
theorem f_find1 {p : Nat → Prop} (x : GIndex) (cs : List Value) (b : Nat) (y : List UInt8) (w : World) (hx : rGIndex w p cs x) (hb : b < w.heap.size) (hc : w.cell? ⟨b, 0, none⟩ = some (.string (strB y))) :
    Calls Try.prog 55 #[.agg cs.toArray, .pointer (some ⟨b, 0, none⟩)] w fun e w' => e = .returned (.bool (decide (x.fName = y))) ∧ Keep Nix w w' := by
  obtain ⟨aColumns, cColumns, rfl, -⟩ := rGIndex_open hx
  have kk : Keep Nix w (w.alloc (.cells #[.int .i64 x.fID, .int .i64 x.fTable, .string (strB x.fName), .slice aColumns x.fColumns.length cColumns, .bool x.fUnique, .int .i64 x.fState, .bool x.fBad] 51)) := (Keep.refl Nix w).alloc _
  have hc' : (w.alloc (.cells #[.int .i64 x.fID, .int .i64 x.fTable, .string (strB x.fName), .slice aColumns x.fColumns.length cColumns, .bool x.fUnique, .int .i64 x.fState, .bool x.fBad] 51)).cell? ⟨b, 0, none⟩ = some (.string (strB y)) := (kk.cell (p := ⟨b, 0, none⟩) hb id).trans hc
  have HE := Lib.hid (strB_eq x.fName y)
  clear hx hc
  go_enter Try.func55, Try.ntmps55
  go_wp2
  go_ret
  exact ⟨ret_bool (by first | exact HE.out | simp), kk⟩
theorem f_Step1 {p : Nat → Prop} (x : GIndex) (cs : List Value) (b : Nat) (y : Int) (w : World) (hx : rGIndex w p cs x) (hb : b < w.heap.size) (hc : w.cell? ⟨b, 0, none⟩ = some (.int .i64 y)) :
    Calls Try.prog 38 #[.agg cs.toArray, .pointer (some ⟨b, 0, none⟩)] w fun e w' => e = .returned (.bool (decide (x.fID = y))) ∧ Keep Nix w w' := by
  obtain ⟨aColumns, cColumns, rfl, -⟩ := rGIndex_open hx
  have kk : Keep Nix w (w.alloc (.cells #[.int .i64 x.fID, .int .i64 x.fTable, .string (strB x.fName), .slice aColumns x.fColumns.length cColumns, .bool x.fUnique, .int .i64 x.fState, .bool x.fBad] 51)) := (Keep.refl Nix w).alloc _
  have hc' : (w.alloc (.cells #[.int .i64 x.fID, .int .i64 x.fTable, .string (strB x.fName), .slice aColumns x.fColumns.length cColumns, .bool x.fUnique, .int .i64 x.fState, .bool x.fBad] 51)).cell? ⟨b, 0, none⟩ = some (.int .i64 y) := (kk.cell (p := ⟨b, 0, none⟩) hb id).trans hc
  have HE := Lib.hid (int_eq_dec x.fID y)
  clear hx hc
  go_enter Try.func38, Try.ntmps38
  go_wp2
  go_ret
  exact ⟨ret_bool (by first | exact HE.out | simp), kk⟩
theorem f_rightTable2 {p : Nat → Prop} (l : List GColumn) (a : Option Addr) (n cap : Nat) (b : Nat) (k : Int) (w : World) (hl : rList rGColumn w p [.slice a n cap] l) (hc : w.cell? ⟨b, 2, none⟩ = some (.slice a n cap)) (h0 : 0 ≤ k) (h1 : k < l.length) :
    Calls Try.prog 53 #[.int .i64 k, .pointer (some ⟨b, 0, none⟩)] w fun e w' => e = .returned (.bool ((l[k.toNat]'(by omega)).fNull)) ∧ Keep Nix w w' := by
  obtain ⟨rfl, hcap, hf⟩ := rList_len hl
  obtain ⟨j, rfl⟩ : ∃ j : Nat, k = (j : Int) := ⟨k.toNat, by omega⟩
  have hj : j < l.length := by omega
  simp only [Int.toNat_natCast]
  obtain ⟨b1, o, c, cs, e1, -, hb1, r, hcell⟩ := rList_at rGColumn_lawful (by decide) hl j hj
  simp only [List.cons.injEq, Value.slice.injEq, and_true] at e1
  obtain ⟨rfl, -, -⟩ := e1
  obtain ⟨rfl, -⟩ := rGColumn_open r
  have x2 := hcell 2 _ rfl
  clear hl hf r hcell hcap
  generalize l[j] = z at x2
  go_enter Try.func53, Try.ntmps53
  go_wp2
  go_ret
  exact ⟨rfl, Keep.refl _ _⟩
end Go.Proofs.Ytibaehlfpgipfaa
namespace Go.Proofs.Ytibaehlfpgipfaa
open Go.RowKit

/-! ### plainly -/
def allB (n : Nat) (Q : Nat → Bool) : Bool := decide (∀ j, j < n → Q j = true)
theorem allB_bad {n : Nat} {Q : Nat → Bool} (k : Nat) (h : k < n) (hq : Q k = false) : allB n Q = false := by
  unfold allB; rw [decide_eq_false_iff_not]; intro ha; rw [ha k h] at hq; cases hq
theorem allB_good {n : Nat} {Q : Nat → Bool} (h : ∀ j, j < n → Q j = true) : allB n Q = true := decide_eq_true h
def colOk (C : List GColumn) (i : Nat) (c : GColumn) : Bool := nameB c.fName && (decide (c.fKind = 1 ∨ c.fKind = 2) && decide (findB (fun o => decide (o.fName = c.fName)) C = (i : Int)))
def colQ (C : List GColumn) (i : Nat) : Bool := match C[i]? with
  | some c => colOk C i c
  | none => true
theorem colQ_at {C : List GColumn} {i : Nat} (h : i < C.length) : colQ C i = colOk C i C[i] := by unfold colQ; rw [List.getElem?_eq_getElem h]
def nullAt (C : List GColumn) (k : Int) : Bool := match C[k.toNat]? with
  | some c => c.fNull
  | none => false
theorem nullAt_at {C : List GColumn} {k : Int} (h0 : 0 ≤ k) (h1 : k < C.length) : nullAt C k = (C[k.toNat]'(by omega)).fNull := by unfold nullAt; rw [List.getElem?_eq_getElem (by omega)]
def tableB (t : GTable) : Bool := nameB t.fName && (decide (1 ≤ t.fColumns.length ∧ t.fColumns.length ≤ 6) && (placesB t.fColumns.length t.fKey && (allB t.fColumns.length (colQ t.fColumns) && !(t.fKey.any (nullAt t.fColumns)))))

/-! ### the program's -/
section
attribute [local go_sem ↓] ldz_Column stz_Column
set_option maxRecDepth 100000 in
set_option maxHeartbeats 8000000 in
theorem srightTable_c {p : Nat → Prop} (t : GTable) (cs : List Value) (w : World) (ht : rGTable w p cs t) : Calls Try.prog 34 #[.agg cs.toArray] w fun e w' => e = .returned (.bool (tableB t)) ∧ Keep Nix w w' := by
  obtain ⟨aC, cC, aK, cK, rfl, -, hn, hC, hK, -⟩ := rGTable_open ht
  have kk : Keep Nix w (w.alloc (.cells #[.int .i64 t.fID, .string (strB t.fName), .slice aC t.fColumns.length cC, .slice aK t.fKey.length cK] 49)) := (Keep.refl Nix w).alloc _
  have row0 : RowIs (w.alloc (.cells #[.int .i64 t.fID, .string (strB t.fName), .slice aC t.fColumns.length cC, .slice aK t.fKey.length cK] 49)) w.heap.size 49 [.int .i64 t.fID, .string (strB t.fName), .slice aC t.fColumns.length cC, .slice aK t.fKey.length cK] := RowIs.alloc w _ _
  clear ht
  have hnC := (rList_len hC).2.2
  have hmC : t.fColumns.length ≤ 140737488351232 := by have := far_len; omega
  clear hnC
  cases h1 : nameB t.fName with
  | false =>
    have HR : Hid (tableB t = false) := by show _ = _; unfold tableB; rw [h1]; rfl
    have HC := Lib.hid (fun w' => named_s t.fName w' hn)
    rw [h1] at HC
    clear h1
    go_enter Try.func34, Try.ntmps34
    go_wp2_with fail
    go_fit (HC.out _)
    rintro e w1 ⟨rfl, rfl⟩
    go_wp2_with fail
    go_ret
    exact ⟨ret_bool HR.out.symm, kk⟩
  | true =>
  have HC := Lib.hid (fun w' => named_s t.fName w' hn)
  rw [h1] at HC
  have HT := Lib.hid h1
  clear h1
  rcases Nat.lt_or_ge t.fColumns.length 1 with h2 | h2
  · have HR : Hid (tableB t = false) := by show _ = _; unfold tableB; rw [decide_eq_false (by omega : ¬ (1 ≤ t.fColumns.length ∧ t.fColumns.length ≤ 6))]; simp
    go_enter Try.func34, Try.ntmps34
    go_wp2_with fail
    go_fit (HC.out _)
    rintro e w1 ⟨rfl, rfl⟩
    go_wp2_with fail
    go_ret
    exact ⟨ret_bool HR.out.symm, kk⟩
  rcases Nat.lt_or_ge 6 t.fColumns.length with h3 | h3
  · have HR : Hid (tableB t = false) := by show _ = _; unfold tableB; rw [decide_eq_false (by omega : ¬ (1 ≤ t.fColumns.length ∧ t.fColumns.length ≤ 6))]; simp
    go_enter Try.func34, Try.ntmps34
    go_wp2_with fail
    go_fit (HC.out _)
    rintro e w1 ⟨rfl, rfl⟩
    go_wp2_with fail
    go_ret
    exact ⟨ret_bool HR.out.symm, kk⟩
  have HL := Lib.hid (decide_eq_true (by omega : 1 ≤ t.fColumns.length ∧ t.fColumns.length ≤ 6))
  have hP := splaces_c aK t.fKey.length cK t.fKey t.fColumns.length _ ((rList_lawful (rInt_lawful _)).nix hK kk)
  cases h4 : placesB t.fColumns.length t.fKey with
  | false =>
    have HR : Hid (tableB t = false) := by show _ = _; unfold tableB; rw [h4]; simp
    rw [h4] at hP
    have HP := Lib.hid hP
    clear h4 hP
    go_enter Try.func34, Try.ntmps34
    go_wp2_with fail
    go_fit (HC.out _)
    rintro e w1 ⟨rfl, rfl⟩
    go_wp2_with fail
    go_fit HP.out
    rintro e w1 ⟨rfl, k1⟩
    go_wp2_with fail
    go_ret
    exact ⟨ret_bool HR.out.symm, kk.trans k1⟩
  | true =>
  rw [h4] at hP
  have HP := Lib.hid hP
  have H4 := Lib.hid h4
  clear h4 hP
  go_enter Try.func34, Try.ntmps34
  go_wp2_with fail
  go_fit (HC.out _)
  rintro e w1 ⟨rfl, rfl⟩
  go_wp2_with fail
  go_fit HP.out
  clear HP HC
  rintro e w1 ⟨rfl, k1⟩
  replace row0 := row0.keep k1 id
  replace kk := kk.trans k1
  clear k1
  have fin : allB t.fColumns.length (colQ t.fColumns) = false → tableB t = false := fun h => by unfold tableB; rw [h]; simp
  have FIN := Lib.hid fin
  clear fin
  have x2 := row0.cell 2
  simp only [List.getElem?_cons_succ, List.getElem?_cons_zero] at x2
  go_wp2_with fail
  clear x2
  go_loopw [34] (fun i wr => ∃ k : Nat, k ≤ t.fColumns.length ∧ i = .int .i64 k ∧ Hid (∀ j, j < k → colQ t.fColumns j = true) ∧ RowIs wr w.heap.size 49 [.int .i64 t.fID, .string (strB t.fName), .slice aC t.fColumns.length cC, .slice aK t.fKey.length cK] ∧ Keep Nix w wr) (fun i _ => t.fColumns.length - (intOf i).toNat)
  case atStart => exact ⟨0, by omega, rfl, fun j hj => by omega, row0, kk⟩
  case round =>
    clear row0 kk
    obtain ⟨k, hk, rfl, hg, row0, kk⟩ := hrel
    by_cases hlt : k < t.fColumns.length
    · have hi0 : (0 : Int) ≤ (k : Int) := by omega
      have hi1 : (k : Int) < (t.fColumns.length : Int) := by omega
      obtain ⟨b, o, c, cs, e1, -, hb, r, hc⟩ := rList_at rGColumn_lawful (by decide) ((rList_lawful rGColumn_lawful).nix hC kk) k hlt
      simp only [List.cons.injEq, Value.slice.injEq, and_true] at e1
      obtain ⟨rfl, -, -⟩ := e1
      have HQ := Lib.hid (colQ_at hlt)
      have HB : Hid (colQ t.fColumns k = false → allB t.fColumns.length (colQ t.fColumns) = false) := fun h => allB_bad k hlt h
      generalize t.fColumns[k] = x at r HQ
      obtain ⟨rfl, hx0, hx1, -⟩ := rGColumn_open r
      have ld := Whole.at (P := Try.prog) S_Column rfl hc
      unfold Whole at ld
      have hst := store_run (P := Try.prog) (cs := [.string (strB x.fName), .int .i64 x.fKind, .bool x.fNull]) S_Column (RowIs.alloc wr #[.string { data := #[] }, .int .i64 0, .bool false] 55) rfl rfl rfl
      have rowC := (RowIs.alloc wr #[.string { data := #[] }, .int .i64 0, .bool false] 55).setRow [.string (strB x.fName), .int .i64 x.fKind, .bool x.fNull]
      have kV : Keep Nix wr ((wr.alloc (.cells #[.string { data := #[] }, .int .i64 0, .bool false] 55)).setRow wr.heap.size [.string (strB x.fName), .int .i64 x.fKind, .bool x.fNull].toArray) := ((Keep.refl Nix wr).alloc (.cells #[.string { data := #[] }, .int .i64 0, .bool false] 55)).setRow (fun h => absurd h (Nat.lt_irrefl _)) _
      replace row0 := row0.keep kV id
      replace kk := kk.trans kV
      clear kV r hc
      have y0 := rowC.cell 0
      simp only [List.getElem?_cons_zero] at y0
      go_wp2_with fail
      clear ld hst y0
      go_fit (named_s x.fName _ hx0)
      rintro e w1 ⟨rfl, rfl⟩
      obtain ⟨bn, hbn⟩ : ∃ b, Hid (nameB x.fName = b) := ⟨_, rfl⟩
      rw [hbn.out]
      cases bn with
      | false =>
        go_wp2_with fail
        go_ret
        exact ⟨ret_bool (FIN.out (HB.out (by rw [HQ.out]; unfold colOk; rw [hbn.out]; rfl))).symm, kk⟩
      | true =>
      have y1 := rowC.cell 1
      simp only [List.getElem?_cons_succ, List.getElem?_cons_zero] at y1
      by_cases hkd : x.fKind = 1 ∨ x.fKind = 2
      rotate_left
      · have t1 : (x.fKind != 1) = true := by simp; omega
        have t2 : (x.fKind != 2) = true := by simp; omega
        have HK := Lib.hid (decide_eq_false hkd)
        clear hkd
        go_wp2_with fail
        go_ret
        exact ⟨ret_bool (FIN.out (HB.out (by rw [HQ.out]; unfold colOk; rw [HK.out]; simp))).symm, kk⟩
      have HK := Lib.hid (decide_eq_true hkd)
      have x2 := row0.cell 2
      simp only [List.getElem?_cons_succ, List.getElem?_cons_zero] at x2
      have hF := Lib.hid (ifColumn_c (p := p) (some ⟨b, o, none⟩) t.fColumns.length cC t.fColumns 50 (.pointer (some ⟨wr.heap.size, 0, none⟩)) (fun o => decide (o.fName = x.fName)) _
        ((rList_lawful rGColumn_lawful).nix hC kk) Try.call50 (fun w' z cs' k' _ hz => f_rightTable1 z cs' wr.heap.size x.fName w' hz (Nat.lt_of_lt_of_le rowC.lt k'.size) ((rowC.keep k' id).cell 0)))
      obtain ⟨fi, hfi⟩ : ∃ f, Hid (findB (fun o => decide (o.fName = x.fName)) t.fColumns = f) := ⟨_, rfl⟩
      rw [hfi.out] at hF
      have HQ2 : Hid (colQ t.fColumns k = decide (fi = (k : Int))) := by show _ = _; rw [HQ.out]; unfold colOk; rw [hbn.out, HK.out, hfi.out]; rfl
      clear HQ HK
      have t3 : (x.fKind != 1) = false ∨ (x.fKind != 1) = true ∧ (x.fKind != 2) = false := by simp; omega
      clear hkd
      rcases t3 with t3 | ⟨t3, t4⟩
      all_goals
        go_wp2_with fail
        go_fit hF.out
        rintro e w2 ⟨rfl, k2⟩
        replace row0 := row0.keep k2 id
        replace kk := kk.trans k2
        clear k2 y1 x2 hF rowC
        rcases test_eq fi (k : Int) with ⟨t, e⟩ | ⟨t, e⟩
        · have t' : (fi != (k : Int)) = false := by simp [e.out]
          go_wp2_with fail
          go_roundw
          case rel => exact ⟨k + 1, by omega, by go_num, fun j hj => by
            rcases Nat.lt_succ_iff_lt_or_eq.1 hj with h | rfl
            · exact hg.out j h
            · rw [HQ2.out, e.out]; exact decide_eq_true rfl, row0, kk⟩
          case measure => simp [intOf]; omega
        · have t' : (fi != (k : Int)) = true := by simp [e]
          have E := Lib.hid e
          clear e
          go_wp2_with fail
          go_ret
          exact ⟨ret_bool (FIN.out (HB.out (by rw [HQ2.out]; exact decide_eq_false E.out))).symm, kk⟩
    · obtain rfl : k = t.fColumns.length := by omega
      have HA : Hid (allB t.fColumns.length (colQ t.fColumns) = true) := allB_good hg.out
      have x2 := row0.cell 2
      have x3 := row0.cell 3
      simp only [List.getElem?_cons_succ, List.getElem?_cons_zero] at x2 x3
      have hgood : ∀ z ∈ t.fKey, 0 ≤ z ∧ z < (t.fColumns.length : Int) := fun z hz => by
        have := (of_decide_eq_true H4.out).1.1 z hz; omega
      have hF := Lib.hid (cfint_c (p := p) aK t.fKey.length cK t.fKey 53 (.pointer (some ⟨w.heap.size, 0, none⟩)) (nullAt t.fColumns) wr ((rList_lawful (rInt_lawful _)).nix hK kk) Try.call53
        (fun w' z k' hz => by
          have h2 := hgood z hz
          have := f_rightTable2 (p := p) t.fColumns aC t.fColumns.length cC w.heap.size z w' ((rList_lawful rGColumn_lawful).nix hC (kk.trans k')) ((row0.keep k' id).cell 2) h2.1 h2.2
          rw [← nullAt_at h2.1 h2.2] at this
          exact this))
      have HR : Hid (tableB t = !(t.fKey.any (nullAt t.fColumns))) := by
        show _ = _
        unfold tableB
        rw [HT.out, HL.out, H4.out, HA.out]; rfl
      clear hgood HA HL H4 HT
      go_wp2_with fail
      go_fit hF.out
      rintro e w2 ⟨rfl, k2⟩
      replace kk := kk.trans k2
      clear k2 hF x2 x3
      go_wp2_with fail
      go_ret
      exact ⟨ret_bool HR.out.symm, kk⟩
end
end Go.Proofs.Ytibaehlfpgipfaa
namespace Go.Proofs.Ytibaehlfpgipfaa
open Go.RowKit

theorem RowIs.alloc_at (w : World) (n : Nat) (h : w.heap.size = n) (cs : Array Value) (e : TypeId) : RowIs (w.alloc (.cells cs e)) n e cs.toList := by
  subst h; exact RowIs.alloc w cs e
/-! ### what is found -/
def firstB {α : Type} (P : α → Bool) (l : List α) (z : α) : α × Bool := match l.find? P with
  | some x => (x, true)
  | none => (z, false)
theorem firstB_none {α : Type} {P : α → Bool} {l : List α} {z : α} (h : ∀ x ∈ l, P x = false) : firstB P l z = (z, false) := by
  have : l.find? P = none := List.find?_eq_none.2 (fun x hx => by simp [h x hx])
  unfold firstB; rw [this]
theorem firstB_some {α : Type} {P : α → Bool} {l : List α} {z : α} (k : Nat) (h : k < l.length) (h1 : P l[k] = true) (h2 : ∀ j (hj : j < k), P (l[j]'(by omega)) = false) : firstB P l z = (l[k], true) := by
  have : l.find? P = some l[k] := by
    rw [List.find?_eq_some_iff_getElem]
    exact ⟨h1, k, h, rfl, fun j hj => by simp [h2 j hj]⟩
  unfold firstB; rw [this]
def FoundIn {α : Type} (R : RD α) (p : Nat → Prop) (w : World) (y : α × Bool) (e : Ending) (w' : World) : Prop := ∃ cs : List Value, e = .returned (.tuple #[.agg cs.toArray, .bool y.2]) ∧ R w' p cs y.1 ∧ Keep Nix w w'
theorem rList_nil {α : Type} {R : RD α} (w : World) (p : Nat → Prop) (a : Option Addr) (cap : Nat) : rList R w p [.slice a 0 cap] [] :=
  ⟨a, cap, [], rfl, rfl, Lies.nil _ _ _, Nat.zero_le _, Nat.zero_le _, fun i c x h => by simp at h⟩
def zTab : GTable := ⟨0, [], [], []⟩
theorem zTab_r (w : World) (p : Nat → Prop) : rGTable w p [.int .i64 0, .string { data := #[] }, .slice none 0 0, .slice none 0 0] zTab :=
  rGTable_mk (x := zTab) w p (by unfold isI64; simp [zTab]) (by simp [zTab]) (rList_nil _ _ _ _) (rList_nil _ _ _ _)
section
attribute [local go_sem ↓] ldz_Table stz_Table
set_option maxRecDepth 100000 in
set_option maxHeartbeats 4000000 in
theorem byID_c {p : Nat → Prop} (c : GCatalog) (cs : List Value) (d : Int) (w : World) (hc : rGCatalog w p cs c) (hp : ∀ b, p b → b < w.heap.size) :
    Calls Try.prog 54 #[.agg cs.toArray, .int .i64 d] w (FoundIn rGTable p w (firstB (fun t => decide (t.fID = d)) c.fTables zTab)) := by
  obtain ⟨aT, cT, aX, cX, rfl, -, -, hT, -, -⟩ := rGCatalog_open hc
  have nT := (rList_len hT).2.2
  have mT : c.fTables.length ≤ 140737488351232 := by have := far_len; omega
  clear nT hc
  have row0 : RowIs (((w.alloc (.cells #[.int .i64 c.fVersion, .int .i64 c.fNext, .slice aT c.fTables.length cT, .slice aX c.fIndexes.length cX] 34)).alloc (.cells #[.int .i64 d] 3)).alloc (.cells #[.int .i64 0, .string { data := #[] }, .slice none 0 0, .slice none 0 0] 49)) w.heap.size 34 [.int .i64 c.fVersion, .int .i64 c.fNext, .slice aT c.fTables.length cT, .slice aX c.fIndexes.length cX] := ((RowIs.alloc w _ _).keep ((Keep.refl Nix _).alloc _) id).keep ((Keep.refl Nix _).alloc _) id
  have rowI : RowIs (((w.alloc (.cells #[.int .i64 c.fVersion, .int .i64 c.fNext, .slice aT c.fTables.length cT, .slice aX c.fIndexes.length cX] 34)).alloc (.cells #[.int .i64 d] 3)).alloc (.cells #[.int .i64 0, .string { data := #[] }, .slice none 0 0, .slice none 0 0] 49)) (w.heap.size + 1) 3 [.int .i64 d] := (RowIs.alloc_at (w.alloc (.cells #[.int .i64 c.fVersion, .int .i64 c.fNext, .slice aT c.fTables.length cT, .slice aX c.fIndexes.length cX] 34)) _ (by simp) #[.int .i64 d] 3).keep ((Keep.refl Nix _).alloc _) id
  have rowR : RowIs (((w.alloc (.cells #[.int .i64 c.fVersion, .int .i64 c.fNext, .slice aT c.fTables.length cT, .slice aX c.fIndexes.length cX] 34)).alloc (.cells #[.int .i64 d] 3)).alloc (.cells #[.int .i64 0, .string { data := #[] }, .slice none 0 0, .slice none 0 0] 49)) (w.heap.size + 1 + 1) 49 [.int .i64 0, .string { data := #[] }, .slice none 0 0, .slice none 0 0] := RowIs.alloc_at ((w.alloc (.cells #[.int .i64 c.fVersion, .int .i64 c.fNext, .slice aT c.fTables.length cT, .slice aX c.fIndexes.length cX] 34)).alloc (.cells #[.int .i64 d] 3)) _ (by simp) #[.int .i64 0, .string { data := #[] }, .slice none 0 0, .slice none 0 0] 49
  have kk : Keep Nix w (((w.alloc (.cells #[.int .i64 c.fVersion, .int .i64 c.fNext, .slice aT c.fTables.length cT, .slice aX c.fIndexes.length cX] 34)).alloc (.cells #[.int .i64 d] 3)).alloc (.cells #[.int .i64 0, .string { data := #[] }, .slice none 0 0, .slice none 0 0] 49)) := (((Keep.refl Nix w).alloc _).alloc _).alloc _
  have x2 := row0.cell 2
  simp only [List.getElem?_cons_succ, List.getElem?_cons_zero] at x2
  have hF := Lib.hid (ifTable_c (p := p) aT c.fTables.length cT c.fTables 63 (.pointer (some ⟨w.heap.size + 1, 0, none⟩)) (fun t => decide (t.fID = d)) _
    ((rList_lawful rGTable_lawful).nix hT kk) Try.call63 (fun w' z cs' k' _ hz => f_byID1 z cs' (w.heap.size + 1) d w' hz (Nat.lt_of_lt_of_le rowI.lt k'.size) ((rowI.keep k' id).cell 0)))
  rcases findB_cases (fun t : GTable => decide (t.fID = d)) c.fTables with ⟨h1, h2⟩ | ⟨k, hk, h1, h2, h3⟩
  · rw [h1] at hF
    have hR := Lib.hid (firstB_none (z := zTab) h2)
    have hbd : ∀ w', (Instr.build 49 #[]).run Try.prog w' = .ok (.agg #[.int .i64 0, .string { data := #[] }, .slice none 0 0, .slice none 0 0]) w' := fun w' => by kernel_rfl
    clear h1 h2
    go_enter Try.func54, Try.ntmps54
    go_wp2_with fail
    go_fit hF.out
    rintro e w1 ⟨rfl, k1⟩
    replace rowR := rowR.keep k1 id
    replace kk := kk.trans k1
    have hst := store_run (P := Try.prog) (cs := [.int .i64 0, .string { data := #[] }, .slice none 0 0, .slice none 0 0]) S_Table rowR rfl rfl rfl
    have rowF := rowR.setRow [.int .i64 0, .string { data := #[] }, .slice none 0 0, .slice none 0 0]
    have kF := kk.setRow (g := w.heap.size + 1 + 1) (fun h => by omega) [.int .i64 0, .string { data := #[] }, .slice none 0 0, .slice none 0 0].toArray
    clear k1 hF x2 rowI row0 rowR kk
    go_wp2_with fail
    refine bodyPost_ret (results_cell_row2 (by rfl) _ _ _ _ _ _ _ (by rfl) rowF Try.underlying49 (by rfl) S_Table.info) rfl ?_
    rw [hR.out]
    exact ⟨_, rfl, zTab_r _ _, kF⟩
  · rw [h1] at hF
    have hR := Lib.hid (firstB_some (P := fun t : GTable => decide (t.fID = d)) (z := zTab) k hk h2 h3)
    have hi0 : (0 : Int) ≤ (k : Int) := by omega
    have hi1 : (k : Int) < (c.fTables.length : Int) := by omega
    clear h1 h2 h3
    go_enter Try.func54, Try.ntmps54
    go_wp2_with fail
    go_fit hF.out
    rintro e w1 ⟨rfl, k1⟩
    replace rowR := rowR.keep k1 id
    replace row0 := row0.keep k1 id
    replace kk := kk.trans k1
    obtain ⟨b, o, cc, cs, e1, -, hb, r, hcl⟩ := rList_at rGTable_lawful (by decide) ((rList_lawful rGTable_lawful).nix hT kk) k hk
    simp only [List.cons.injEq, Value.slice.injEq, and_true] at e1
    obtain ⟨rfl, -, -⟩ := e1
    have ld := Whole.at (P := Try.prog) S_Table (rGTable_lawful.len r) hcl
    unfold Whole at ld
    replace x2 := row0.cell 2
    simp only [List.getElem?_cons_succ, List.getElem?_cons_zero] at x2
    have hl4 := rGTable_lawful.len r
    have hst := store_run (P := Try.prog) (cs := cs) S_Table rowR rfl hl4 (rGTable_ones r)
    have rowF := rowR.setRow cs
    have kS : Keep (· = w.heap.size + 1 + 1) w1 (w1.setRow (w.heap.size + 1 + 1) cs.toArray) := (Keep.refl (· = w.heap.size + 1 + 1) w1).setRow (fun _ => rfl) cs.toArray
    have kF := kk.setRow (g := w.heap.size + 1 + 1) (fun h => by omega) cs.toArray
    replace r := rGTable_lawful.keep r kS (fun b hb e => by have := hp b hb; omega)
    have hin : (Try.prog.info? 49).map (·.size) = some cs.toArray.size := by rw [List.size_toArray, hl4]; exact S_Table.info
    have HIN := Lib.hid hin
    clear k1 hF rowI row0 rowR kk kS hcl hl4 hin
    go_wp2_with fail
    refine bodyPost_ret (results_cell_row2 (by rfl) _ _ _ _ _ _ _ (by rfl) rowF Try.underlying49 (by rfl) HIN.out) rfl ?_
    rw [hR.out]
    exact ⟨_, rfl, r, kF⟩
end
end Go.Proofs.Ytibaehlfpgipfaa
namespace Go.Proofs.Ytibaehlfpgipfaa
open Go.RowKit

def tabOf (c : GCatalog) (d : Int) : GTable × Bool := firstB (fun t => decide (t.fID = d)) c.fTables zTab
def indexB (c : GCatalog) (x : GIndex) : Bool := (tabOf c x.fTable).2 && (nameB x.fName && (placesB (tabOf c x.fTable).1.fColumns.length x.fColumns && decide (1 ≤ x.fState ∧ x.fState ≤ 7)))
section
attribute [local go_sem ↓] ldz_Table stz_Table ldz_Catalog
set_option maxRecDepth 100000 in
set_option maxHeartbeats 8000000 in
theorem srightIndex_c {p : Nat → Prop} (c : GCatalog) (csc : List Value) (x : GIndex) (csx : List Value) (w : World) (hc : rGCatalog w p csc c) (hx : rGIndex w p csx x) (hp : ∀ b, p b → b < w.heap.size) :
    Calls Try.prog 35 #[.agg csc.toArray, .agg csx.toArray] w fun e w' => e = .returned (.bool (indexB c x)) ∧ Keep Nix w w' := by
  obtain ⟨aI, cI, rfl, -, -, hxn, hxc, hxs, -⟩ := rGIndex_open hx
  have hlc := rGCatalog_lawful.len hc
  clear hx
  have row0 : RowIs ((w.alloc (.cells csc.toArray 34)).alloc (.cells #[.int .i64 x.fID, .int .i64 x.fTable, .string (strB x.fName), .slice aI x.fColumns.length cI, .bool x.fUnique, .int .i64 x.fState, .bool x.fBad] 51)) w.heap.size 34 csc := (RowIs.alloc w _ _).keep ((Keep.refl Nix _).alloc _) id
  have rowX : RowIs ((w.alloc (.cells csc.toArray 34)).alloc (.cells #[.int .i64 x.fID, .int .i64 x.fTable, .string (strB x.fName), .slice aI x.fColumns.length cI, .bool x.fUnique, .int .i64 x.fState, .bool x.fBad] 51)) (w.heap.size + 1) 51 [.int .i64 x.fID, .int .i64 x.fTable, .string (strB x.fName), .slice aI x.fColumns.length cI, .bool x.fUnique, .int .i64 x.fState, .bool x.fBad] := RowIs.alloc_at (w.alloc (.cells csc.toArray 34)) _ (by simp) #[.int .i64 x.fID, .int .i64 x.fTable, .string (strB x.fName), .slice aI x.fColumns.length cI, .bool x.fUnique, .int .i64 x.fState, .bool x.fBad] 51
  have kk : Keep Nix w ((w.alloc (.cells csc.toArray 34)).alloc (.cells #[.int .i64 x.fID, .int .i64 x.fTable, .string (strB x.fName), .slice aI x.fColumns.length cI, .bool x.fUnique, .int .i64 x.fState, .bool x.fBad] 51)) := ((Keep.refl Nix w).alloc _).alloc _
  have ld := Whole.row (P := Try.prog) S_Catalog hlc row0
  unfold Whole at ld
  have hB := byID_c c csc x.fTable _ (rGCatalog_lawful.nix hc kk) (fun b hb => Nat.lt_of_lt_of_le (hp b hb) kk.size)
  change Calls _ _ _ _ (FoundIn rGTable p _ (tabOf c x.fTable)) at hB
  have HB := Lib.hid hB
  obtain ⟨y, hy⟩ : ∃ y, Hid (tabOf c x.fTable = y) := ⟨_, rfl⟩
  rw [hy.out] at HB
  have HI : Hid (indexB c x = (y.2 && (nameB x.fName && (placesB y.1.fColumns.length x.fColumns && decide (1 ≤ x.fState ∧ x.fState ≤ 7))))) := by show _ = _; unfold indexB; rw [hy.out]
  clear hB hlc hc hy
  have x1 := rowX.cell 1
  simp only [List.getElem?_cons_succ, List.getElem?_cons_zero] at x1
  go_enter Try.func35, Try.ntmps35
  go_wp2_with fail
  clear ld x1
  go_fit HB.out
  clear HB
  obtain ⟨t, is⟩ := y
  rintro e w1 ⟨cst, rfl, hT, k1⟩
  replace hT : rGTable w1 p cst t := hT
  replace rowX := rowX.keep k1 id
  replace kk := kk.trans k1
  obtain ⟨aC, cC, aK, cK, rfl, -, htn, htC, -, -⟩ := rGTable_open hT
  have nC := (rList_len htC).2.2
  have mC : t.fColumns.length ≤ 140737488351232 := by have := far_len; omega
  have hst := store_run (P := Try.prog) (cs := [.int .i64 t.fID, .string (strB t.fName), .slice aC t.fColumns.length cC, .slice aK t.fKey.length cK]) S_Table (RowIs.alloc w1 #[.int .i64 0, .string { data := #[] }, .slice none 0 0, .slice none 0 0] 49) rfl rfl rfl
  have rowT := (RowIs.alloc w1 #[.int .i64 0, .string { data := #[] }, .slice none 0 0, .slice none 0 0] 49).setRow [.int .i64 t.fID, .string (strB t.fName), .slice aC t.fColumns.length cC, .slice aK t.fKey.length cK]
  have kV : Keep Nix w1 ((w1.alloc (.cells #[.int .i64 0, .string { data := #[] }, .slice none 0 0, .slice none 0 0] 49)).setRow w1.heap.size [.int .i64 t.fID, .string (strB t.fName), .slice aC t.fColumns.length cC, .slice aK t.fKey.length cK].toArray) := ((Keep.refl Nix w1).alloc _).setRow (fun h => absurd h (Nat.lt_irrefl _)) _
  replace rowX := rowX.keep kV id
  replace kk := kk.trans kV
  replace hxc := (rList_lawful (rInt_lawful _)).nix hxc kk
  clear kV k1 hT htC nC
  have x2 := rowX.cell 2
  have x3 := rowX.cell 3
  have x5 := rowX.cell 5
  have y2 := rowT.cell 2
  simp only [List.getElem?_cons_succ, List.getElem?_cons_zero] at x2 x3 x5 y2
  simp only at HI
  cases is with
  | false =>
    go_wp2_with fail
    go_ret
    exact ⟨ret_bool (by rw [HI.out]; rfl), kk⟩
  | true =>
  obtain ⟨bn, hbn⟩ : ∃ b, Hid (nameB x.fName = b) := ⟨_, rfl⟩
  have HN := Lib.hid (fun w' => named_s x.fName w' hxn)
  rw [hbn.out] at HN HI
  cases bn with
  | false =>
    go_wp2_with fail
    go_fit (HN.out _)
    rintro e w2 ⟨rfl, rfl⟩
    go_wp2_with fail
    go_ret
    exact ⟨ret_bool (by rw [HI.out]; rfl), kk⟩
  | true =>
  obtain ⟨bp, hbp⟩ : ∃ b, Hid (placesB t.fColumns.length x.fColumns = b) := ⟨_, rfl⟩
  have HP := Lib.hid (splaces_c aI x.fColumns.length cI x.fColumns t.fColumns.length _ hxc)
  rw [hbp.out] at HP HI
  cases bp with
  | false =>
    go_wp2_with fail
    go_fit (HN.out _)
    rintro e w2 ⟨rfl, rfl⟩
    go_wp2_with fail
    go_fit HP.out
    rintro e w2 ⟨rfl, k2⟩
    replace kk := kk.trans k2
    go_wp2_with fail
    go_ret
    exact ⟨ret_bool (by rw [HI.out]; rfl), kk⟩
  | true =>
  go_wp2_with fail
  go_fit (HN.out _)
  rintro e w2 ⟨rfl, rfl⟩
  go_wp2_with fail
  go_fit HP.out
  rintro e w2 ⟨rfl, k2⟩
  replace kk := kk.trans k2
  replace rowX := rowX.keep k2 id
  clear k2 HP HN hst x2 x3 x5 y2 rowT hxc
  have x5 := rowX.cell 5
  simp only [List.getElem?_cons_succ, List.getElem?_cons_zero] at x5
  go_wp2_with fail
  all_goals
    go_ret
    exact ⟨ret_bool (by rw [HI.out, Bool.true_and, Bool.true_and, Bool.true_and, Bool.eq_iff_iff]; simp only [decide_eq_true_eq, Bool.false_eq_true, false_iff]; omega), kk⟩
end
end Go.Proofs.Ytibaehlfpgipfaa
namespace Go.Proofs.Ytibaehlfpgipfaa
open Go.RowKit

def lastT (c : GCatalog) : Nat → Int
  | 0 => 0
  | j + 1 => match c.fTables[j]? with
    | some t => t.fID
    | none => 0
def tabOk (c : GCatalog) (i : Nat) (t : GTable) : Bool := decide (lastT c i < t.fID) && (decide (t.fID < c.fNext) && (tableB t && decide (findB (fun o => decide (o.fName = t.fName)) c.fTables = (i : Int))))
def tabQ (c : GCatalog) (i : Nat) : Bool := match c.fTables[i]? with
  | some t => tabOk c i t
  | none => true
theorem tabQ_at {c : GCatalog} {i : Nat} (h : i < c.fTables.length) : tabQ c i = tabOk c i c.fTables[i] := by unfold tabQ; rw [List.getElem?_eq_getElem h]
theorem lastT_succ {c : GCatalog} {i : Nat} (h : i < c.fTables.length) : lastT c (i + 1) = c.fTables[i].fID := by show (match c.fTables[i]? with | some t => t.fID | none => 0) = _; rw [List.getElem?_eq_getElem h]
def lastX (c : GCatalog) : Nat → Int
  | 0 => 0
  | j + 1 => match c.fIndexes[j]? with
    | some t => t.fID
    | none => 0
def idxOk (c : GCatalog) (i : Nat) (x : GIndex) : Bool := decide (lastX c i < x.fID) && (decide (x.fID < c.fNext) && (!(tabOf c x.fID).2 && (indexB c x && decide (findB (fun o => decide (o.fName = x.fName)) c.fIndexes = (i : Int)))))
def idxQ (c : GCatalog) (i : Nat) : Bool := match c.fIndexes[i]? with
  | some x => idxOk c i x
  | none => true
theorem idxQ_at {c : GCatalog} {i : Nat} (h : i < c.fIndexes.length) : idxQ c i = idxOk c i c.fIndexes[i] := by unfold idxQ; rw [List.getElem?_eq_getElem h]
theorem lastX_succ {c : GCatalog} {i : Nat} (h : i < c.fIndexes.length) : lastX c (i + 1) = c.fIndexes[i].fID := by show (match c.fIndexes[i]? with | some t => t.fID | none => 0) = _; rw [List.getElem?_eq_getElem h]
def headB (c : GCatalog) : Bool := decide (0 ≤ c.fVersion ∧ 1 ≤ c.fNext ∧ c.fNext ≤ 1073741824 ∧ c.fTables.length ≤ 6 ∧ c.fIndexes.length ≤ 10)
def rightB (c : GCatalog) : Bool := headB c && (allB c.fTables.length (tabQ c) && allB c.fIndexes.length (idxQ c))
section
attribute [local go_sem ↓] ldz_Table stz_Table ldz_Catalog ldz_Index stz_Index
end
end Go.Proofs.Ytibaehlfpgipfaa
namespace Go.Proofs.Ytibaehlfpgipfaa
open Go.RowKit

theorem findB_le {α : Type} {P : α → Bool} {l : List α} (k : Nat) (h : k < l.length) (hp : P l[k] = true) : findB P l ≤ (k : Int) := by
  rcases findB_cases P l with ⟨h1, h2⟩ | ⟨j, hj, h1, h2, h3⟩
  · rw [h1]; omega
  · rw [h1]
    have : ¬ k < j := fun hk => by rw [h3 k hk] at hp; cases hp
    omega
theorem findB_here {C : List GColumn} {i : Nat} (h : i < C.length) (hn : ∀ j (hj : j < i), (C[j]'(by omega)).fName ≠ C[i].fName) : findB (fun o => decide (o.fName = C[i].fName)) C = (i : Int) :=
  findB_at i h (fun j hj x hx => by rw [List.getElem?_eq_getElem (by omega)] at hx; cases hx; exact decide_eq_false (hn j hj)) (decide_eq_true rfl)
theorem findB_not {C : List GColumn} {i k : Nat} (h : i < C.length) (hk : k < i) (he : (C[k]'(by omega)).fName = C[i].fName) : findB (fun o => decide (o.fName = C[i].fName)) C ≠ (i : Int) := by
  have := findB_le (P := fun o : GColumn => decide (o.fName = C[i].fName)) k (by omega : k < C.length) (decide_eq_true he)
  omega
section
attribute [local go_sem ↓] ldz_Column stz_Column
end
end Go.Proofs.Ytibaehlfpgipfaa
namespace Go.Proofs.Ytibaehlfpgipfaa
open Go.RowKit

def zIdx : GIndex := ⟨0, 0, [], [], false, 0, false⟩
theorem zIdx_r (w : World) (p : Nat → Prop) : rGIndex w p [.int .i64 0, .int .i64 0, .string { data := #[] }, .slice none 0 0, .bool false, .int .i64 0, .bool false] zIdx :=
  rGIndex_mk (x := zIdx) w p (by unfold isI64; simp [zIdx]) (by unfold isI64; simp [zIdx]) (by simp [zIdx]) (rList_nil _ _ _ _) (by unfold isI64; simp [zIdx])
section
attribute [local go_sem ↓] ldz_Table stz_Table
end
section
attribute [local go_sem ↓] ldz_Table stz_Table
end
section
attribute [local go_sem ↓] ldz_Index stz_Index
end
end Go.Proofs.Ytibaehlfpgipfaa
