/- SCHEMA, THE SMALLEST PARTS: names, places, what a state does. -/
import Derived.Test.YtibaehlfpgipfaaGreatQZOpens
import Derived.Deep.RegionHeld3
import Derived.WalkSpells
import Derived.Deep.RegionWith
import Derived.Deep.AppendLies
namespace Go.Proofs.YtibaehlfpgipfaaGreat
open Go.RowKit
def chB (c : UInt8) : Bool := decide (97 ≤ c.toNat ∧ c.toNat ≤ 122 ∨ 48 ≤ c.toNat ∧ c.toNat ≤ 57 ∨ c.toNat = 95)
def nameB (l : List UInt8) : Bool := l.all chB && decide (1 ≤ l.length ∧ l.length ≤ 20)
theorem nameB_bad {l : List UInt8} (k : Nat) (h : k < l.length) (hc : chB l[k] = false) : nameB l = false := by
  unfold nameB
  rw [Bool.and_eq_false_iff]; left
  rw [List.all_eq_false]
  exact ⟨l[k], List.getElem_mem h, by simp [hc]⟩
theorem nameB_good {l : List UInt8} (h : l.all chB = true) : nameB l = decide (1 ≤ l.length ∧ l.length ≤ 20) := by unfold nameB; rw [h]; rfl
theorem all_snoc (l : List UInt8) (k : Nat) (h : k < l.length) : (l.take (k + 1)).all chB = ((l.take k).all chB && chB l[k]) := by
  rw [List.take_succ_eq_append_getElem h, List.all_append]; simp
theorem take_snoc_b (s : ByteArray) (k : Nat) (h : k < s.size) : (s.data.toList.take (k + 1)).all chB = ((s.data.toList.take k).all chB && chB s[k]) := all_snoc _ k (by simpa using h)
set_option maxHeartbeats 1000000 in
theorem named_c (s : ByteArray) (w : World) (hs : s.size ≤ maxLen) : Calls Tryz.prog 162 #[.string s] w fun e w' => e = .returned (.bool (nameB s.data.toList)) ∧ w = w' := by
  unfold maxLen at hs
  have hl : s.data.toList.length = s.size := by rw [Array.length_toList]; rfl
  have HL := Lib.hid hl
  clear hl
  go_enter Tryz.func162, Tryz.ntmps162
  go_wp2
  go_loop [7] (fun i => ∃ k : Nat, k ≤ s.size ∧ i = .int .i64 k ∧ Hid ((s.data.toList.take k).all chB = true)) (fun i => s.size - (intOf i).toNat)
  case atStart => exact ⟨0, Nat.zero_le _, rfl, rfl⟩
  case round =>
    obtain ⟨k, hk, rfl, hp⟩ := hrel
    by_cases hlt : k < s.size
    · have HS := Lib.hid (take_snoc_b s k hlt)
      have hB : chB s[k] = false → nameB s.data.toList = false := fun h => nameB_bad (l := s.data.toList) k (by rw [HL.out]; exact hlt) h
      have HB := Lib.hid hB
      clear hB
      go_wp2
      all_goals first
        | (go_ret; exact ⟨ret_bool (HB.out (by unfold chB; rw [decide_eq_false_iff_not]; simp only [bne_iff_ne, ne_eq] at *; omega)).symm, rfl⟩)
        | (go_round
           case rel => exact ⟨k + 1, by omega, by go_num, by show _ = _; rw [HS.out, hp.out, Bool.true_and]; unfold chB; rw [decide_eq_true_iff]; (try simp only [bne_eq_false_iff_eq] at *); omega⟩
           case measure => simp [intOf]; omega)
    · have e : k = s.size := by omega
      have ha : s.data.toList.all chB = true := by
        have := hp.out
        rwa [List.take_of_length_le (by rw [HL.out]; omega)] at this
      have HG := Lib.hid (nameB_good ha)
      clear ha hp e
      have hz : (s.toList = []) ↔ s.size = 0 := by rw [ByteArray.toList_eq, ← HL.out]; exact List.length_eq_zero_iff.symm
      have HZ := Lib.hid hz
      clear hz
      by_cases h0 : s.size = 0
      · have t1 := HZ.out.2 h0
        go_wp2
        go_ret
        exact ⟨ret_bool (by rw [HG.out, HL.out]; exact (decide_eq_false (by omega)).symm), rfl⟩
      · have t1 : ¬ s.toList = [] := fun h => h0 (HZ.out.1 h)
        have t2 : (!s.toList.isEmpty) = true := by simp [t1]
        go_wp2
        go_ret
        exact ⟨ret_bool (by rw [HG.out, HL.out]; exact decide_eq_decide.2 (by omega)), rfl⟩
theorem named_s (l : List UInt8) (w : World) (hs : l.length ≤ far) : Calls Tryz.prog 162 #[.string (strB l)] w fun e w' => e = .returned (.bool (nameB l)) ∧ w = w' := by
  have := named_c (strB l) w (by rw [strB_size]; exact Nat.le_trans hs far_len.2)
  rwa [strB_list] at this
/-! ### states -/
def nextF (s : Int) : Int := if s = 1 ∨ s = 2 ∨ s = 3 ∨ s = 5 ∨ s = 6 then s + 1 else if s = 4 then 4 else 0
theorem sNext_c {p : Nat → Prop} (x : GIndex) (cs : List Value) (w : World) (hx : rGIndex w p cs x) : Calls Tryz.prog 111 #[.agg cs.toArray] w fun e w' => e = .returned (.int .i64 (nextF x.fState)) ∧ Keep Nix w w' := by
  obtain ⟨a, c, rfl, -, -, -, -, h5, -⟩ := rGIndex_open hx
  generalize x.fState = s at h5
  have kk : Keep Nix w (w.alloc (.cells #[.int .i64 x.fID, .int .i64 x.fTable, .string (strB x.fName), .slice a x.fColumns.length c, .bool x.fUnique, .int .i64 s, .bool x.fBad] 41)) := (Keep.refl Nix w).alloc _
  clear hx
  have hs : s = 1 ∨ s = 2 ∨ s = 3 ∨ s = 4 ∨ s = 5 ∨ s = 6 ∨ ((s == 1) = false ∧ (s == 2) = false ∧ (s == 3) = false ∧ (s == 4) = false ∧ (s == 5) = false ∧ (s == 6) = false ∧ nextF s = 0) := by
    simp only [beq_eq_false_iff_ne, ne_eq, nextF]; split
    · omega
    · split <;> omega
  clear h5
  rcases hs with rfl | rfl | rfl | rfl | rfl | rfl | ⟨t1, t2, t3, t4, t5, t6, hn⟩
  rotate_right
  · have HN := Lib.hid hn
    clear hn
    go_enter Tryz.func111, Tryz.ntmps111
    go_wp2
    go_ret
    exact ⟨ret_int HN.out.symm, kk⟩
  all_goals
    go_enter Tryz.func111, Tryz.ntmps111
    go_wp2
    go_ret
    exact ⟨rfl, kk⟩
end Go.Proofs.YtibaehlfpgipfaaGreat
namespace Go.Proofs.YtibaehlfpgipfaaGreat
open Go.RowKit
/-! ### plainly -/
def goodP (m : Int) (l : List Int) : Prop := (∀ k ∈ l, 0 ≤ k ∧ k < m) ∧ l.Nodup
instance (m : Int) (l : List Int) : Decidable (goodP m l) := by unfold goodP; infer_instance
theorem goodP_nil (m : Int) : goodP m [] := ⟨by simp, List.nodup_nil⟩
theorem goodP_app {m : Int} (t : List Int) (x : Int) : goodP m (t ++ [x]) ↔ goodP m t ∧ 0 ≤ x ∧ x < m ∧ x ∉ t := by
 unfold goodP
 rw [List.nodup_append]
 constructor
 ·rintro ⟨h1, h2, h3, h4⟩
  exact ⟨⟨fun y hy => h1 y (by simp [hy]), h2⟩, (h1 x (by simp)).1, (h1 x (by simp)).2, fun hm => h4 _ hm _ (by simp) rfl⟩
 ·rintro ⟨⟨h1, h2⟩, h3, h4, h5⟩
  refine ⟨fun y hy => ?_, h2, by simp, fun a ha b hb e => ?_⟩
  ·rcases List.mem_append.1 hy with hy | hy
   ·exact h1 y hy
   ·simp at hy; subst hy; exact ⟨h3, h4⟩
  ·simp at hb; subst hb; subst e; exact h5 ha
theorem goodP_snoc {m : Int} {l : List Int} (k : Nat) (h : k < l.length) : goodP m (l.take (k + 1)) ↔ goodP m (l.take k) ∧ 0 ≤ l[k] ∧ l[k] < m ∧ l[k] ∉ l.take k := by
 rw [List.take_succ_eq_append_getElem h]
 exact goodP_app _ _
theorem goodP_take {m : Int} {l : List Int} (k : Nat) (h : goodP m l) : goodP m (l.take k) :=
 ⟨fun x hx => h.1 x (List.mem_of_mem_take hx), h.2.sublist (List.take_sublist k l)⟩
theorem goodP_bad {m : Int} {l : List Int} (k : Nat) (h : k < l.length) (hb : ¬ (0 ≤ l[k] ∧ l[k] < m ∧ l[k] ∉ l.take k)) : ¬ goodP m l :=
 fun hg => hb ((goodP_snoc k h).1 (goodP_take (k + 1) hg)).2
theorem goodP_len : ∀ (m : Nat) (l : List Int), goodP (m : Int) l → l.length ≤ m
 | 0, l, h => by
  cases l with
  | nil => simp
  | cons x l => have := h.1 x (by simp); omega
 | m + 1, l, h => by
  by_cases hm : (m : Int) ∈ l
  ·have h1 := goodP_len m (l.erase (m : Int)) ⟨fun k hk => by
    have h2 := h.1 k (List.mem_of_mem_erase hk)
    have h3 : k ≠ (m : Int) := fun e => by subst e; exact (h.2.not_mem_erase) hk
    omega, h.2.erase _⟩
   rw [List.length_erase_of_mem hm] at h1
   omega
  ·have h1 := goodP_len m l ⟨fun k hk => by
    have h2 := h.1 k hk
    have h3 : k ≠ (m : Int) := fun e => by subst e; exact hm hk
    omega, h.2⟩
   omega
def placesB (m : Int) (l : List Int) : Bool := decide (goodP (min m 6) l ∧ 1 ≤ l.length)
/-! ### the program's -/
def seenRow (l : List Int) : List Value := [.bool (decide ((0 : Int) ∈ l)), .bool (decide ((1 : Int) ∈ l)), .bool (decide ((2 : Int) ∈ l)), .bool (decide ((3 : Int) ∈ l)), .bool (decide ((4 : Int) ∈ l)), .bool (decide ((5 : Int) ∈ l))]
theorem seenRow_at (l : List Int) (j : Nat) (h : j < 6) : (seenRow l)[j]? = some (.bool (decide ((j : Int) ∈ l))) := by
 match j, h with
 | 0, _ => rfl
 | 1, _ => rfl
 | 2, _ => rfl
 | 3, _ => rfl
 | 4, _ => rfl
 | 5, _ => rfl
theorem seenRow_set (l : List Int) (j : Nat) (h : j < 6) : (seenRow l).set j (.bool true) = seenRow (l ++ [(j : Int)]) := by
 have key : ∀ i : Int, decide (i ∈ l ++ [(j : Int)]) = (decide (i ∈ l) || decide (i = (j : Int))) := fun i => by simp
 unfold seenRow
 rw [key, key, key, key, key, key]
 match j, h with
 | 0, _ => simp
 | 1, _ => simp
 | 2, _ => simp
 | 3, _ => simp
 | 4, _ => simp
 | 5, _ => simp
theorem rInt_at {w : World} {p : Nat → Prop} {a : Option Addr} {n cap : Nat} {l : List Int} (h : rList (rInt .i64) w p [.slice a n cap] l) (k : Nat) (hk : k < l.length) :
  ∃ b off, a = some ⟨b, off, none⟩ ∧ b < w.heap.size ∧ w.cell? ⟨b, off + k, none⟩ = some (.int .i64 l[k]) ∧ isI64 l[k] := by
 obtain ⟨b, o, c, ca, e, -, hb, r, hc⟩ := rList_at (rInt_lawful _) (by decide) h k hk
 simp only [List.cons.injEq, Value.slice.injEq, and_true] at e
 obtain ⟨rfl, -, -⟩ := e
 obtain ⟨rfl, hw⟩ := r
 have x := hc 0 _ rfl
 rw [Nat.mul_one, Nat.add_zero] at x
 exact ⟨b, o, rfl, hb, x, isI64_wf hw⟩
set_option maxHeartbeats 2000000 in
theorem splaces_c {p : Nat → Prop} (a : Option Addr) (n cap : Nat) (l : List Int) (m : Int) (w : World) (hl : rList (rInt .i64) w p [.slice a n cap] l) :
  Calls Tryz.prog 163 #[.slice a n cap, .int .i64 m] w fun e w' => e = .returned (.bool (placesB m l)) ∧ Keep Nix w w' := by
 obtain ⟨rfl, -, hf⟩ := rList_len hl
 have hfar : l.length ≤ 9223372036854775807 := by have := far_len; unfold maxLen at this; omega
 clear hf
 have row0 : RowIs (w.alloc (.cells #[.bool false, .bool false, .bool false, .bool false, .bool false, .bool false] 259)) w.heap.size 259 (seenRow []) := RowIs.alloc w _ _
 have kk0 : Keep Nix w (w.alloc (.cells #[.bool false, .bool false, .bool false, .bool false, .bool false, .bool false] 259)) := (Keep.refl Nix w).alloc _
 go_enter Tryz.func163, Tryz.ntmps163
 go_wp2_with fail
 go_loopw [11] (fun i wr => ∃ k : Nat, k ≤ l.length ∧ i = .int .i64 k ∧ Hid (goodP (min m 6) (l.take k)) ∧ RowIs wr w.heap.size 259 (seenRow (l.take k)) ∧ Keep Nix w wr) (fun i _ => l.length - (intOf i).toNat)
 case atStart => exact ⟨0, by omega, rfl, goodP_nil _, row0, kk0⟩
 case round =>
  clear row0 kk0
  obtain ⟨k, hk, rfl, hg, row, kk⟩ := hrel
  by_cases hlt : k < l.length
  ·have hi0 : (0 : Int) ≤ (k : Int) := by omega
   have hi1 : (k : Int) < (l.length : Int) := by omega
   obtain ⟨b, off, rfl, hb, x, -⟩ := rInt_at ((rList_lawful (rInt_lawful _)).nix hl kk) k hlt
   have HB := Lib.hid (goodP_bad (m := min m 6) k hlt)
   have HS := Lib.hid (goodP_snoc (m := min m 6) k hlt)
   clear hl
   generalize hv : l[k] = v at x HB HS
   replace hv := Lib.hid hv
   have fin : ¬ goodP (min m 6) l → placesB m l = false := fun h => by unfold placesB; rw [decide_eq_false_iff_not]; exact fun h2 => h h2.1
   have FIN := Lib.hid fin
   clear fin
   rcases Int.lt_or_le v 0 with h1 | h1
   ·go_wp2_with fail
    go_ret
    exact ⟨ret_bool (FIN.out (HB.out (by omega))).symm, kk⟩
   rcases Int.lt_or_le v m with h2 | h2
   rotate_left
   ·go_wp2_with fail
    go_ret
    exact ⟨ret_bool (FIN.out (HB.out (by omega))).symm, kk⟩
   rcases Int.lt_or_le v 6 with h3 | h3
   rotate_left
   ·go_wp2_with fail
    go_ret
    exact ⟨ret_bool (FIN.out (HB.out (by omega))).symm, kk⟩
   obtain ⟨j, rfl⟩ : ∃ j : Nat, v = (j : Int) := ⟨v.toNat, by omega⟩
   have hj : j < 6 := by omega
   have y : wr.cell? ⟨w.heap.size, j, none⟩ = some (.bool (decide ((j : Int) ∈ l.take k))) := by rw [row.cell, seenRow_at _ _ hj]
   have yf := row.frozen j
   by_cases hm : (j : Int) ∈ l.take k
   ·have hd : decide ((j : Int) ∈ l.take k) = true := decide_eq_true hm
    rw [hd] at y
    have HM := Lib.hid hm
    clear hd hm
    go_wp2_with fail
    go_ret
    exact ⟨ret_bool (FIN.out (HB.out (fun h => h.2.2 HM.out))).symm, kk⟩
   ·have hd : decide ((j : Int) ∈ l.take k) = false := decide_eq_false hm
    rw [hd] at y
    have HM := Lib.hid hm
    have row2 := row.set j (.bool true)
    rw [seenRow_set _ _ hj] at row2
    have kk2 := kk.setCell (p := ⟨w.heap.size, j, none⟩) (fun h => absurd h (Nat.lt_irrefl _)) (.bool true)
    have HT : Hid (l.take (k + 1) = l.take k ++ [(j : Int)]) := by show _ = _; rw [List.take_succ_eq_append_getElem hlt, hv.out]
    clear hd hm row kk hv
    go_wp2_with fail
    go_roundw
    case rel => exact ⟨k + 1, by omega, by go_num, by show goodP _ _; rw [HS.out]; exact ⟨hg.out, by omega, by omega, HM.out⟩, by rw [HT.out]; exact row2, kk2⟩
    case measure => simp [intOf]; omega
  ·obtain rfl : k = l.length := by omega
   have hG : placesB m l = decide (1 ≤ l.length) := by
    have := hg.out
    rw [List.take_length] at this
    unfold placesB; exact decide_eq_decide.2 ⟨fun h => h.2, fun h => ⟨this, h⟩⟩
   have HG := Lib.hid hG
   clear hG
   go_wp2_with fail
   go_ret
   exact ⟨ret_bool (by rw [HG.out]; exact decide_eq_decide.2 (by omega)), kk⟩
/-! ### the reference's -/
end Go.Proofs.YtibaehlfpgipfaaGreat
namespace Go.Proofs.YtibaehlfpgipfaaGreat
open Go.RowKit
def findB {α : Type} (P : α → Bool) (l : List α) : Int := match l.findIdx? P with
 | some i => (i : Int)
 | none => -1
theorem findB_at {α : Type} {P : α → Bool} {l : List α} (k : Nat) (h : k < l.length) (hn : ∀ j, j < k → ∀ x, l[j]? = some x → P x = false) (hp : P l[k] = true) : findB P l = (k : Int) := by
 have : l.findIdx? P = some k := by
  rw [List.findIdx?_eq_some_iff_getElem]
  exact ⟨h, hp, fun j hj => by simp [hn j hj _ (List.getElem?_eq_getElem (by omega))]⟩
 unfold findB; rw [this]
theorem findB_none {α : Type} {P : α → Bool} {l : List α} (hn : ∀ j, j < l.length → ∀ x, l[j]? = some x → P x = false) : findB P l = -1 := by
 have : l.findIdx? P = none := by
  rw [List.findIdx?_eq_none_iff]
  intro x hx
  obtain ⟨j, hj, rfl⟩ := List.mem_iff_getElem.1 hx
  exact hn j hj _ (List.getElem?_eq_getElem hj)
 unfold findB; rw [this]
theorem findB_cases {α : Type} (P : α → Bool) (l : List α) : (findB P l = -1 ∧ ∀ x ∈ l, P x = false) ∨ ∃ (k : Nat) (h : k < l.length), findB P l = (k : Int) ∧ P l[k] = true ∧ ∀ j (hj : j < k), P (l[j]'(by omega)) = false := by
 cases hf : l.findIdx? P with
 | none => exact .inl ⟨by unfold findB; rw [hf], fun x hx => by
   have := List.findIdx?_eq_none_iff.1 hf x hx; simpa using this⟩
 | some k =>
  obtain ⟨h, h1, h2⟩ := List.findIdx?_eq_some_iff_getElem.1 hf
  exact .inr ⟨k, h, by unfold findB; rw [hf], h1, fun j hj => by have := h2 j hj; simpa using this⟩
def NoneYet {α : Type} (P : α → Bool) (l : List α) (k : Nat) : Prop := ∀ j, j < k → ∀ x, l[j]? = some x → P x = false
theorem NoneYet.succ {α : Type} {P : α → Bool} {l : List α} {k : Nat} (h : NoneYet P l k) (hk : k < l.length) (hp : P l[k] = false) : NoneYet P l (k + 1) := fun j hj x hx => by
 by_cases e : j = k
 ·subst e; rw [List.getElem?_eq_getElem hk] at hx; cases hx; exact hp
 ·exact h j (by omega) x hx
section
attribute [local go_sem ↓] ldz_Column
set_option maxHeartbeats 1000000 in
theorem ifColumn_c {p : Nat → Prop} (a : Option Addr) (n cap : Nat) (l : List GColumn) (fv : FuncId) (u : Value) (P : GColumn → Bool) (w : World) (hl : rList rGColumn w p [.slice a n cap] l)
  (hE : ∀ args w, (callFunc fv args).run Tryz.prog w = .ok (.enter fv args) w) (hF : (∀ (w' : World) (x : GColumn) (cs : List Value), Keep Nix w w' → x ∈ l → rGColumn w' p cs x → Calls Tryz.prog fv #[.agg cs.toArray, u] w' fun e w'' => e = .returned (.bool (P x)) ∧ Keep Nix w' w'')) :
  Calls Tryz.prog 165 #[.slice a n cap, .func (.func fv) #[] #[u]] w fun e w' => e = .returned (.int .i64 (findB P l)) ∧ Keep Nix w w' := by
 obtain ⟨rfl, -, hf⟩ := rList_len hl
 have hfar : l.length ≤ 9223372036854775807 := by have := far_len; unfold maxLen at this; omega
 have HF := Lib.hid hF
 clear hf hF
 go_enter Tryz.func165, Tryz.ntmps165
 go_wp2_with fail
 go_loopw [8] (fun i wr => ∃ k : Nat, k ≤ l.length ∧ i = .int .i64 k ∧ Hid (NoneYet P l k) ∧ Keep Nix w wr) (fun i _ => l.length - (intOf i).toNat)
 case atStart => exact ⟨0, by omega, rfl, fun j hj => by omega, Keep.refl _ _⟩
 case round =>
  obtain ⟨k, hk, rfl, hg, kk⟩ := hrel
  by_cases hlt : k < l.length
  ·have hi0 : (0 : Int) ≤ (k : Int) := by omega
   have hi1 : (k : Int) < (l.length : Int) := by omega
   have HM : Hid (l[k] ∈ l) := List.getElem_mem hlt
   have HA := Lib.hid (findB_at (P := P) k hlt hg.out)
   have HS := Lib.hid (hg.out.succ (P := P) hlt)
   obtain ⟨b, o, c, cs, e1, -, hb, r, hc⟩ := rList_at rGColumn_lawful (by decide) ((rList_lawful rGColumn_lawful).nix hl kk) k hlt
   simp only [List.cons.injEq, Value.slice.injEq, and_true] at e1
   obtain ⟨rfl, -, -⟩ := e1
   have ld := Whole.at (P := Tryz.prog) S_Column (rGColumn_lawful.len r) hc
   unfold Whole at ld
   clear hl hc
   generalize l[k] = x at HM HA HS r
   have hcall := HF.out wr x cs kk HM.out r
   clear r
   rcases hP : P x with _ | _
   ·rw [hP] at hcall
    have HP := Lib.hid hP
    have HC := Lib.hid hcall
    clear hP hcall
    go_wp2_with fail
    go_fit HC.out
    clear HC
    rintro e w2 ⟨rfl, k2⟩
    replace kk := kk.trans k2
    clear k2
    go_wp2_with fail
    go_roundw
    case rel => exact ⟨k + 1, by omega, by go_num, HS.out HP.out, kk⟩
    case measure => simp [intOf]; omega
   ·rw [hP] at hcall
    have HP := Lib.hid hP
    have HC := Lib.hid hcall
    clear hP hcall
    go_wp2_with fail
    go_fit HC.out
    clear HC
    rintro e w2 ⟨rfl, k2⟩
    replace kk := kk.trans k2
    clear k2
    go_wp2_with fail
    go_ret
    exact ⟨ret_int (HA.out HP.out).symm, kk⟩
  ·obtain rfl : k = l.length := by omega
   have HN := Lib.hid (findB_none (P := P) hg.out)
   go_wp2_with fail
   go_ret
   exact ⟨ret_int HN.out.symm, kk⟩
end
section
attribute [local go_sem ↓] ldz_Table
set_option maxHeartbeats 1000000 in
theorem ifTable_c {p : Nat → Prop} (a : Option Addr) (n cap : Nat) (l : List GTable) (fv : FuncId) (u : Value) (P : GTable → Bool) (w : World) (hl : rList rGTable w p [.slice a n cap] l)
  (hE : ∀ args w, (callFunc fv args).run Tryz.prog w = .ok (.enter fv args) w) (hF : (∀ (w' : World) (x : GTable) (cs : List Value), Keep Nix w w' → x ∈ l → rGTable w' p cs x → Calls Tryz.prog fv #[.agg cs.toArray, u] w' fun e w'' => e = .returned (.bool (P x)) ∧ Keep Nix w' w'')) :
  Calls Tryz.prog 142 #[.slice a n cap, .func (.func fv) #[] #[u]] w fun e w' => e = .returned (.int .i64 (findB P l)) ∧ Keep Nix w w' := by
 obtain ⟨rfl, -, hf⟩ := rList_len hl
 have hfar : l.length ≤ 9223372036854775807 := by have := far_len; unfold maxLen at this; omega
 have HF := Lib.hid hF
 clear hf hF
 go_enter Tryz.func142, Tryz.ntmps142
 go_wp2_with fail
 go_loopw [8] (fun i wr => ∃ k : Nat, k ≤ l.length ∧ i = .int .i64 k ∧ Hid (NoneYet P l k) ∧ Keep Nix w wr) (fun i _ => l.length - (intOf i).toNat)
 case atStart => exact ⟨0, by omega, rfl, fun j hj => by omega, Keep.refl _ _⟩
 case round =>
  obtain ⟨k, hk, rfl, hg, kk⟩ := hrel
  by_cases hlt : k < l.length
  ·have hi0 : (0 : Int) ≤ (k : Int) := by omega
   have hi1 : (k : Int) < (l.length : Int) := by omega
   have HM : Hid (l[k] ∈ l) := List.getElem_mem hlt
   have HA := Lib.hid (findB_at (P := P) k hlt hg.out)
   have HS := Lib.hid (hg.out.succ (P := P) hlt)
   obtain ⟨b, o, c, cs, e1, -, hb, r, hc⟩ := rList_at rGTable_lawful (by decide) ((rList_lawful rGTable_lawful).nix hl kk) k hlt
   simp only [List.cons.injEq, Value.slice.injEq, and_true] at e1
   obtain ⟨rfl, -, -⟩ := e1
   have ld := Whole.at (P := Tryz.prog) S_Table (rGTable_lawful.len r) hc
   unfold Whole at ld
   clear hl hc
   generalize l[k] = x at HM HA HS r
   have hcall := HF.out wr x cs kk HM.out r
   clear r
   rcases hP : P x with _ | _
   ·rw [hP] at hcall
    have HP := Lib.hid hP
    have HC := Lib.hid hcall
    clear hP hcall
    go_wp2_with fail
    go_fit HC.out
    clear HC
    rintro e w2 ⟨rfl, k2⟩
    replace kk := kk.trans k2
    clear k2
    go_wp2_with fail
    go_roundw
    case rel => exact ⟨k + 1, by omega, by go_num, HS.out HP.out, kk⟩
    case measure => simp [intOf]; omega
   ·rw [hP] at hcall
    have HP := Lib.hid hP
    have HC := Lib.hid hcall
    clear hP hcall
    go_wp2_with fail
    go_fit HC.out
    clear HC
    rintro e w2 ⟨rfl, k2⟩
    replace kk := kk.trans k2
    clear k2
    go_wp2_with fail
    go_ret
    exact ⟨ret_int (HA.out HP.out).symm, kk⟩
  ·obtain rfl : k = l.length := by omega
   have HN := Lib.hid (findB_none (P := P) hg.out)
   go_wp2_with fail
   go_ret
   exact ⟨ret_int HN.out.symm, kk⟩
end
section
attribute [local go_sem ↓] ldz_Index
set_option maxHeartbeats 1000000 in
theorem ifIndex_c {p : Nat → Prop} (a : Option Addr) (n cap : Nat) (l : List GIndex) (fv : FuncId) (u : Value) (P : GIndex → Bool) (w : World) (hl : rList rGIndex w p [.slice a n cap] l)
  (hE : ∀ args w, (callFunc fv args).run Tryz.prog w = .ok (.enter fv args) w) (hF : (∀ (w' : World) (x : GIndex) (cs : List Value), Keep Nix w w' → x ∈ l → rGIndex w' p cs x → Calls Tryz.prog fv #[.agg cs.toArray, u] w' fun e w'' => e = .returned (.bool (P x)) ∧ Keep Nix w' w'')) :
  Calls Tryz.prog 109 #[.slice a n cap, .func (.func fv) #[] #[u]] w fun e w' => e = .returned (.int .i64 (findB P l)) ∧ Keep Nix w w' := by
 obtain ⟨rfl, -, hf⟩ := rList_len hl
 have hfar : l.length ≤ 9223372036854775807 := by have := far_len; unfold maxLen at this; omega
 have HF := Lib.hid hF
 clear hf hF
 go_enter Tryz.func109, Tryz.ntmps109
 go_wp2_with fail
 go_loopw [8] (fun i wr => ∃ k : Nat, k ≤ l.length ∧ i = .int .i64 k ∧ Hid (NoneYet P l k) ∧ Keep Nix w wr) (fun i _ => l.length - (intOf i).toNat)
 case atStart => exact ⟨0, by omega, rfl, fun j hj => by omega, Keep.refl _ _⟩
 case round =>
  obtain ⟨k, hk, rfl, hg, kk⟩ := hrel
  by_cases hlt : k < l.length
  ·have hi0 : (0 : Int) ≤ (k : Int) := by omega
   have hi1 : (k : Int) < (l.length : Int) := by omega
   have HM : Hid (l[k] ∈ l) := List.getElem_mem hlt
   have HA := Lib.hid (findB_at (P := P) k hlt hg.out)
   have HS := Lib.hid (hg.out.succ (P := P) hlt)
   obtain ⟨b, o, c, cs, e1, -, hb, r, hc⟩ := rList_at rGIndex_lawful (by decide) ((rList_lawful rGIndex_lawful).nix hl kk) k hlt
   simp only [List.cons.injEq, Value.slice.injEq, and_true] at e1
   obtain ⟨rfl, -, -⟩ := e1
   have ld := Whole.at (P := Tryz.prog) S_Index (rGIndex_lawful.len r) hc
   unfold Whole at ld
   clear hl hc
   generalize l[k] = x at HM HA HS r
   have hcall := HF.out wr x cs kk HM.out r
   clear r
   rcases hP : P x with _ | _
   ·rw [hP] at hcall
    have HP := Lib.hid hP
    have HC := Lib.hid hcall
    clear hP hcall
    go_wp2_with fail
    go_fit HC.out
    clear HC
    rintro e w2 ⟨rfl, k2⟩
    replace kk := kk.trans k2
    clear k2
    go_wp2_with fail
    go_roundw
    case rel => exact ⟨k + 1, by omega, by go_num, HS.out HP.out, kk⟩
    case measure => simp [intOf]; omega
   ·rw [hP] at hcall
    have HP := Lib.hid hP
    have HC := Lib.hid hcall
    clear hP hcall
    go_wp2_with fail
    go_fit HC.out
    clear HC
    rintro e w2 ⟨rfl, k2⟩
    replace kk := kk.trans k2
    clear k2
    go_wp2_with fail
    go_ret
    exact ⟨ret_int (HA.out HP.out).symm, kk⟩
  ·obtain rfl : k = l.length := by omega
   have HN := Lib.hid (findB_none (P := P) hg.out)
   go_wp2_with fail
   go_ret
   exact ⟨ret_int HN.out.symm, kk⟩
end
section
set_option maxHeartbeats 1000000 in
theorem ifint_c {p : Nat → Prop} (a : Option Addr) (n cap : Nat) (l : List Int) (fv : FuncId) (u : Value) (P : Int → Bool) (w : World) (hl : rList (rInt .i64) w p [.slice a n cap] l)
  (hE : ∀ args w, (callFunc fv args).run Tryz.prog w = .ok (.enter fv args) w) (hF : (∀ (w' : World) (x : Int), Keep Nix w w' → x ∈ l → Calls Tryz.prog fv #[.int .i64 x, u] w' fun e w'' => e = .returned (.bool (P x)) ∧ Keep Nix w' w'')) :
  Calls Tryz.prog 198 #[.slice a n cap, .func (.func fv) #[] #[u]] w fun e w' => e = .returned (.int .i64 (findB P l)) ∧ Keep Nix w w' := by
 obtain ⟨rfl, -, hf⟩ := rList_len hl
 have hfar : l.length ≤ 9223372036854775807 := by have := far_len; unfold maxLen at this; omega
 have HF := Lib.hid hF
 clear hf hF
 go_enter Tryz.func198, Tryz.ntmps198
 go_wp2_with fail
 go_loopw [8] (fun i wr => ∃ k : Nat, k ≤ l.length ∧ i = .int .i64 k ∧ Hid (NoneYet P l k) ∧ Keep Nix w wr) (fun i _ => l.length - (intOf i).toNat)
 case atStart => exact ⟨0, by omega, rfl, fun j hj => by omega, Keep.refl _ _⟩
 case round =>
  obtain ⟨k, hk, rfl, hg, kk⟩ := hrel
  by_cases hlt : k < l.length
  ·have hi0 : (0 : Int) ≤ (k : Int) := by omega
   have hi1 : (k : Int) < (l.length : Int) := by omega
   have HM : Hid (l[k] ∈ l) := List.getElem_mem hlt
   have HA := Lib.hid (findB_at (P := P) k hlt hg.out)
   have HS := Lib.hid (hg.out.succ (P := P) hlt)
   obtain ⟨b, o, rfl, hb, y, -⟩ := rInt_at ((rList_lawful (rInt_lawful _)).nix hl kk) k hlt
   clear hl
   generalize l[k] = x at HM HA HS y
   have hcall := HF.out wr x kk HM.out
   rcases hP : P x with _ | _
   ·rw [hP] at hcall
    have HP := Lib.hid hP
    have HC := Lib.hid hcall
    clear hP hcall
    go_wp2_with fail
    go_fit HC.out
    clear HC
    rintro e w2 ⟨rfl, k2⟩
    replace kk := kk.trans k2
    clear k2
    go_wp2_with fail
    go_roundw
    case rel => exact ⟨k + 1, by omega, by go_num, HS.out HP.out, kk⟩
    case measure => simp [intOf]; omega
   ·rw [hP] at hcall
    have HP := Lib.hid hP
    have HC := Lib.hid hcall
    clear hP hcall
    go_wp2_with fail
    go_fit HC.out
    clear HC
    rintro e w2 ⟨rfl, k2⟩
    replace kk := kk.trans k2
    clear k2
    go_wp2_with fail
    go_ret
    exact ⟨ret_int (HA.out HP.out).symm, kk⟩
  ·obtain rfl : k = l.length := by omega
   have HN := Lib.hid (findB_none (P := P) hg.out)
   go_wp2_with fail
   go_ret
   exact ⟨ret_int HN.out.symm, kk⟩
end
theorem cfint_c {p : Nat → Prop} (a : Option Addr) (n cap : Nat) (l : List Int) (fv : FuncId) (u : Value) (P : Int → Bool) (w : World) (hl : rList (rInt .i64) w p [.slice a n cap] l)
  (hE : ∀ args w, (callFunc fv args).run Tryz.prog w = .ok (.enter fv args) w) (hF : ∀ (w' : World) (x : Int), Keep Nix w w' → x ∈ l → Calls Tryz.prog fv #[.int .i64 x, u] w' fun e w'' => e = .returned (.bool (P x)) ∧ Keep Nix w' w'') :
  Calls Tryz.prog 166 #[.slice a n cap, .func (.func fv) #[] #[u]] w fun e w' => e = .returned (.bool (l.any P)) ∧ Keep Nix w w' := by
 have hany : decide (0 ≤ findB P l) = l.any P := by
  rcases findB_cases P l with ⟨h1, h2⟩ | ⟨k, h, h1, h2, -⟩
  ·rw [h1]
   have : l.any P = false := by rw [List.any_eq_false]; exact fun x hx => by simp [h2 x hx]
   rw [this]; rfl
  ·rw [h1]
   have : l.any P = true := by rw [List.any_eq_true]; exact ⟨_, List.getElem_mem h, h2⟩
   rw [this]; exact decide_eq_true (by omega)
 have HANY := Lib.hid hany
 clear hany
 go_enter Tryz.func166, Tryz.ntmps166
 go_wp2_with fail
 go_fit (ifint_c a n cap l fv u P w hl hE hF)
 rintro e w2 ⟨rfl, k2⟩
 go_wp2_with fail
 go_ret
 exact ⟨ret_bool HANY.out, k2⟩
end Go.Proofs.YtibaehlfpgipfaaGreat
namespace Go.Proofs.YtibaehlfpgipfaaGreat
open Go.RowKit
theorem owns_empty (w : World) (e sz base : Nat) (hb : base ≤ w.heap.size) : (w.alloc (.cells #[] e)).ownsRow base e sz (.slice (some ⟨w.heap.size, 0, none⟩) 0 0) 0 [] := by
 refine ⟨by simp, .inr ⟨w.heap.size, 0, #[], rfl, hb, heap_alloc_new _ _, Nat.le_refl _, Nat.zero_le _, by simp, by simp⟩⟩
theorem list0_run {P : Program} {t e n bytes : Nat} (S : SliceT P t e n bytes) (w : World) : (Instr.buildSlice t 0 #[]).run P w = .ok (.slice (some ⟨w.heap.size, 0, none⟩) 0 0) (w.alloc (.cells #[] e)) := by
 obtain ⟨i, z, hi, hz, hsz, hby, hzs⟩ := S.info
 unfold Instr.buildSlice
 simp [run_underlying S.under, sizeOf, typeInfo, hi, newRow, newObj, Instr.fill]
 have e : ∀ f : Nat → Value, Array.map f (Array.range 0) = #[] := fun f => by apply Array.eq_empty_of_size_eq_zero; simp
 rw [e]
 rfl
theorem rList_css {α : Type} {R : RD α} {w : World} {p : Nat → Prop} {a : Option Addr} {n cap : Nat} {l : List α} (h : rList R w p [.slice a n cap] l) : ∃ css, Lies w p a css.flatten ∧ Els R w p css l := by
 obtain ⟨a', cap', css, e, h1, h2, h3, h4, h5⟩ := h
 simp only [List.cons.injEq, Value.slice.injEq, and_true] at e
 obtain ⟨rfl, rfl, rfl⟩ := e
 exact ⟨css, h2, h1, h5⟩
theorem Els.flat_len {α : Type} {R : RD α} {sz : Nat} {w : World} {p : Nat → Prop} (L : Lawful R sz) {css : List (List Value)} {l : List α} (h : Els R w p css l) : css.flatten.length = l.length * sz := by
 have key : ∀ (css : List (List Value)), (∀ c ∈ css, c.length = sz) → css.flatten.length = css.length * sz := by
  intro css
  induction css with
  | nil => intro _; simp
  | cons c css ih =>
   intro hc
   rw [List.flatten_cons, List.length_append, ih (fun d hd => hc d (by simp [hd])), hc c (by simp), List.length_cons, Nat.add_mul]; omega
 rw [key css (fun c hc => by
  obtain ⟨i, hi, rfl⟩ := List.mem_iff_getElem.1 hc
  exact L.len (h.2 i _ (l[i]'(by rw [← h.1]; exact hi)) (List.getElem?_eq_getElem hi) (List.getElem?_eq_getElem _))), h.1]
theorem Els.ones {α : Type} {R : RD α} {w : World} {p : Nat → Prop} (L : ∀ {cs : List Value} {x : α}, R w p cs x → Go.Proofs.YtibaehlfpgipfaaGreat.ones cs = true) {css : List (List Value)} {l : List α} (h : Els R w p css l) : ∀ u ∈ css.flatten, u.oneCell' = true := by
 intro u hu
 obtain ⟨c, hc, hu⟩ := List.mem_flatten.1 hu
 obtain ⟨i, hi, rfl⟩ := List.mem_iff_getElem.1 hc
 have := L (h.2 i _ (l[i]'(by rw [← h.1]; exact hi)) (List.getElem?_eq_getElem hi) (List.getElem?_eq_getElem _))
 exact List.all_eq_true.1 this u hu
set_option maxHeartbeats 1000000 in
theorem clColumn_c {p : Nat → Prop} (a : Option Addr) (n cap : Nat) (l : List GColumn) (w : World) (hl : rList rGColumn w p [.slice a n cap] l) (hr : n * 32 ≤ 140737488355328) :
  Calls Tryz.prog 123 #[.slice a n cap] w fun e w' => ∃ a' cap' css, e = .returned (.slice a' n cap') ∧ w'.ownsRow w.heap.size 148 3 (.slice a' n cap') n css.flatten ∧ Els rGColumn w' p css l ∧ Keep Nix w w' := by
 obtain ⟨rfl, hcap, hf⟩ := rList_len hl
 have hfar : l.length ≤ 9223372036854775807 := by have := far_len; unfold maxLen at this; omega
 obtain ⟨css, lies, els⟩ := rList_css hl
 have hm : l.length ≤ maxLen := by have := far_len; omega
 have H1 := els.ones rGColumn_ones
 have hfl := els.flat_len rGColumn_lawful
 clear hl hf
 cases a with
 | none =>
  have h0 : l.length = 0 := by
   by_cases h : css.flatten = []
   ·rw [h] at hfl; simp at hfl; omega
   ·obtain ⟨b, off, hb, -⟩ := lies h; cases hb
  obtain rfl : l = [] := List.eq_nil_of_length_eq_zero h0
  obtain rfl : css = [] := List.eq_nil_of_length_eq_zero (by have := els.1; simpa using this)
  have hnil := fun (w' : World) (n c : Nat) => Lib.run_eql_slice_nil (P := Tryz.prog) w' 36 148 none n c 0 0 Tryz.underlying36
  clear lies H1 hfl
  go_enter Tryz.func123, Tryz.ntmps123
  go_wp2_with fail
  go_ret
  exact ⟨none, 0, [], rfl, World.ownsRow_nil _ _ _ _, Els.nil _ _ _, Keep.refl _ _⟩
 | some ad =>
  have hnil := fun (w' : World) => Lib.run_eql_slice_nil (P := Tryz.prog) w' 36 148 (some ad) l.length cap 0 0 Tryz.underlying36
  have hl0 := fun w' => list0_run T_lColumn w'
  have own0 := owns_empty w 148 3 w.heap.size (Nat.le_refl _)
  have lies2 := lies.keep ((Keep.refl Nix w).alloc (.cells #[] 148)) (fun _ _ h => h)
  have hsz : w.heap.size ≤ (w.alloc (.cells #[] 148)).heap.size := by simp
  clear lies
  go_enter Tryz.func123, Tryz.ntmps123
  go_wp2_with (at_builtin; refine wpl_append T_lColumn rfl (.tmp 5) (.tmp 6) rfl w.heap.size rfl own0 css.flatten rfl hfl lies2 H1 ?c1 ?c2 hsz ?_)
  case c1 => rw [Nat.zero_add]; exact hm
  case c2 => rw [Nat.zero_add]; exact hr
  intro a' cap' w2 own2 hg
  have kk : Keep Nix w w2 := ((Keep.refl Nix w).alloc (.cells #[] 148)).grown hg (fun k hk hlt => by simp [Value.ownBlock] at hk; omega)
  (try rw [Nat.zero_add, List.nil_append] at own2)
  clear own0 hg lies2
  go_wp2
  go_ret
  exact ⟨a', cap', css, by simp, own2, els.keep rGColumn_lawful kk (fun _ _ h => h), kk⟩
set_option maxHeartbeats 1000000 in
theorem clint_c {p : Nat → Prop} (a : Option Addr) (n cap : Nat) (l : List Int) (w : World) (hl : rList (rInt .i64) w p [.slice a n cap] l) (hr : n * 8 ≤ 140737488355328) :
  Calls Tryz.prog 124 #[.slice a n cap] w fun e w' => ∃ a' cap' css, e = .returned (.slice a' n cap') ∧ w'.ownsRow w.heap.size 3 1 (.slice a' n cap') n css.flatten ∧ Els (rInt .i64) w' p css l ∧ Keep Nix w w' := by
 obtain ⟨rfl, hcap, hf⟩ := rList_len hl
 have hfar : l.length ≤ 9223372036854775807 := by have := far_len; unfold maxLen at this; omega
 obtain ⟨css, lies, els⟩ := rList_css hl
 have hm : l.length ≤ maxLen := by have := far_len; omega
 have H1 := els.ones rInt_ones
 have hfl := els.flat_len (rInt_lawful _)
 clear hl hf
 cases a with
 | none =>
  have h0 : l.length = 0 := by
   by_cases h : css.flatten = []
   ·rw [h] at hfl; simp at hfl; omega
   ·obtain ⟨b, off, hb, -⟩ := lies h; cases hb
  obtain rfl : l = [] := List.eq_nil_of_length_eq_zero h0
  obtain rfl : css = [] := List.eq_nil_of_length_eq_zero (by have := els.1; simpa using this)
  have hnil := fun (w' : World) (n c : Nat) => Lib.run_eql_slice_nil (P := Tryz.prog) w' 37 3 none n c 0 0 Tryz.underlying37
  clear lies H1 hfl
  go_enter Tryz.func124, Tryz.ntmps124
  go_wp2_with fail
  go_ret
  exact ⟨none, 0, [], rfl, World.ownsRow_nil _ _ _ _, Els.nil _ _ _, Keep.refl _ _⟩
 | some ad =>
  have hnil := fun (w' : World) => Lib.run_eql_slice_nil (P := Tryz.prog) w' 37 3 (some ad) l.length cap 0 0 Tryz.underlying37
  have hl0 := fun w' => list0_run T_lint w'
  have own0 := owns_empty w 3 1 w.heap.size (Nat.le_refl _)
  have lies2 := lies.keep ((Keep.refl Nix w).alloc (.cells #[] 3)) (fun _ _ h => h)
  have hsz : w.heap.size ≤ (w.alloc (.cells #[] 3)).heap.size := by simp
  clear lies
  go_enter Tryz.func124, Tryz.ntmps124
  go_wp2_with (at_builtin; refine wpl_append T_lint rfl (.tmp 5) (.tmp 6) rfl w.heap.size rfl own0 css.flatten rfl hfl lies2 H1 ?c1 ?c2 hsz ?_)
  case c1 => rw [Nat.zero_add]; exact hm
  case c2 => rw [Nat.zero_add]; exact hr
  intro a' cap' w2 own2 hg
  have kk : Keep Nix w w2 := ((Keep.refl Nix w).alloc (.cells #[] 3)).grown hg (fun k hk hlt => by simp [Value.ownBlock] at hk; omega)
  (try rw [Nat.zero_add, List.nil_append] at own2)
  clear own0 hg lies2
  go_wp2
  go_ret
  exact ⟨a', cap', css, by simp, own2, els.keep (rInt_lawful _) kk (fun _ _ h => h), kk⟩
end Go.Proofs.YtibaehlfpgipfaaGreat
namespace Go.Proofs.YtibaehlfpgipfaaGreat
open Go.RowKit
theorem int_eq_dec (x y : Int) : (x == y) = decide (x = y) := by rw [Bool.eq_iff_iff]; simp
theorem f_rightTable1 {p : Nat → Prop} (x : GColumn) (cs : List Value) (b : Nat) (y : List UInt8) (w : World) (hx : rGColumn w p cs x) (hb : b < w.heap.size) (hc : w.cell? ⟨b, 0, none⟩ = some (.string (strB y))) :
  Calls Tryz.prog 164 #[.agg cs.toArray, .pointer (some ⟨b, 0, none⟩)] w fun e w' => e = .returned (.bool (decide (x.fName = y))) ∧ Keep Nix w w' := by
 obtain ⟨rfl, -⟩ := rGColumn_open hx
 have kk : Keep Nix w (w.alloc (.cells #[.string (strB x.fName), .int .i64 x.fKind, .bool x.fNull] 148)) := (Keep.refl Nix w).alloc _
 have hc' : (w.alloc (.cells #[.string (strB x.fName), .int .i64 x.fKind, .bool x.fNull] 148)).cell? ⟨b, 0, none⟩ = some (.string (strB y)) := (kk.cell (p := ⟨b, 0, none⟩) hb id).trans hc
 have HE := Lib.hid (strB_eq x.fName y)
 clear hx hc
 go_enter Tryz.func164, Tryz.ntmps164
 go_wp2
 go_ret
 exact ⟨ret_bool (by first | exact HE.out | simp), kk⟩
theorem f_byID1 {p : Nat → Prop} (x : GTable) (cs : List Value) (b : Nat) (y : Int) (w : World) (hx : rGTable w p cs x) (hb : b < w.heap.size) (hc : w.cell? ⟨b, 0, none⟩ = some (.int .i64 y)) :
  Calls Tryz.prog 194 #[.agg cs.toArray, .pointer (some ⟨b, 0, none⟩)] w fun e w' => e = .returned (.bool (decide (x.fID = y))) ∧ Keep Nix w w' := by
 obtain ⟨aColumns, cColumns, aKey, cKey, rfl, -⟩ := rGTable_open hx
 have kk : Keep Nix w (w.alloc (.cells #[.int .i64 x.fID, .string (strB x.fName), .slice aColumns x.fColumns.length cColumns, .slice aKey x.fKey.length cKey] 39)) := (Keep.refl Nix w).alloc _
 have hc' : (w.alloc (.cells #[.int .i64 x.fID, .string (strB x.fName), .slice aColumns x.fColumns.length cColumns, .slice aKey x.fKey.length cKey] 39)).cell? ⟨b, 0, none⟩ = some (.int .i64 y) := (kk.cell (p := ⟨b, 0, none⟩) hb id).trans hc
 have HE := Lib.hid (int_eq_dec x.fID y)
 clear hx hc
 go_enter Tryz.func194, Tryz.ntmps194
 go_wp2
 go_ret
 exact ⟨ret_bool (by first | exact HE.out | simp), kk⟩
theorem f_Table1 {p : Nat → Prop} (x : GTable) (cs : List Value) (b : Nat) (y : List UInt8) (w : World) (hx : rGTable w p cs x) (hb : b < w.heap.size) (hc : w.cell? ⟨b, 0, none⟩ = some (.string (strB y))) :
  Calls Tryz.prog 161 #[.agg cs.toArray, .pointer (some ⟨b, 0, none⟩)] w fun e w' => e = .returned (.bool (decide (x.fName = y))) ∧ Keep Nix w w' := by
 obtain ⟨aColumns, cColumns, aKey, cKey, rfl, -⟩ := rGTable_open hx
 have kk : Keep Nix w (w.alloc (.cells #[.int .i64 x.fID, .string (strB x.fName), .slice aColumns x.fColumns.length cColumns, .slice aKey x.fKey.length cKey] 39)) := (Keep.refl Nix w).alloc _
 have hc' : (w.alloc (.cells #[.int .i64 x.fID, .string (strB x.fName), .slice aColumns x.fColumns.length cColumns, .slice aKey x.fKey.length cKey] 39)).cell? ⟨b, 0, none⟩ = some (.string (strB y)) := (kk.cell (p := ⟨b, 0, none⟩) hb id).trans hc
 have HE := Lib.hid (strB_eq x.fName y)
 clear hx hc
 go_enter Tryz.func161, Tryz.ntmps161
 go_wp2
 go_ret
 exact ⟨ret_bool (by first | exact HE.out | simp), kk⟩
theorem f_find1 {p : Nat → Prop} (x : GIndex) (cs : List Value) (b : Nat) (y : List UInt8) (w : World) (hx : rGIndex w p cs x) (hb : b < w.heap.size) (hc : w.cell? ⟨b, 0, none⟩ = some (.string (strB y))) :
  Calls Tryz.prog 168 #[.agg cs.toArray, .pointer (some ⟨b, 0, none⟩)] w fun e w' => e = .returned (.bool (decide (x.fName = y))) ∧ Keep Nix w w' := by
 obtain ⟨aColumns, cColumns, rfl, -⟩ := rGIndex_open hx
 have kk : Keep Nix w (w.alloc (.cells #[.int .i64 x.fID, .int .i64 x.fTable, .string (strB x.fName), .slice aColumns x.fColumns.length cColumns, .bool x.fUnique, .int .i64 x.fState, .bool x.fBad] 41)) := (Keep.refl Nix w).alloc _
 have hc' : (w.alloc (.cells #[.int .i64 x.fID, .int .i64 x.fTable, .string (strB x.fName), .slice aColumns x.fColumns.length cColumns, .bool x.fUnique, .int .i64 x.fState, .bool x.fBad] 41)).cell? ⟨b, 0, none⟩ = some (.string (strB y)) := (kk.cell (p := ⟨b, 0, none⟩) hb id).trans hc
 have HE := Lib.hid (strB_eq x.fName y)
 clear hx hc
 go_enter Tryz.func168, Tryz.ntmps168
 go_wp2
 go_ret
 exact ⟨ret_bool (by first | exact HE.out | simp), kk⟩
theorem f_Step1 {p : Nat → Prop} (x : GIndex) (cs : List Value) (b : Nat) (y : Int) (w : World) (hx : rGIndex w p cs x) (hb : b < w.heap.size) (hc : w.cell? ⟨b, 0, none⟩ = some (.int .i64 y)) :
  Calls Tryz.prog 110 #[.agg cs.toArray, .pointer (some ⟨b, 0, none⟩)] w fun e w' => e = .returned (.bool (decide (x.fID = y))) ∧ Keep Nix w w' := by
 obtain ⟨aColumns, cColumns, rfl, -⟩ := rGIndex_open hx
 have kk : Keep Nix w (w.alloc (.cells #[.int .i64 x.fID, .int .i64 x.fTable, .string (strB x.fName), .slice aColumns x.fColumns.length cColumns, .bool x.fUnique, .int .i64 x.fState, .bool x.fBad] 41)) := (Keep.refl Nix w).alloc _
 have hc' : (w.alloc (.cells #[.int .i64 x.fID, .int .i64 x.fTable, .string (strB x.fName), .slice aColumns x.fColumns.length cColumns, .bool x.fUnique, .int .i64 x.fState, .bool x.fBad] 41)).cell? ⟨b, 0, none⟩ = some (.int .i64 y) := (kk.cell (p := ⟨b, 0, none⟩) hb id).trans hc
 have HE := Lib.hid (int_eq_dec x.fID y)
 clear hx hc
 go_enter Tryz.func110, Tryz.ntmps110
 go_wp2
 go_ret
 exact ⟨ret_bool (by first | exact HE.out | simp), kk⟩
theorem f_rightTable2 {p : Nat → Prop} (l : List GColumn) (a : Option Addr) (n cap : Nat) (b : Nat) (k : Int) (w : World) (hl : rList rGColumn w p [.slice a n cap] l) (hc : w.cell? ⟨b, 2, none⟩ = some (.slice a n cap)) (h0 : 0 ≤ k) (h1 : k < l.length) :
  Calls Tryz.prog 167 #[.int .i64 k, .pointer (some ⟨b, 0, none⟩)] w fun e w' => e = .returned (.bool ((l[k.toNat]'(by omega)).fNull)) ∧ Keep Nix w w' := by
 obtain ⟨rfl, hcap, hf⟩ := rList_len hl
 obtain ⟨j, rfl⟩ : ∃ j : Nat, k = (j : Int) := ⟨k.toNat, by omega⟩
 have hj : j < l.length := by omega
 simp only [Int.toNat_natCast]
 obtain ⟨b1, o, c, cs, e1, -, hb1, r, hcell⟩ := rList_at rGColumn_lawful (by decide) hl j hj
 simp only [List.cons.injEq, Value.slice.injEq, and_true] at e1
 obtain ⟨rfl, -, -⟩ := e1
 obtain ⟨rfl, -⟩ := rGColumn_open r
 have x2 := hcell 2 _ rfl
 clear hl hf r hcell hcap
 generalize l[j] = z at x2
 go_enter Tryz.func167, Tryz.ntmps167
 go_wp2
 go_ret
 exact ⟨rfl, Keep.refl _ _⟩
end Go.Proofs.YtibaehlfpgipfaaGreat
namespace Go.Proofs.YtibaehlfpgipfaaGreat
open Go.RowKit
/-! ### plainly -/
def allB (n : Nat) (Q : Nat → Bool) : Bool := decide (∀ j, j < n → Q j = true)
theorem allB_bad {n : Nat} {Q : Nat → Bool} (k : Nat) (h : k < n) (hq : Q k = false) : allB n Q = false := by
 unfold allB; rw [decide_eq_false_iff_not]; intro ha; rw [ha k h] at hq; cases hq
theorem allB_good {n : Nat} {Q : Nat → Bool} (h : ∀ j, j < n → Q j = true) : allB n Q = true := decide_eq_true h
def colOk (C : List GColumn) (i : Nat) (c : GColumn) : Bool := nameB c.fName && (decide (c.fKind = 1 ∨ c.fKind = 2) && decide (findB (fun o => decide (o.fName = c.fName)) C = (i : Int)))
def colQ (C : List GColumn) (i : Nat) : Bool := match C[i]? with
 | some c => colOk C i c
 | none => true
theorem colQ_at {C : List GColumn} {i : Nat} (h : i < C.length) : colQ C i = colOk C i C[i] := by unfold colQ; rw [List.getElem?_eq_getElem h]
def nullAt (C : List GColumn) (k : Int) : Bool := match C[k.toNat]? with
 | some c => c.fNull
 | none => false
theorem nullAt_at {C : List GColumn} {k : Int} (h0 : 0 ≤ k) (h1 : k < C.length) : nullAt C k = (C[k.toNat]'(by omega)).fNull := by unfold nullAt; rw [List.getElem?_eq_getElem (by omega)]
def tableB (t : GTable) : Bool := nameB t.fName && (decide (1 ≤ t.fColumns.length ∧ t.fColumns.length ≤ 6) && (placesB t.fColumns.length t.fKey && (allB t.fColumns.length (colQ t.fColumns) && !(t.fKey.any (nullAt t.fColumns)))))
/-! ### the program's -/
section
attribute [local go_sem ↓] ldz_Column stz_Column
set_option maxRecDepth 100000 in
set_option maxHeartbeats 8000000 in
theorem srightTable_c {p : Nat → Prop} (t : GTable) (cs : List Value) (w : World) (ht : rGTable w p cs t) : Calls Tryz.prog 106 #[.agg cs.toArray] w fun e w' => e = .returned (.bool (tableB t)) ∧ Keep Nix w w' := by
 obtain ⟨aC, cC, aK, cK, rfl, -, hn, hC, hK, -⟩ := rGTable_open ht
 have kk : Keep Nix w (w.alloc (.cells #[.int .i64 t.fID, .string (strB t.fName), .slice aC t.fColumns.length cC, .slice aK t.fKey.length cK] 39)) := (Keep.refl Nix w).alloc _
 have row0 : RowIs (w.alloc (.cells #[.int .i64 t.fID, .string (strB t.fName), .slice aC t.fColumns.length cC, .slice aK t.fKey.length cK] 39)) w.heap.size 39 [.int .i64 t.fID, .string (strB t.fName), .slice aC t.fColumns.length cC, .slice aK t.fKey.length cK] := RowIs.alloc w _ _
 clear ht
 have hnC := (rList_len hC).2.2
 have hmC : t.fColumns.length ≤ 140737488351232 := by have := far_len; omega
 clear hnC
 cases h1 : nameB t.fName with
 | false =>
  have HR : Hid (tableB t = false) := by show _ = _; unfold tableB; rw [h1]; rfl
  have HC := Lib.hid (fun w' => named_s t.fName w' hn)
  rw [h1] at HC
  clear h1
  go_enter Tryz.func106, Tryz.ntmps106
  go_wp2_with fail
  go_fit (HC.out _)
  rintro e w1 ⟨rfl, rfl⟩
  go_wp2_with fail
  go_ret
  exact ⟨ret_bool HR.out.symm, kk⟩
 | true =>
 have HC := Lib.hid (fun w' => named_s t.fName w' hn)
 rw [h1] at HC
 have HT := Lib.hid h1
 clear h1
 rcases Nat.lt_or_ge t.fColumns.length 1 with h2 | h2
 ·have HR : Hid (tableB t = false) := by show _ = _; unfold tableB; rw [decide_eq_false (by omega : ¬ (1 ≤ t.fColumns.length ∧ t.fColumns.length ≤ 6))]; simp
  go_enter Tryz.func106, Tryz.ntmps106
  go_wp2_with fail
  go_fit (HC.out _)
  rintro e w1 ⟨rfl, rfl⟩
  go_wp2_with fail
  go_ret
  exact ⟨ret_bool HR.out.symm, kk⟩
 rcases Nat.lt_or_ge 6 t.fColumns.length with h3 | h3
 ·have HR : Hid (tableB t = false) := by show _ = _; unfold tableB; rw [decide_eq_false (by omega : ¬ (1 ≤ t.fColumns.length ∧ t.fColumns.length ≤ 6))]; simp
  go_enter Tryz.func106, Tryz.ntmps106
  go_wp2_with fail
  go_fit (HC.out _)
  rintro e w1 ⟨rfl, rfl⟩
  go_wp2_with fail
  go_ret
  exact ⟨ret_bool HR.out.symm, kk⟩
 have HL := Lib.hid (decide_eq_true (by omega : 1 ≤ t.fColumns.length ∧ t.fColumns.length ≤ 6))
 have hP := splaces_c aK t.fKey.length cK t.fKey t.fColumns.length _ ((rList_lawful (rInt_lawful _)).nix hK kk)
 cases h4 : placesB t.fColumns.length t.fKey with
 | false =>
  have HR : Hid (tableB t = false) := by show _ = _; unfold tableB; rw [h4]; simp
  rw [h4] at hP
  have HP := Lib.hid hP
  clear h4 hP
  go_enter Tryz.func106, Tryz.ntmps106
  go_wp2_with fail
  go_fit (HC.out _)
  rintro e w1 ⟨rfl, rfl⟩
  go_wp2_with fail
  go_fit HP.out
  rintro e w1 ⟨rfl, k1⟩
  go_wp2_with fail
  go_ret
  exact ⟨ret_bool HR.out.symm, kk.trans k1⟩
 | true =>
 rw [h4] at hP
 have HP := Lib.hid hP
 have H4 := Lib.hid h4
 clear h4 hP
 go_enter Tryz.func106, Tryz.ntmps106
 go_wp2_with fail
 go_fit (HC.out _)
 rintro e w1 ⟨rfl, rfl⟩
 go_wp2_with fail
 go_fit HP.out
 clear HP HC
 rintro e w1 ⟨rfl, k1⟩
 replace row0 := row0.keep k1 id
 replace kk := kk.trans k1
 clear k1
 have fin : allB t.fColumns.length (colQ t.fColumns) = false → tableB t = false := fun h => by unfold tableB; rw [h]; simp
 have FIN := Lib.hid fin
 clear fin
 have x2 := row0.cell 2
 simp only [List.getElem?_cons_succ, List.getElem?_cons_zero] at x2
 go_wp2_with fail
 clear x2
 go_loopw [34] (fun i wr => ∃ k : Nat, k ≤ t.fColumns.length ∧ i = .int .i64 k ∧ Hid (∀ j, j < k → colQ t.fColumns j = true) ∧ RowIs wr w.heap.size 39 [.int .i64 t.fID, .string (strB t.fName), .slice aC t.fColumns.length cC, .slice aK t.fKey.length cK] ∧ Keep Nix w wr) (fun i _ => t.fColumns.length - (intOf i).toNat)
 case atStart => exact ⟨0, by omega, rfl, fun j hj => by omega, row0, kk⟩
 case round =>
  clear row0 kk
  obtain ⟨k, hk, rfl, hg, row0, kk⟩ := hrel
  by_cases hlt : k < t.fColumns.length
  ·have hi0 : (0 : Int) ≤ (k : Int) := by omega
   have hi1 : (k : Int) < (t.fColumns.length : Int) := by omega
   obtain ⟨b, o, c, cs, e1, -, hb, r, hc⟩ := rList_at rGColumn_lawful (by decide) ((rList_lawful rGColumn_lawful).nix hC kk) k hlt
   simp only [List.cons.injEq, Value.slice.injEq, and_true] at e1
   obtain ⟨rfl, -, -⟩ := e1
   have HQ := Lib.hid (colQ_at hlt)
   have HB : Hid (colQ t.fColumns k = false → allB t.fColumns.length (colQ t.fColumns) = false) := fun h => allB_bad k hlt h
   generalize t.fColumns[k] = x at r HQ
   obtain ⟨rfl, hx0, hx1, -⟩ := rGColumn_open r
   have ld := Whole.at (P := Tryz.prog) S_Column rfl hc
   unfold Whole at ld
   have hst := store_run (P := Tryz.prog) (cs := [.string (strB x.fName), .int .i64 x.fKind, .bool x.fNull]) S_Column (RowIs.alloc wr #[.string { data := #[] }, .int .i64 0, .bool false] 148) rfl rfl rfl
   have rowC := (RowIs.alloc wr #[.string { data := #[] }, .int .i64 0, .bool false] 148).setRow [.string (strB x.fName), .int .i64 x.fKind, .bool x.fNull]
   have kV : Keep Nix wr ((wr.alloc (.cells #[.string { data := #[] }, .int .i64 0, .bool false] 148)).setRow wr.heap.size [.string (strB x.fName), .int .i64 x.fKind, .bool x.fNull].toArray) := ((Keep.refl Nix wr).alloc (.cells #[.string { data := #[] }, .int .i64 0, .bool false] 148)).setRow (fun h => absurd h (Nat.lt_irrefl _)) _
   replace row0 := row0.keep kV id
   replace kk := kk.trans kV
   clear kV r hc
   have y0 := rowC.cell 0
   simp only [List.getElem?_cons_zero] at y0
   go_wp2_with fail
   clear ld hst y0
   go_fit (named_s x.fName _ hx0)
   rintro e w1 ⟨rfl, rfl⟩
   obtain ⟨bn, hbn⟩ : ∃ b, Hid (nameB x.fName = b) := ⟨_, rfl⟩
   rw [hbn.out]
   cases bn with
   | false =>
    go_wp2_with fail
    go_ret
    exact ⟨ret_bool (FIN.out (HB.out (by rw [HQ.out]; unfold colOk; rw [hbn.out]; rfl))).symm, kk⟩
   | true =>
   have y1 := rowC.cell 1
   simp only [List.getElem?_cons_succ, List.getElem?_cons_zero] at y1
   by_cases hkd : x.fKind = 1 ∨ x.fKind = 2
   rotate_left
   ·have t1 : (x.fKind != 1) = true := by simp; omega
    have t2 : (x.fKind != 2) = true := by simp; omega
    have HK := Lib.hid (decide_eq_false hkd)
    clear hkd
    go_wp2_with fail
    go_ret
    exact ⟨ret_bool (FIN.out (HB.out (by rw [HQ.out]; unfold colOk; rw [HK.out]; simp))).symm, kk⟩
   have HK := Lib.hid (decide_eq_true hkd)
   have x2 := row0.cell 2
   simp only [List.getElem?_cons_succ, List.getElem?_cons_zero] at x2
   have hF := Lib.hid (ifColumn_c (p := p) (some ⟨b, o, none⟩) t.fColumns.length cC t.fColumns 164 (.pointer (some ⟨wr.heap.size, 0, none⟩)) (fun o => decide (o.fName = x.fName)) _
    ((rList_lawful rGColumn_lawful).nix hC kk) Tryz.call164 (fun w' z cs' k' _ hz => f_rightTable1 z cs' wr.heap.size x.fName w' hz (Nat.lt_of_lt_of_le rowC.lt k'.size) ((rowC.keep k' id).cell 0)))
   obtain ⟨fi, hfi⟩ : ∃ f, Hid (findB (fun o => decide (o.fName = x.fName)) t.fColumns = f) := ⟨_, rfl⟩
   rw [hfi.out] at hF
   have HQ2 : Hid (colQ t.fColumns k = decide (fi = (k : Int))) := by show _ = _; rw [HQ.out]; unfold colOk; rw [hbn.out, HK.out, hfi.out]; rfl
   clear HQ HK
   have t3 : (x.fKind != 1) = false ∨ (x.fKind != 1) = true ∧ (x.fKind != 2) = false := by simp; omega
   clear hkd
   rcases t3 with t3 | ⟨t3, t4⟩
   all_goals
    go_wp2_with fail
    go_fit hF.out
    rintro e w2 ⟨rfl, k2⟩
    replace row0 := row0.keep k2 id
    replace kk := kk.trans k2
    clear k2 y1 x2 hF rowC
    rcases test_eq fi (k : Int) with ⟨t, e⟩ | ⟨t, e⟩
    ·have t' : (fi != (k : Int)) = false := by simp [e.out]
     go_wp2_with fail
     go_roundw
     case rel => exact ⟨k + 1, by omega, by go_num, fun j hj => by
      rcases Nat.lt_succ_iff_lt_or_eq.1 hj with h | rfl
      ·exact hg.out j h
      ·rw [HQ2.out, e.out]; exact decide_eq_true rfl, row0, kk⟩
     case measure => simp [intOf]; omega
    ·have t' : (fi != (k : Int)) = true := by simp [e]
     have E := Lib.hid e
     clear e
     go_wp2_with fail
     go_ret
     exact ⟨ret_bool (FIN.out (HB.out (by rw [HQ2.out]; exact decide_eq_false E.out))).symm, kk⟩
  ·obtain rfl : k = t.fColumns.length := by omega
   have HA : Hid (allB t.fColumns.length (colQ t.fColumns) = true) := allB_good hg.out
   have x2 := row0.cell 2
   have x3 := row0.cell 3
   simp only [List.getElem?_cons_succ, List.getElem?_cons_zero] at x2 x3
   have hgood : ∀ z ∈ t.fKey, 0 ≤ z ∧ z < (t.fColumns.length : Int) := fun z hz => by
    have := (of_decide_eq_true H4.out).1.1 z hz; omega
   have hF := Lib.hid (cfint_c (p := p) aK t.fKey.length cK t.fKey 167 (.pointer (some ⟨w.heap.size, 0, none⟩)) (nullAt t.fColumns) wr ((rList_lawful (rInt_lawful _)).nix hK kk) Tryz.call167
    (fun w' z k' hz => by
     have h2 := hgood z hz
     have := f_rightTable2 (p := p) t.fColumns aC t.fColumns.length cC w.heap.size z w' ((rList_lawful rGColumn_lawful).nix hC (kk.trans k')) ((row0.keep k' id).cell 2) h2.1 h2.2
     rw [← nullAt_at h2.1 h2.2] at this
     exact this))
   have HR : Hid (tableB t = !(t.fKey.any (nullAt t.fColumns))) := by
    show _ = _
    unfold tableB
    rw [HT.out, HL.out, H4.out, HA.out]; rfl
   clear hgood HA HL H4 HT
   go_wp2_with fail
   go_fit hF.out
   rintro e w2 ⟨rfl, k2⟩
   replace kk := kk.trans k2
   clear k2 hF x2 x3
   go_wp2_with fail
   go_ret
   exact ⟨ret_bool HR.out.symm, kk⟩
end
end Go.Proofs.YtibaehlfpgipfaaGreat
namespace Go.Proofs.YtibaehlfpgipfaaGreat
open Go.RowKit
theorem RowIs.alloc_at (w : World) (n : Nat) (h : w.heap.size = n) (cs : Array Value) (e : TypeId) : RowIs (w.alloc (.cells cs e)) n e cs.toList := by
 subst h; exact RowIs.alloc w cs e
/-! ### what is found -/
def firstB {α : Type} (P : α → Bool) (l : List α) (z : α) : α × Bool := match l.find? P with
 | some x => (x, true)
 | none => (z, false)
theorem firstB_none {α : Type} {P : α → Bool} {l : List α} {z : α} (h : ∀ x ∈ l, P x = false) : firstB P l z = (z, false) := by
 have : l.find? P = none := List.find?_eq_none.2 (fun x hx => by simp [h x hx])
 unfold firstB; rw [this]
theorem firstB_some {α : Type} {P : α → Bool} {l : List α} {z : α} (k : Nat) (h : k < l.length) (h1 : P l[k] = true) (h2 : ∀ j (hj : j < k), P (l[j]'(by omega)) = false) : firstB P l z = (l[k], true) := by
 have : l.find? P = some l[k] := by
  rw [List.find?_eq_some_iff_getElem]
  exact ⟨h1, k, h, rfl, fun j hj => by simp [h2 j hj]⟩
 unfold firstB; rw [this]
def FoundIn {α : Type} (R : RD α) (p : Nat → Prop) (w : World) (y : α × Bool) (e : Ending) (w' : World) : Prop := ∃ cs : List Value, e = .returned (.tuple #[.agg cs.toArray, .bool y.2]) ∧ R w' p cs y.1 ∧ Keep Nix w w'
theorem rList_nil {α : Type} {R : RD α} (w : World) (p : Nat → Prop) (a : Option Addr) (cap : Nat) : rList R w p [.slice a 0 cap] [] :=
 ⟨a, cap, [], rfl, rfl, Lies.nil _ _ _, Nat.zero_le _, Nat.zero_le _, fun i c x h => by simp at h⟩
def zTab : GTable := ⟨0, [], [], []⟩
theorem zTab_r (w : World) (p : Nat → Prop) : rGTable w p [.int .i64 0, .string { data := #[] }, .slice none 0 0, .slice none 0 0] zTab :=
 rGTable_mk (x := zTab) w p (by unfold isI64; simp [zTab]) (by simp [zTab]) (rList_nil _ _ _ _) (rList_nil _ _ _ _)
section
attribute [local go_sem ↓] ldz_Table stz_Table
set_option maxRecDepth 100000 in
set_option maxHeartbeats 4000000 in
theorem byID_c {p : Nat → Prop} (c : GCatalog) (cs : List Value) (d : Int) (w : World) (hc : rGCatalog w p cs c) (hp : ∀ b, p b → b < w.heap.size) :
  Calls Tryz.prog 144 #[.agg cs.toArray, .int .i64 d] w (FoundIn rGTable p w (firstB (fun t => decide (t.fID = d)) c.fTables zTab)) := by
 obtain ⟨aT, cT, aX, cX, rfl, -, -, hT, -, -⟩ := rGCatalog_open hc
 have nT := (rList_len hT).2.2
 have mT : c.fTables.length ≤ 140737488351232 := by have := far_len; omega
 clear nT hc
 have row0 : RowIs (((w.alloc (.cells #[.int .i64 c.fVersion, .int .i64 c.fNext, .slice aT c.fTables.length cT, .slice aX c.fIndexes.length cX] 50)).alloc (.cells #[.int .i64 d] 3)).alloc (.cells #[.int .i64 0, .string { data := #[] }, .slice none 0 0, .slice none 0 0] 39)) w.heap.size 50 [.int .i64 c.fVersion, .int .i64 c.fNext, .slice aT c.fTables.length cT, .slice aX c.fIndexes.length cX] := ((RowIs.alloc w _ _).keep ((Keep.refl Nix _).alloc _) id).keep ((Keep.refl Nix _).alloc _) id
 have rowI : RowIs (((w.alloc (.cells #[.int .i64 c.fVersion, .int .i64 c.fNext, .slice aT c.fTables.length cT, .slice aX c.fIndexes.length cX] 50)).alloc (.cells #[.int .i64 d] 3)).alloc (.cells #[.int .i64 0, .string { data := #[] }, .slice none 0 0, .slice none 0 0] 39)) (w.heap.size + 1) 3 [.int .i64 d] := (RowIs.alloc_at (w.alloc (.cells #[.int .i64 c.fVersion, .int .i64 c.fNext, .slice aT c.fTables.length cT, .slice aX c.fIndexes.length cX] 50)) _ (by simp) #[.int .i64 d] 3).keep ((Keep.refl Nix _).alloc _) id
 have rowR : RowIs (((w.alloc (.cells #[.int .i64 c.fVersion, .int .i64 c.fNext, .slice aT c.fTables.length cT, .slice aX c.fIndexes.length cX] 50)).alloc (.cells #[.int .i64 d] 3)).alloc (.cells #[.int .i64 0, .string { data := #[] }, .slice none 0 0, .slice none 0 0] 39)) (w.heap.size + 1 + 1) 39 [.int .i64 0, .string { data := #[] }, .slice none 0 0, .slice none 0 0] := RowIs.alloc_at ((w.alloc (.cells #[.int .i64 c.fVersion, .int .i64 c.fNext, .slice aT c.fTables.length cT, .slice aX c.fIndexes.length cX] 50)).alloc (.cells #[.int .i64 d] 3)) _ (by simp) #[.int .i64 0, .string { data := #[] }, .slice none 0 0, .slice none 0 0] 39
 have kk : Keep Nix w (((w.alloc (.cells #[.int .i64 c.fVersion, .int .i64 c.fNext, .slice aT c.fTables.length cT, .slice aX c.fIndexes.length cX] 50)).alloc (.cells #[.int .i64 d] 3)).alloc (.cells #[.int .i64 0, .string { data := #[] }, .slice none 0 0, .slice none 0 0] 39)) := (((Keep.refl Nix w).alloc _).alloc _).alloc _
 have x2 := row0.cell 2
 simp only [List.getElem?_cons_succ, List.getElem?_cons_zero] at x2
 have hF := Lib.hid (ifTable_c (p := p) aT c.fTables.length cT c.fTables 194 (.pointer (some ⟨w.heap.size + 1, 0, none⟩)) (fun t => decide (t.fID = d)) _
  ((rList_lawful rGTable_lawful).nix hT kk) Tryz.call194 (fun w' z cs' k' _ hz => f_byID1 z cs' (w.heap.size + 1) d w' hz (Nat.lt_of_lt_of_le rowI.lt k'.size) ((rowI.keep k' id).cell 0)))
 rcases findB_cases (fun t : GTable => decide (t.fID = d)) c.fTables with ⟨h1, h2⟩ | ⟨k, hk, h1, h2, h3⟩
 ·rw [h1] at hF
  have hR := Lib.hid (firstB_none (z := zTab) h2)
  have hbd : ∀ w', (Instr.build 39 #[]).run Tryz.prog w' = .ok (.agg #[.int .i64 0, .string { data := #[] }, .slice none 0 0, .slice none 0 0]) w' := fun w' => by kernel_rfl
  clear h1 h2
  go_enter Tryz.func144, Tryz.ntmps144
  go_wp2_with fail
  go_fit hF.out
  rintro e w1 ⟨rfl, k1⟩
  replace rowR := rowR.keep k1 id
  replace kk := kk.trans k1
  have hst := store_run (P := Tryz.prog) (cs := [.int .i64 0, .string { data := #[] }, .slice none 0 0, .slice none 0 0]) S_Table rowR rfl rfl rfl
  have rowF := rowR.setRow [.int .i64 0, .string { data := #[] }, .slice none 0 0, .slice none 0 0]
  have kF := kk.setRow (g := w.heap.size + 1 + 1) (fun h => by omega) [.int .i64 0, .string { data := #[] }, .slice none 0 0, .slice none 0 0].toArray
  clear k1 hF x2 rowI row0 rowR kk
  go_wp2_with fail
  refine bodyPost_ret (results_cell_row2 (by rfl) _ _ _ _ _ _ _ (by rfl) rowF Tryz.underlying39 (by rfl) S_Table.info) rfl ?_
  rw [hR.out]
  exact ⟨_, rfl, zTab_r _ _, kF⟩
 ·rw [h1] at hF
  have hR := Lib.hid (firstB_some (P := fun t : GTable => decide (t.fID = d)) (z := zTab) k hk h2 h3)
  have hi0 : (0 : Int) ≤ (k : Int) := by omega
  have hi1 : (k : Int) < (c.fTables.length : Int) := by omega
  clear h1 h2 h3
  go_enter Tryz.func144, Tryz.ntmps144
  go_wp2_with fail
  go_fit hF.out
  rintro e w1 ⟨rfl, k1⟩
  replace rowR := rowR.keep k1 id
  replace row0 := row0.keep k1 id
  replace kk := kk.trans k1
  obtain ⟨b, o, cc, cs, e1, -, hb, r, hcl⟩ := rList_at rGTable_lawful (by decide) ((rList_lawful rGTable_lawful).nix hT kk) k hk
  simp only [List.cons.injEq, Value.slice.injEq, and_true] at e1
  obtain ⟨rfl, -, -⟩ := e1
  have ld := Whole.at (P := Tryz.prog) S_Table (rGTable_lawful.len r) hcl
  unfold Whole at ld
  replace x2 := row0.cell 2
  simp only [List.getElem?_cons_succ, List.getElem?_cons_zero] at x2
  have hl4 := rGTable_lawful.len r
  have hst := store_run (P := Tryz.prog) (cs := cs) S_Table rowR rfl hl4 (rGTable_ones r)
  have rowF := rowR.setRow cs
  have kS : Keep (· = w.heap.size + 1 + 1) w1 (w1.setRow (w.heap.size + 1 + 1) cs.toArray) := (Keep.refl (· = w.heap.size + 1 + 1) w1).setRow (fun _ => rfl) cs.toArray
  have kF := kk.setRow (g := w.heap.size + 1 + 1) (fun h => by omega) cs.toArray
  replace r := rGTable_lawful.keep r kS (fun b hb e => by have := hp b hb; omega)
  have hin : (Tryz.prog.info? 39).map (·.size) = some cs.toArray.size := by rw [List.size_toArray, hl4]; exact S_Table.info
  have HIN := Lib.hid hin
  clear k1 hF rowI row0 rowR kk kS hcl hl4 hin
  go_wp2_with fail
  refine bodyPost_ret (results_cell_row2 (by rfl) _ _ _ _ _ _ _ (by rfl) rowF Tryz.underlying39 (by rfl) HIN.out) rfl ?_
  rw [hR.out]
  exact ⟨_, rfl, r, kF⟩
end
end Go.Proofs.YtibaehlfpgipfaaGreat
namespace Go.Proofs.YtibaehlfpgipfaaGreat
open Go.RowKit
def tabOf (c : GCatalog) (d : Int) : GTable × Bool := firstB (fun t => decide (t.fID = d)) c.fTables zTab
def indexB (c : GCatalog) (x : GIndex) : Bool := (tabOf c x.fTable).2 && (nameB x.fName && (placesB (tabOf c x.fTable).1.fColumns.length x.fColumns && decide (1 ≤ x.fState ∧ x.fState ≤ 7)))
section
attribute [local go_sem ↓] ldz_Table stz_Table ldz_Catalog
set_option maxRecDepth 100000 in
set_option maxHeartbeats 8000000 in
theorem srightIndex_c {p : Nat → Prop} (c : GCatalog) (csc : List Value) (x : GIndex) (csx : List Value) (w : World) (hc : rGCatalog w p csc c) (hx : rGIndex w p csx x) (hp : ∀ b, p b → b < w.heap.size) :
  Calls Tryz.prog 107 #[.agg csc.toArray, .agg csx.toArray] w fun e w' => e = .returned (.bool (indexB c x)) ∧ Keep Nix w w' := by
 obtain ⟨aI, cI, rfl, -, -, hxn, hxc, hxs, -⟩ := rGIndex_open hx
 have hlc := rGCatalog_lawful.len hc
 clear hx
 have row0 : RowIs ((w.alloc (.cells csc.toArray 50)).alloc (.cells #[.int .i64 x.fID, .int .i64 x.fTable, .string (strB x.fName), .slice aI x.fColumns.length cI, .bool x.fUnique, .int .i64 x.fState, .bool x.fBad] 41)) w.heap.size 50 csc := (RowIs.alloc w _ _).keep ((Keep.refl Nix _).alloc _) id
 have rowX : RowIs ((w.alloc (.cells csc.toArray 50)).alloc (.cells #[.int .i64 x.fID, .int .i64 x.fTable, .string (strB x.fName), .slice aI x.fColumns.length cI, .bool x.fUnique, .int .i64 x.fState, .bool x.fBad] 41)) (w.heap.size + 1) 41 [.int .i64 x.fID, .int .i64 x.fTable, .string (strB x.fName), .slice aI x.fColumns.length cI, .bool x.fUnique, .int .i64 x.fState, .bool x.fBad] := RowIs.alloc_at (w.alloc (.cells csc.toArray 50)) _ (by simp) #[.int .i64 x.fID, .int .i64 x.fTable, .string (strB x.fName), .slice aI x.fColumns.length cI, .bool x.fUnique, .int .i64 x.fState, .bool x.fBad] 41
 have kk : Keep Nix w ((w.alloc (.cells csc.toArray 50)).alloc (.cells #[.int .i64 x.fID, .int .i64 x.fTable, .string (strB x.fName), .slice aI x.fColumns.length cI, .bool x.fUnique, .int .i64 x.fState, .bool x.fBad] 41)) := ((Keep.refl Nix w).alloc _).alloc _
 have ld := Whole.row (P := Tryz.prog) S_Catalog hlc row0
 unfold Whole at ld
 have hB := byID_c c csc x.fTable _ (rGCatalog_lawful.nix hc kk) (fun b hb => Nat.lt_of_lt_of_le (hp b hb) kk.size)
 change Calls _ _ _ _ (FoundIn rGTable p _ (tabOf c x.fTable)) at hB
 have HB := Lib.hid hB
 obtain ⟨y, hy⟩ : ∃ y, Hid (tabOf c x.fTable = y) := ⟨_, rfl⟩
 rw [hy.out] at HB
 have HI : Hid (indexB c x = (y.2 && (nameB x.fName && (placesB y.1.fColumns.length x.fColumns && decide (1 ≤ x.fState ∧ x.fState ≤ 7))))) := by show _ = _; unfold indexB; rw [hy.out]
 clear hB hlc hc hy
 have x1 := rowX.cell 1
 simp only [List.getElem?_cons_succ, List.getElem?_cons_zero] at x1
 go_enter Tryz.func107, Tryz.ntmps107
 go_wp2_with fail
 clear ld x1
 go_fit HB.out
 clear HB
 obtain ⟨t, is⟩ := y
 rintro e w1 ⟨cst, rfl, hT, k1⟩
 replace hT : rGTable w1 p cst t := hT
 replace rowX := rowX.keep k1 id
 replace kk := kk.trans k1
 obtain ⟨aC, cC, aK, cK, rfl, -, htn, htC, -, -⟩ := rGTable_open hT
 have nC := (rList_len htC).2.2
 have mC : t.fColumns.length ≤ 140737488351232 := by have := far_len; omega
 have hst := store_run (P := Tryz.prog) (cs := [.int .i64 t.fID, .string (strB t.fName), .slice aC t.fColumns.length cC, .slice aK t.fKey.length cK]) S_Table (RowIs.alloc w1 #[.int .i64 0, .string { data := #[] }, .slice none 0 0, .slice none 0 0] 39) rfl rfl rfl
 have rowT := (RowIs.alloc w1 #[.int .i64 0, .string { data := #[] }, .slice none 0 0, .slice none 0 0] 39).setRow [.int .i64 t.fID, .string (strB t.fName), .slice aC t.fColumns.length cC, .slice aK t.fKey.length cK]
 have kV : Keep Nix w1 ((w1.alloc (.cells #[.int .i64 0, .string { data := #[] }, .slice none 0 0, .slice none 0 0] 39)).setRow w1.heap.size [.int .i64 t.fID, .string (strB t.fName), .slice aC t.fColumns.length cC, .slice aK t.fKey.length cK].toArray) := ((Keep.refl Nix w1).alloc _).setRow (fun h => absurd h (Nat.lt_irrefl _)) _
 replace rowX := rowX.keep kV id
 replace kk := kk.trans kV
 replace hxc := (rList_lawful (rInt_lawful _)).nix hxc kk
 clear kV k1 hT htC nC
 have x2 := rowX.cell 2
 have x3 := rowX.cell 3
 have x5 := rowX.cell 5
 have y2 := rowT.cell 2
 simp only [List.getElem?_cons_succ, List.getElem?_cons_zero] at x2 x3 x5 y2
 simp only at HI
 cases is with
 | false =>
  go_wp2_with fail
  go_ret
  exact ⟨ret_bool (by rw [HI.out]; rfl), kk⟩
 | true =>
 obtain ⟨bn, hbn⟩ : ∃ b, Hid (nameB x.fName = b) := ⟨_, rfl⟩
 have HN := Lib.hid (fun w' => named_s x.fName w' hxn)
 rw [hbn.out] at HN HI
 cases bn with
 | false =>
  go_wp2_with fail
  go_fit (HN.out _)
  rintro e w2 ⟨rfl, rfl⟩
  go_wp2_with fail
  go_ret
  exact ⟨ret_bool (by rw [HI.out]; rfl), kk⟩
 | true =>
 obtain ⟨bp, hbp⟩ : ∃ b, Hid (placesB t.fColumns.length x.fColumns = b) := ⟨_, rfl⟩
 have HP := Lib.hid (splaces_c aI x.fColumns.length cI x.fColumns t.fColumns.length _ hxc)
 rw [hbp.out] at HP HI
 cases bp with
 | false =>
  go_wp2_with fail
  go_fit (HN.out _)
  rintro e w2 ⟨rfl, rfl⟩
  go_wp2_with fail
  go_fit HP.out
  rintro e w2 ⟨rfl, k2⟩
  replace kk := kk.trans k2
  go_wp2_with fail
  go_ret
  exact ⟨ret_bool (by rw [HI.out]; rfl), kk⟩
 | true =>
 go_wp2_with fail
 go_fit (HN.out _)
 rintro e w2 ⟨rfl, rfl⟩
 go_wp2_with fail
 go_fit HP.out
 rintro e w2 ⟨rfl, k2⟩
 replace kk := kk.trans k2
 replace rowX := rowX.keep k2 id
 clear k2 HP HN hst x2 x3 x5 y2 rowT hxc
 have x5 := rowX.cell 5
 simp only [List.getElem?_cons_succ, List.getElem?_cons_zero] at x5
 go_wp2_with fail
 all_goals
  go_ret
  exact ⟨ret_bool (by rw [HI.out, Bool.true_and, Bool.true_and, Bool.true_and, Bool.eq_iff_iff]; simp only [decide_eq_true_eq, Bool.false_eq_true, false_iff]; omega), kk⟩
end
end Go.Proofs.YtibaehlfpgipfaaGreat
namespace Go.Proofs.YtibaehlfpgipfaaGreat
open Go.RowKit
section
attribute [local go_sem ↓] ldz_Table stz_Table ldz_Catalog ldz_Index stz_Index
end
end Go.Proofs.YtibaehlfpgipfaaGreat
namespace Go.Proofs.YtibaehlfpgipfaaGreat
open Go.RowKit
section
attribute [local go_sem ↓] ldz_Column stz_Column
end
end Go.Proofs.YtibaehlfpgipfaaGreat
namespace Go.Proofs.YtibaehlfpgipfaaGreat
open Go.RowKit
section
attribute [local go_sem ↓] ldz_Table stz_Table
end
section
attribute [local go_sem ↓] ldz_Table stz_Table
end
section
attribute [local go_sem ↓] ldz_Index stz_Index
end
end Go.Proofs.YtibaehlfpgipfaaGreat
namespace Go.Proofs.YtibaehlfpgipfaaGreat
open Go.RowKit
/-! ### readings that may be written -/
def rListW {α : Type} (R : RD α) : RD (List α) := fun w p cs l => ∃ (a : Option Addr) (cap : Nat) (css : List (List Value)), cs = [.slice a l.length cap] ∧ css.length = l.length ∧ LiesW w p a css.flatten ∧ l.length ≤ cap ∧ l.length ≤ far ∧ ∀ (i : Nat) (c : List Value) (x : α), css[i]? = some c → l[i]? = some x → R w p c x
theorem LiesW.keep {S p : Nat → Prop} {w w' : World} {a : Option Addr} {xs : List Value} (h : LiesW w p a xs) (k : Keep S w w') (hs : ∀ b, p b → ¬ S b) : LiesW w' p a xs := fun hx => by
  obtain ⟨b, off, h1, h2, h3, h4, h5⟩ := h hx
  exact ⟨b, off, h1, h2, Nat.lt_of_lt_of_le h3 k.size, fun j u hu => (k.cell (p := ⟨b, off + j, none⟩) h3 (hs b h2)).trans (h4 j u hu), fun j => (k.frozen (p := ⟨b, j, none⟩) h3 (hs b h2)).trans (h5 j)⟩
theorem LiesW.mono {p q : Nat → Prop} {w : World} {a : Option Addr} {xs : List Value} (h : LiesW w p a xs) (hq : ∀ b, p b → q b) : LiesW w q a xs := fun hx => by
  obtain ⟨b, off, h1, h2, h3⟩ := h hx
  exact ⟨b, off, h1, hq b h2, h3⟩
theorem rListW_lawful {α : Type} {R : RD α} {sz : Nat} (L : Lawful R sz) : Lawful (rListW R) 1 :=
  ⟨fun ⟨_, _, _, h, _⟩ => by rw [h]; rfl,
   fun ⟨a, cap, css, h, h1, hl, h2, h3, r⟩ k hs => ⟨a, cap, css, h, h1, hl.keep k hs, h2, h3, fun i c x hc hx => L.keep (r i c x hc hx) k hs⟩,
   fun ⟨a, cap, css, h, h1, hl, h2, h3, r⟩ hq => ⟨a, cap, css, h, h1, hl.mono hq, h2, h3, fun i c x hc hx => L.mono (r i c x hc hx) hq⟩⟩
theorem rListW_to {α : Type} {R : RD α} {w : World} {p : Nat → Prop} {cs : List Value} {l : List α} (h : rListW R w p cs l) : rList R w p cs l := by
  obtain ⟨a, cap, css, h, h1, hl, h2, h3, r⟩ := h
  exact ⟨a, cap, css, h, h1, hl.lies, h2, h3, r⟩
theorem rListW_open {α : Type} {R : RD α} {w : World} {p : Nat → Prop} {cs : List Value} {l : List α} (h : rListW R w p cs l) : ∃ a cap, cs = [.slice a l.length cap] ∧ rListW R w p [.slice a l.length cap] l := by
  obtain ⟨a, cap, css, rfl, h⟩ := h
  exact ⟨a, cap, rfl, a, cap, css, rfl, h⟩
theorem rListW_owned {α : Type} {R : RD α} {w : World} {q p : Nat → Prop} {base e sz : Nat} {a : Option Addr} {cap : Nat} {css : List (List Value)} {l : List α} (own : w.ownsRow base e sz (.slice a l.length cap) l.length css.flatten) (els : Els R w q css l) (hf : l.length ≤ far)
    (hR : ∀ (c : List Value) (x : α), R w q c x → R w p c x) (hp : ∀ b, base ≤ b → b < w.heap.size → p b) : rListW R w p [.slice a l.length cap] l := by
  refine ⟨a, cap, css, rfl, els.1, fun hx => ?_, (owned_bounds own).2.1, hf, fun i c x hc hx => hR c x (els.2 i c x hc hx)⟩
  obtain ⟨b, off, h1, h2, h3, h4⟩ := LiesW.of_owned own hx
  exact ⟨b, off, h1, hp b h2 h3, h3, h4⟩
def fGTable : RD GTable := fun w p cs x => ∃ c0 c1 c2 c3 : List Value, cs = List.flatten [c0, c1, c2, c3] ∧ (rInt .i64) w p c0 x.fID ∧ rStr w p c1 x.fName ∧ (rListW rGColumn) w p c2 x.fColumns ∧ (rListW (rInt .i64)) w p c3 x.fKey
theorem fGTable_to {w : World} {p : Nat → Prop} {cs : List Value} {x : GTable} (h : fGTable w p cs x) : rGTable w p cs x := by
  obtain ⟨c0, c1, c2, c3, h, h0, h1, h2, h3⟩ := h
  exact ⟨c0, c1, c2, c3, h, h0, h1, rListW_to h2, rListW_to h3⟩
theorem fGTable_lawful : Lawful fGTable 4 :=
  ⟨fun h => rGTable_lawful.len (fGTable_to h),
   fun ⟨c0, c1, c2, c3, h, h0, h1, h2, h3⟩ k hs => ⟨c0, c1, c2, c3, h, (rInt_lawful _).keep h0 k hs, rStr_lawful.keep h1 k hs, (rListW_lawful rGColumn_lawful).keep h2 k hs, (rListW_lawful (rInt_lawful _)).keep h3 k hs⟩,
   fun ⟨c0, c1, c2, c3, h, h0, h1, h2, h3⟩ hq => ⟨c0, c1, c2, c3, h, (rInt_lawful _).mono h0 hq, rStr_lawful.mono h1 hq, (rListW_lawful rGColumn_lawful).mono h2 hq, (rListW_lawful (rInt_lawful _)).mono h3 hq⟩⟩
def fGIndex : RD GIndex := fun w p cs x => ∃ c0 c1 c2 c3 c4 c5 c6 : List Value, cs = List.flatten [c0, c1, c2, c3, c4, c5, c6] ∧ (rInt .i64) w p c0 x.fID ∧ (rInt .i64) w p c1 x.fTable ∧ rStr w p c2 x.fName ∧ (rListW (rInt .i64)) w p c3 x.fColumns ∧ rBool w p c4 x.fUnique ∧ (rInt .i64) w p c5 x.fState ∧ rBool w p c6 x.fBad
theorem fGIndex_to {w : World} {p : Nat → Prop} {cs : List Value} {x : GIndex} (h : fGIndex w p cs x) : rGIndex w p cs x := by
  obtain ⟨c0, c1, c2, c3, c4, c5, c6, h, h0, h1, h2, h3, h4⟩ := h
  exact ⟨c0, c1, c2, c3, c4, c5, c6, h, h0, h1, h2, rListW_to h3, h4⟩
theorem fGIndex_lawful : Lawful fGIndex 7 :=
  ⟨fun h => rGIndex_lawful.len (fGIndex_to h),
   fun ⟨c0, c1, c2, c3, c4, c5, c6, h, h0, h1, h2, h3, h4⟩ k hs => ⟨c0, c1, c2, c3, c4, c5, c6, h, h0, h1, h2, (rListW_lawful (rInt_lawful _)).keep h3 k hs, h4⟩,
   fun ⟨c0, c1, c2, c3, c4, c5, c6, h, h0, h1, h2, h3, h4⟩ hq => ⟨c0, c1, c2, c3, c4, c5, c6, h, h0, h1, h2, (rListW_lawful (rInt_lawful _)).mono h3 hq, h4⟩⟩
theorem rGColumn_any {w : World} {p q : Nat → Prop} {c : List Value} {x : GColumn} (h : rGColumn w p c x) : rGColumn w q c x := h
theorem rInt_any {k : IntKind} {w : World} {p q : Nat → Prop} {c : List Value} {x : Int} (h : rInt k w p c x) : rInt k w q c x := h
def Ret {α : Type} (R : RD α) (w : World) (x : α) (e : Ending) (w' : World) : Prop := ∃ cs : List Value, e = .returned (.agg cs.toArray) ∧ R w' (NewIn w w') cs x ∧ Keep Nix w w'
section
attribute [local go_sem ↓] ldz_Index stz_Index ldz_Table stz_Table
set_option maxRecDepth 100000 in
set_option maxHeartbeats 8000000 in
theorem ownIndex_c {p : Nat → Prop} (x : GIndex) (cs : List Value) (w : World) (hx : rGIndex w p cs x) (hr : x.fColumns.length * 8 ≤ 140737488355328) :
    Calls Tryz.prog 77 #[.agg cs.toArray] w (Ret fGIndex w x) := by
  have gx := hx
  obtain ⟨aI, cI, rfl, h0, h1, h2, h3, h5, -⟩ := rGIndex_open hx
  have nf := (rList_len h3).2.2
  have row0 : RowIs ((w.alloc (.cells #[.int .i64 x.fID, .int .i64 x.fTable, .string (strB x.fName), .slice aI x.fColumns.length cI, .bool x.fUnique, .int .i64 x.fState, .bool x.fBad] 41)).alloc (.cells #[.int .i64 0, .int .i64 0, .string { data := #[] }, .slice none 0 0, .bool false, .int .i64 0, .bool false] 41)) w.heap.size 41 [.int .i64 x.fID, .int .i64 x.fTable, .string (strB x.fName), .slice aI x.fColumns.length cI, .bool x.fUnique, .int .i64 x.fState, .bool x.fBad] := (RowIs.alloc w _ _).keep ((Keep.refl Nix _).alloc _) id
  have rowR : RowIs ((w.alloc (.cells #[.int .i64 x.fID, .int .i64 x.fTable, .string (strB x.fName), .slice aI x.fColumns.length cI, .bool x.fUnique, .int .i64 x.fState, .bool x.fBad] 41)).alloc (.cells #[.int .i64 0, .int .i64 0, .string { data := #[] }, .slice none 0 0, .bool false, .int .i64 0, .bool false] 41)) (w.heap.size + 1) 41 [.int .i64 0, .int .i64 0, .string { data := #[] }, .slice none 0 0, .bool false, .int .i64 0, .bool false] := RowIs.alloc_at (w.alloc (.cells #[.int .i64 x.fID, .int .i64 x.fTable, .string (strB x.fName), .slice aI x.fColumns.length cI, .bool x.fUnique, .int .i64 x.fState, .bool x.fBad] 41)) _ (by simp) #[.int .i64 0, .int .i64 0, .string { data := #[] }, .slice none 0 0, .bool false, .int .i64 0, .bool false] 41
  have kk : Keep Nix w ((w.alloc (.cells #[.int .i64 x.fID, .int .i64 x.fTable, .string (strB x.fName), .slice aI x.fColumns.length cI, .bool x.fUnique, .int .i64 x.fState, .bool x.fBad] 41)).alloc (.cells #[.int .i64 0, .int .i64 0, .string { data := #[] }, .slice none 0 0, .bool false, .int .i64 0, .bool false] 41)) := ((Keep.refl Nix w).alloc _).alloc _
  replace h3 := (rList_lawful (rInt_lawful _)).nix h3 kk
  have hc := Lib.hid (clint_c aI x.fColumns.length cI x.fColumns _ h3 hr)
  clear hx h3 hr
  have x3 := row0.cell 3
  simp only [List.getElem?_cons_succ, List.getElem?_cons_zero] at x3
  go_enter Tryz.func77, Tryz.ntmps77
  go_wp2_with fail
  go_fit hc.out
  rintro e w1 ⟨a', cap', css, rfl, own, els, k1⟩
  replace row0 := row0.keep k1 id
  replace rowR := rowR.keep k1 id
  replace kk := kk.trans k1
  have hs0 := row0.lt
  have hs1 := rowR.lt
  have xf := row0.frozen 3
  have x3 := row0.cell 3
  simp only [List.getElem?_cons_succ, List.getElem?_cons_zero] at x3
  have row1 := row0.set 3 (.slice a' x.fColumns.length cap')
  have kS := (Keep.refl (fun b => b = w.heap.size) w1).setCell (p := ⟨w.heap.size, 3, none⟩) (fun _ => rfl) (.slice a' x.fColumns.length cap')
  simp only [List.set_cons_succ, List.set_cons_zero] at row1
  have rowR1 := rowR.keep kS (by omega)
  have hsz : w.heap.size + 1 + 1 ≤ w1.heap.size := by omega
  have own1 := owned_keep own kS (fun b hb e => by have := (own.lt b hb).1; simp at this; omega)
  have els1 : Els (rInt .i64) (w1.setCell ⟨w.heap.size, 3, none⟩ (.slice a' x.fColumns.length cap')) p css x.fColumns := ⟨els.1, fun i c y hc hy => els.2 i c y hc hy⟩
  have kk1 := kk.then kS (fun i hi e => by omega)
  have ld := Whole.row (P := Tryz.prog) S_Index rfl row1
  unfold Whole at ld
  have hst := store_run (P := Tryz.prog) (cs := [.int .i64 x.fID, .int .i64 x.fTable, .string (strB x.fName), .slice a' x.fColumns.length cap', .bool x.fUnique, .int .i64 x.fState, .bool x.fBad]) S_Index rowR1 rfl rfl rfl
  have rowF := rowR1.setRow [.int .i64 x.fID, .int .i64 x.fTable, .string (strB x.fName), .slice a' x.fColumns.length cap', .bool x.fUnique, .int .i64 x.fState, .bool x.fBad]
  have kF := (Keep.refl (fun b => b = w.heap.size + 1) (w1.setCell ⟨w.heap.size, 3, none⟩ (.slice a' x.fColumns.length cap'))).setRow (g := w.heap.size + 1) (fun _ => rfl) [.int .i64 x.fID, .int .i64 x.fTable, .string (strB x.fName), .slice a' x.fColumns.length cap', .bool x.fUnique, .int .i64 x.fState, .bool x.fBad].toArray
  have own2 := owned_keep own1 kF (fun b hb e => by have := (own.lt b hb).1; simp at this; omega)
  have els2 : Els (rInt .i64) ((w1.setCell ⟨w.heap.size, 3, none⟩ (.slice a' x.fColumns.length cap')).setRow (w.heap.size + 1) [.int .i64 x.fID, .int .i64 x.fTable, .string (strB x.fName), .slice a' x.fColumns.length cap', .bool x.fUnique, .int .i64 x.fState, .bool x.fBad].toArray) p css x.fColumns := ⟨els1.1, fun i c y hc hy => els1.2 i c y hc hy⟩
  have hL : rListW (rInt .i64) ((w1.setCell ⟨w.heap.size, 3, none⟩ (.slice a' x.fColumns.length cap')).setRow (w.heap.size + 1) [.int .i64 x.fID, .int .i64 x.fTable, .string (strB x.fName), .slice a' x.fColumns.length cap', .bool x.fUnique, .int .i64 x.fState, .bool x.fBad].toArray) (NewIn w ((w1.setCell ⟨w.heap.size, 3, none⟩ (.slice a' x.fColumns.length cap')).setRow (w.heap.size + 1) [.int .i64 x.fID, .int .i64 x.fTable, .string (strB x.fName), .slice a' x.fColumns.length cap', .bool x.fUnique, .int .i64 x.fState, .bool x.fBad].toArray)) [.slice a' x.fColumns.length cap'] x.fColumns := rListW_owned own2 els2 nf (fun c y h => rInt_any h) (fun b hb hlt => ⟨by simp at hb; omega, hlt⟩)
  have hres : fGIndex ((w1.setCell ⟨w.heap.size, 3, none⟩ (.slice a' x.fColumns.length cap')).setRow (w.heap.size + 1) [.int .i64 x.fID, .int .i64 x.fTable, .string (strB x.fName), .slice a' x.fColumns.length cap', .bool x.fUnique, .int .i64 x.fState, .bool x.fBad].toArray) (NewIn w ((w1.setCell ⟨w.heap.size, 3, none⟩ (.slice a' x.fColumns.length cap')).setRow (w.heap.size + 1) [.int .i64 x.fID, .int .i64 x.fTable, .string (strB x.fName), .slice a' x.fColumns.length cap', .bool x.fUnique, .int .i64 x.fState, .bool x.fBad].toArray)) [.int .i64 x.fID, .int .i64 x.fTable, .string (strB x.fName), .slice a' x.fColumns.length cap', .bool x.fUnique, .int .i64 x.fState, .bool x.fBad] x := ⟨[_], [_], [_], [_], [_], [_], [_], rfl, ⟨rfl, wf_of_isI64 h0⟩, ⟨rfl, wf_of_isI64 h1⟩, ⟨rfl, h2⟩, hL, rfl, ⟨rfl, wf_of_isI64 h5⟩, rfl⟩
  have kk2 := kk1.then kF (fun i hi e => by omega)
  clear hc own own1 own2 els els1 els2 row0 row1 rowR rowR1 kS kF kk kk1 k1 hL
  go_wp2_with fail
  refine bodyPost_ret (results_cell_row (by rfl) _ _ _ _ _ _ _ (by rfl) rowF Tryz.underlying41 (by rfl) S_Index.info) rfl ?_
  exact ⟨_, rfl, hres, kk2⟩
set_option maxRecDepth 100000 in
set_option maxHeartbeats 8000000 in
theorem ownTable_c {p : Nat → Prop} (t : GTable) (cs : List Value) (w : World) (ht : rGTable w p cs t) (hr1 : t.fColumns.length * 32 ≤ 140737488355328) (hr2 : t.fKey.length * 8 ≤ 140737488355328) :
    Calls Tryz.prog 76 #[.agg cs.toArray] w (Ret fGTable w t) := by
  obtain ⟨aC, cC, aK, cK, rfl, h0, h1, h2, h3, -⟩ := rGTable_open ht
  have nf1 := (rList_len h2).2.2
  have nf2 := (rList_len h3).2.2
  have row0 : RowIs ((w.alloc (.cells #[.int .i64 t.fID, .string (strB t.fName), .slice aC t.fColumns.length cC, .slice aK t.fKey.length cK] 39)).alloc (.cells #[.int .i64 0, .string { data := #[] }, .slice none 0 0, .slice none 0 0] 39)) w.heap.size 39 [.int .i64 t.fID, .string (strB t.fName), .slice aC t.fColumns.length cC, .slice aK t.fKey.length cK] := (RowIs.alloc w _ _).keep ((Keep.refl Nix _).alloc _) id
  have rowR : RowIs ((w.alloc (.cells #[.int .i64 t.fID, .string (strB t.fName), .slice aC t.fColumns.length cC, .slice aK t.fKey.length cK] 39)).alloc (.cells #[.int .i64 0, .string { data := #[] }, .slice none 0 0, .slice none 0 0] 39)) (w.heap.size + 1) 39 [.int .i64 0, .string { data := #[] }, .slice none 0 0, .slice none 0 0] := RowIs.alloc_at (w.alloc (.cells #[.int .i64 t.fID, .string (strB t.fName), .slice aC t.fColumns.length cC, .slice aK t.fKey.length cK] 39)) _ (by simp) #[.int .i64 0, .string { data := #[] }, .slice none 0 0, .slice none 0 0] 39
  have kk : Keep Nix w ((w.alloc (.cells #[.int .i64 t.fID, .string (strB t.fName), .slice aC t.fColumns.length cC, .slice aK t.fKey.length cK] 39)).alloc (.cells #[.int .i64 0, .string { data := #[] }, .slice none 0 0, .slice none 0 0] 39)) := ((Keep.refl Nix w).alloc _).alloc _
  clear ht
  go_enter Tryz.func76, Tryz.ntmps76
  go_wp2_with fail
  replace row0 := row0.same (w' := ((w.alloc (.cells #[.int .i64 t.fID, .string (strB t.fName), .slice aC t.fColumns.length cC, .slice aK t.fKey.length cK] 39)).alloc (.cells #[.int .i64 0, .string { data := #[] }, .slice none 0 0, .slice none 0 0] 39)).drew)
  replace rowR := rowR.same (w' := ((w.alloc (.cells #[.int .i64 t.fID, .string (strB t.fName), .slice aC t.fColumns.length cC, .slice aK t.fKey.length cK] 39)).alloc (.cells #[.int .i64 0, .string { data := #[] }, .slice none 0 0, .slice none 0 0] 39)).drew)
  replace kk := kk.drew
  have x2 := row0.cell 2
  have x3 := row0.cell 3
  have f2 := row0.frozen 2
  have f3 := row0.frozen 3
  simp only [List.getElem?_cons_succ, List.getElem?_cons_zero] at x2 x3
  go_region_with (first
    | (go_at_call 123; go_fit (clColumn_c aC t.fColumns.length cC t.fColumns _ ((rList_lawful rGColumn_lawful).nix h2 kk) hr1); rintro e w1 ⟨a1, cap1, css1, rfl, own1, els1, k1⟩; replace row0 := row0.keep k1 id; replace rowR := rowR.keep k1 id; replace kk := kk.trans k1; clear k1; replace x2 := row0.cell 2; replace x3 := row0.cell 3; replace f2 := row0.frozen 2; replace f3 := row0.frozen 3; simp only [List.getElem?_cons_succ, List.getElem?_cons_zero] at x2 x3)
    | (go_at_call 124; have hsA := rowR.lt; go_fit (clint_c aK t.fKey.length cK t.fKey _ ((rList_lawful (rInt_lawful _)).nix h3 kk) hr2); rintro e w2 ⟨a2, cap2, css2, rfl, own2, els2, k1⟩; replace row0 := row0.keep k1 id; replace rowR := rowR.keep k1 id; replace kk := kk.trans k1; replace own1 := owned_keep own1 k1 (fun _ _ h => h); clear k1; replace x2 := row0.cell 2; replace x3 := row0.cell 3; replace f2 := row0.frozen 2; replace f3 := row0.frozen 3; simp only [List.getElem?_cons_succ, List.getElem?_cons_zero] at x2 x3))
  all_goals
    have hs0 := row0.lt
    have hs1 := rowR.lt
    have row1 := (row0.set 2 (.slice a1 t.fColumns.length cap1)).set 3 (.slice a2 t.fKey.length cap2)
    simp only [List.set_cons_succ, List.set_cons_zero] at row1
    have kS : Keep (fun b => b = w.heap.size) w2 ((w2.setCell ⟨w.heap.size, 2, none⟩ (.slice a1 t.fColumns.length cap1)).setCell ⟨w.heap.size, 3, none⟩ (.slice a2 t.fKey.length cap2)) := ((Keep.refl (fun b => b = w.heap.size) w2).setCell (p := ⟨w.heap.size, 2, none⟩) (fun _ => rfl) _).setCell (p := ⟨w.heap.size, 3, none⟩) (fun _ => rfl) _
    have rowR1 := rowR.keep kS (by omega)
    have hb1 : ∀ b, OwnB (.slice a1 t.fColumns.length cap1) b → w.heap.size + 1 + 1 ≤ b := fun b hb => by have := (own1.lt b hb).1; simp at this; omega
    have hb2 : ∀ b, OwnB (.slice a2 t.fKey.length cap2) b → w.heap.size + 1 + 1 ≤ b := fun b hb => by have := (own2.lt b hb).1; first | omega | (simp at this; omega) | (simp at this hsA; omega)
    have own11 := owned_keep own1 kS (fun b hb e => by have := hb1 b hb; omega)
    have own21 := owned_keep own2 kS (fun b hb e => by have := hb2 b hb; omega)
    have kk1 := kk.then kS (fun i hi e => by omega)
    have ld := Whole.row (P := Tryz.prog) S_Table rfl row1
    unfold Whole at ld
    have hst := store_run (P := Tryz.prog) (cs := [.int .i64 t.fID, .string (strB t.fName), .slice a1 t.fColumns.length cap1, .slice a2 t.fKey.length cap2]) S_Table rowR1 rfl rfl rfl
    have rowF := rowR1.setRow [.int .i64 t.fID, .string (strB t.fName), .slice a1 t.fColumns.length cap1, .slice a2 t.fKey.length cap2]
    have kF := (Keep.refl (fun b => b = w.heap.size + 1) ((w2.setCell ⟨w.heap.size, 2, none⟩ (.slice a1 t.fColumns.length cap1)).setCell ⟨w.heap.size, 3, none⟩ (.slice a2 t.fKey.length cap2))).setRow (g := w.heap.size + 1) (fun _ => rfl) [.int .i64 t.fID, .string (strB t.fName), .slice a1 t.fColumns.length cap1, .slice a2 t.fKey.length cap2].toArray
    have own12 := owned_keep own11 kF (fun b hb e => by have := hb1 b hb; omega)
    have own22 := owned_keep own21 kF (fun b hb e => by have := hb2 b hb; omega)
    have e1 : Els rGColumn (((w2.setCell ⟨w.heap.size, 2, none⟩ (.slice a1 t.fColumns.length cap1)).setCell ⟨w.heap.size, 3, none⟩ (.slice a2 t.fKey.length cap2)).setRow (w.heap.size + 1) [.int .i64 t.fID, .string (strB t.fName), .slice a1 t.fColumns.length cap1, .slice a2 t.fKey.length cap2].toArray) p css1 t.fColumns := ⟨els1.1, fun i c y hc hy => els1.2 i c y hc hy⟩
    have e2 : Els (rInt .i64) (((w2.setCell ⟨w.heap.size, 2, none⟩ (.slice a1 t.fColumns.length cap1)).setCell ⟨w.heap.size, 3, none⟩ (.slice a2 t.fKey.length cap2)).setRow (w.heap.size + 1) [.int .i64 t.fID, .string (strB t.fName), .slice a1 t.fColumns.length cap1, .slice a2 t.fKey.length cap2].toArray) p css2 t.fKey := ⟨els2.1, fun i c y hc hy => els2.2 i c y hc hy⟩
    have hL1 : rListW rGColumn (((w2.setCell ⟨w.heap.size, 2, none⟩ (.slice a1 t.fColumns.length cap1)).setCell ⟨w.heap.size, 3, none⟩ (.slice a2 t.fKey.length cap2)).setRow (w.heap.size + 1) [.int .i64 t.fID, .string (strB t.fName), .slice a1 t.fColumns.length cap1, .slice a2 t.fKey.length cap2].toArray) (NewIn w (((w2.setCell ⟨w.heap.size, 2, none⟩ (.slice a1 t.fColumns.length cap1)).setCell ⟨w.heap.size, 3, none⟩ (.slice a2 t.fKey.length cap2)).setRow (w.heap.size + 1) [.int .i64 t.fID, .string (strB t.fName), .slice a1 t.fColumns.length cap1, .slice a2 t.fKey.length cap2].toArray)) [.slice a1 t.fColumns.length cap1] t.fColumns := rListW_owned own12 e1 nf1 (fun c y h => rGColumn_any h) (fun b hb hlt => ⟨by simp at hb; omega, hlt⟩)
    have hL2 : rListW (rInt .i64) (((w2.setCell ⟨w.heap.size, 2, none⟩ (.slice a1 t.fColumns.length cap1)).setCell ⟨w.heap.size, 3, none⟩ (.slice a2 t.fKey.length cap2)).setRow (w.heap.size + 1) [.int .i64 t.fID, .string (strB t.fName), .slice a1 t.fColumns.length cap1, .slice a2 t.fKey.length cap2].toArray) (NewIn w (((w2.setCell ⟨w.heap.size, 2, none⟩ (.slice a1 t.fColumns.length cap1)).setCell ⟨w.heap.size, 3, none⟩ (.slice a2 t.fKey.length cap2)).setRow (w.heap.size + 1) [.int .i64 t.fID, .string (strB t.fName), .slice a1 t.fColumns.length cap1, .slice a2 t.fKey.length cap2].toArray)) [.slice a2 t.fKey.length cap2] t.fKey := rListW_owned own22 e2 nf2 (fun c y h => rInt_any h) (fun b hb hlt => ⟨by first | omega | (simp at hb; omega) | (simp at hb hsA; omega), hlt⟩)
    have hres : fGTable (((w2.setCell ⟨w.heap.size, 2, none⟩ (.slice a1 t.fColumns.length cap1)).setCell ⟨w.heap.size, 3, none⟩ (.slice a2 t.fKey.length cap2)).setRow (w.heap.size + 1) [.int .i64 t.fID, .string (strB t.fName), .slice a1 t.fColumns.length cap1, .slice a2 t.fKey.length cap2].toArray) (NewIn w (((w2.setCell ⟨w.heap.size, 2, none⟩ (.slice a1 t.fColumns.length cap1)).setCell ⟨w.heap.size, 3, none⟩ (.slice a2 t.fKey.length cap2)).setRow (w.heap.size + 1) [.int .i64 t.fID, .string (strB t.fName), .slice a1 t.fColumns.length cap1, .slice a2 t.fKey.length cap2].toArray)) [.int .i64 t.fID, .string (strB t.fName), .slice a1 t.fColumns.length cap1, .slice a2 t.fKey.length cap2] t := ⟨[_], [_], [_], [_], rfl, ⟨rfl, wf_of_isI64 h0⟩, ⟨rfl, h1⟩, hL1, hL2⟩
    have kk2 := kk1.then kF (fun i hi e => by omega)
    clear own1 own2 own11 own21 own12 own22 els1 els2 e1 e2 row0 row1 rowR rowR1 kS kF kk kk1 hL1 hL2 x2 x3 f2 f3
    go_wp2_with fail
    refine bodyPost_ret (results_cell_row (by rfl) _ _ _ _ _ _ _ (by rfl) rowF Tryz.underlying39 (by rfl) S_Table.info) rfl ?_
    exact ⟨_, rfl, hres, kk2⟩
end
end Go.Proofs.YtibaehlfpgipfaaGreat
namespace Go.Proofs.YtibaehlfpgipfaaGreat
open Go.RowKit
theorem find_c {p : Nat → Prop} (c : GCatalog) (csc : List Value) (d : List UInt8) (w : World) (hc : rGCatalog w p csc c) :
  Calls Tryz.prog 108 #[.agg csc.toArray, .string (strB d)] w fun e w' => e = .returned (.int .i64 (findB (fun x => decide (x.fName = d)) c.fIndexes)) ∧ Keep Nix w w' := by
 obtain ⟨aT, cT, aX, cX, rfl, -, -, hT, hX, -⟩ := rGCatalog_open hc
 have row0 : RowIs ((w.alloc (.cells #[.int .i64 c.fVersion, .int .i64 c.fNext, .slice aT c.fTables.length cT, .slice aX c.fIndexes.length cX] 50)).alloc (.cells #[.string (strB d)] 9)) w.heap.size 50 [.int .i64 c.fVersion, .int .i64 c.fNext, .slice aT c.fTables.length cT, .slice aX c.fIndexes.length cX] := (RowIs.alloc w _ _).keep ((Keep.refl Nix _).alloc _) id
 have rowN : RowIs ((w.alloc (.cells #[.int .i64 c.fVersion, .int .i64 c.fNext, .slice aT c.fTables.length cT, .slice aX c.fIndexes.length cX] 50)).alloc (.cells #[.string (strB d)] 9)) (w.heap.size + 1) 9 [.string (strB d)] := RowIs.alloc_at (w.alloc (.cells #[.int .i64 c.fVersion, .int .i64 c.fNext, .slice aT c.fTables.length cT, .slice aX c.fIndexes.length cX] 50)) _ (by simp) #[.string (strB d)] 9
 have kk : Keep Nix w ((w.alloc (.cells #[.int .i64 c.fVersion, .int .i64 c.fNext, .slice aT c.fTables.length cT, .slice aX c.fIndexes.length cX] 50)).alloc (.cells #[.string (strB d)] 9)) := ((Keep.refl Nix w).alloc _).alloc _
 have hF := Lib.hid (ifIndex_c (p := p) aX c.fIndexes.length cX c.fIndexes 168 (.pointer (some ⟨w.heap.size + 1, 0, none⟩)) (fun x => decide (x.fName = d)) _
  ((rList_lawful rGIndex_lawful).nix hX kk) Tryz.call168 (fun w' z cs' k' _ hz => f_find1 z cs' (w.heap.size + 1) d w' hz (Nat.lt_of_lt_of_le rowN.lt k'.size) ((rowN.keep k' id).cell 0)))
 clear hc hT hX
 have x3 := row0.cell 3
 simp only [List.getElem?_cons_succ, List.getElem?_cons_zero] at x3
 go_enter Tryz.func108, Tryz.ntmps108
 go_wp2_with fail
 go_fit hF.out
 rintro e w1 ⟨rfl, k1⟩
 go_wp2_with fail
 go_ret
 exact ⟨rfl, kk.trans k1⟩
def smallT (t : GTable) : Prop := t.fColumns.length ≤ 1000 ∧ t.fKey.length ≤ 1000
def smallX (x : GIndex) : Prop := x.fColumns.length ≤ 1000
def smallC (c : GCatalog) : Prop := (∀ t ∈ c.fTables, smallT t) ∧ (∀ x ∈ c.fIndexes, smallX x) ∧ c.fTables.length ≤ 1000 ∧ c.fIndexes.length ≤ 1000
def FoundNew {α : Type} (R : RD α) (w : World) (y : α × Bool) (e : Ending) (w' : World) : Prop := ∃ cs : List Value, e = .returned (.tuple #[.agg cs.toArray, .bool y.2]) ∧ R w' (NewIn w w') cs y.1 ∧ Keep Nix w w'
theorem rListW_nil {α : Type} {R : RD α} (w : World) (p : Nat → Prop) (a : Option Addr) (cap : Nat) : rListW R w p [.slice a 0 cap] [] :=
 ⟨a, cap, [], rfl, rfl, fun h => absurd rfl h, Nat.zero_le _, Nat.zero_le _, fun i c x h => by simp at h⟩
theorem zTab_f (w : World) (p : Nat → Prop) : fGTable w p [.int .i64 0, .string { data := #[] }, .slice none 0 0, .slice none 0 0] zTab := ⟨[_], [_], [_], [_], rfl, ⟨rfl, by decide⟩, ⟨rfl, by simp [zTab]⟩, rListW_nil _ _ _ _, rListW_nil _ _ _ _⟩
theorem fGTable_ones {w : World} {p : Nat → Prop} {cs : List Value} {x : GTable} (h : fGTable w p cs x) : ones cs = true := rGTable_ones (fGTable_to h)
theorem fGIndex_ones {w : World} {p : Nat → Prop} {cs : List Value} {x : GIndex} (h : fGIndex w p cs x) : ones cs = true := rGIndex_ones (fGIndex_to h)
section
attribute [local go_sem ↓] ldz_Table stz_Table
set_option maxRecDepth 100000 in
set_option maxHeartbeats 8000000 in
theorem sTable_c {p : Nat → Prop} (c : GCatalog) (csc : List Value) (d : List UInt8) (w : World) (hc : rGCatalog w p csc c) (hs : ∀ t ∈ c.fTables, smallT t) :
  Calls Tryz.prog 105 #[.agg csc.toArray, .string (strB d)] w (FoundNew fGTable w (firstB (fun t => decide (t.fName = d)) c.fTables zTab)) := by
 obtain ⟨aT, cT, aX, cX, rfl, -, -, hT, -, -⟩ := rGCatalog_open hc
 have nT := (rList_len hT).2.2
 have mT : c.fTables.length ≤ 140737488351232 := by have := far_len; omega
 clear nT hc
 have row0 : RowIs (((w.alloc (.cells #[.int .i64 c.fVersion, .int .i64 c.fNext, .slice aT c.fTables.length cT, .slice aX c.fIndexes.length cX] 50)).alloc (.cells #[.string (strB d)] 9)).alloc (.cells #[.int .i64 0, .string { data := #[] }, .slice none 0 0, .slice none 0 0] 39)) w.heap.size 50 [.int .i64 c.fVersion, .int .i64 c.fNext, .slice aT c.fTables.length cT, .slice aX c.fIndexes.length cX] := ((RowIs.alloc w _ _).keep ((Keep.refl Nix _).alloc _) id).keep ((Keep.refl Nix _).alloc _) id
 have rowI : RowIs (((w.alloc (.cells #[.int .i64 c.fVersion, .int .i64 c.fNext, .slice aT c.fTables.length cT, .slice aX c.fIndexes.length cX] 50)).alloc (.cells #[.string (strB d)] 9)).alloc (.cells #[.int .i64 0, .string { data := #[] }, .slice none 0 0, .slice none 0 0] 39)) (w.heap.size + 1) 9 [.string (strB d)] := (RowIs.alloc_at (w.alloc (.cells #[.int .i64 c.fVersion, .int .i64 c.fNext, .slice aT c.fTables.length cT, .slice aX c.fIndexes.length cX] 50)) _ (by simp) #[.string (strB d)] 9).keep ((Keep.refl Nix _).alloc _) id
 have rowR : RowIs (((w.alloc (.cells #[.int .i64 c.fVersion, .int .i64 c.fNext, .slice aT c.fTables.length cT, .slice aX c.fIndexes.length cX] 50)).alloc (.cells #[.string (strB d)] 9)).alloc (.cells #[.int .i64 0, .string { data := #[] }, .slice none 0 0, .slice none 0 0] 39)) (w.heap.size + 1 + 1) 39 [.int .i64 0, .string { data := #[] }, .slice none 0 0, .slice none 0 0] := RowIs.alloc_at ((w.alloc (.cells #[.int .i64 c.fVersion, .int .i64 c.fNext, .slice aT c.fTables.length cT, .slice aX c.fIndexes.length cX] 50)).alloc (.cells #[.string (strB d)] 9)) _ (by simp) #[.int .i64 0, .string { data := #[] }, .slice none 0 0, .slice none 0 0] 39
 have kk : Keep Nix w (((w.alloc (.cells #[.int .i64 c.fVersion, .int .i64 c.fNext, .slice aT c.fTables.length cT, .slice aX c.fIndexes.length cX] 50)).alloc (.cells #[.string (strB d)] 9)).alloc (.cells #[.int .i64 0, .string { data := #[] }, .slice none 0 0, .slice none 0 0] 39)) := (((Keep.refl Nix w).alloc _).alloc _).alloc _
 have x2 := row0.cell 2
 simp only [List.getElem?_cons_succ, List.getElem?_cons_zero] at x2
 have hF := Lib.hid (ifTable_c (p := p) aT c.fTables.length cT c.fTables 161 (.pointer (some ⟨w.heap.size + 1, 0, none⟩)) (fun t => decide (t.fName = d)) _
  ((rList_lawful rGTable_lawful).nix hT kk) Tryz.call161 (fun w' z cs' k' _ hz => f_Table1 z cs' (w.heap.size + 1) d w' hz (Nat.lt_of_lt_of_le rowI.lt k'.size) ((rowI.keep k' id).cell 0)))
 rcases findB_cases (fun t : GTable => decide (t.fName = d)) c.fTables with ⟨h1, h2⟩ | ⟨k, hk, h1, h2, h3⟩
 ·rw [h1] at hF
  have hR := Lib.hid (firstB_none (z := zTab) h2)
  have hbd : ∀ w', (Instr.build 39 #[]).run Tryz.prog w' = .ok (.agg #[.int .i64 0, .string { data := #[] }, .slice none 0 0, .slice none 0 0]) w' := fun w' => by kernel_rfl
  clear h1 h2 hs
  go_enter Tryz.func105, Tryz.ntmps105
  go_wp2_with fail
  go_fit hF.out
  rintro e w1 ⟨rfl, k1⟩
  replace rowR := rowR.keep k1 id
  replace kk := kk.trans k1
  have hst := store_run (P := Tryz.prog) (cs := [.int .i64 0, .string { data := #[] }, .slice none 0 0, .slice none 0 0]) S_Table rowR rfl rfl rfl
  have rowF := rowR.setRow [.int .i64 0, .string { data := #[] }, .slice none 0 0, .slice none 0 0]
  have kF := kk.setRow (g := w.heap.size + 1 + 1) (fun h => by omega) [.int .i64 0, .string { data := #[] }, .slice none 0 0, .slice none 0 0].toArray
  clear k1 hF x2 rowI row0 rowR kk
  go_wp2_with fail
  refine bodyPost_ret (results_cell_row2 (by rfl) _ _ _ _ _ _ _ (by rfl) rowF Tryz.underlying39 (by rfl) S_Table.info) rfl ?_
  rw [hR.out]
  exact ⟨_, rfl, zTab_f _ _, kF⟩
 ·rw [h1] at hF
  have hR := Lib.hid (firstB_some (P := fun t : GTable => decide (t.fName = d)) (z := zTab) k hk h2 h3)
  have hi0 : (0 : Int) ≤ (k : Int) := by omega
  have hi1 : (k : Int) < (c.fTables.length : Int) := by omega
  obtain ⟨hx1, hx2⟩ := hs _ (List.getElem_mem hk)
  clear h1 h2 h3 hs
  go_enter Tryz.func105, Tryz.ntmps105
  go_wp2_with fail
  go_fit hF.out
  rintro e w1 ⟨rfl, k1⟩
  replace rowR := rowR.keep k1 id
  replace row0 := row0.keep k1 id
  replace kk := kk.trans k1
  obtain ⟨b, o, cc, cs, e1, -, hb, r, hcl⟩ := rList_at rGTable_lawful (by decide) ((rList_lawful rGTable_lawful).nix hT kk) k hk
  simp only [List.cons.injEq, Value.slice.injEq, and_true] at e1
  obtain ⟨rfl, -, -⟩ := e1
  have ld := Whole.at (P := Tryz.prog) S_Table (rGTable_lawful.len r) hcl
  unfold Whole at ld
  replace x2 := row0.cell 2
  simp only [List.getElem?_cons_succ, List.getElem?_cons_zero] at x2
  generalize c.fTables[k] = x at r hR hx1 hx2
  have hO := Lib.hid (ownTable_c x cs w1 r (by omega) (by omega))
  have hs1 := rowR.lt
  clear hF hcl k1 rowI
  go_wp2_with fail
  clear ld x2
  go_fit hO.out
  rintro e w2 ⟨cn, rfl, hN, k2⟩
  replace rowR := rowR.keep k2 id
  replace kk := kk.trans k2
  have hl4 := fGTable_lawful.len hN
  have hst := store_run (P := Tryz.prog) (cs := cn) S_Table rowR rfl hl4 (fGTable_ones hN)
  have rowF := rowR.setRow cn
  have kS : Keep (· = w.heap.size + 1 + 1) w2 (w2.setRow (w.heap.size + 1 + 1) cn.toArray) := (Keep.refl (· = w.heap.size + 1 + 1) w2).setRow (fun _ => rfl) cn.toArray
  have kF := kk.setRow (g := w.heap.size + 1 + 1) (fun h => by omega) cn.toArray
  have hN2 := fGTable_lawful.mono (q := NewIn w (w2.setRow (w.heap.size + 1 + 1) cn.toArray)) (fGTable_lawful.keep hN kS (fun b hb e => by have := hb.1; omega)) (fun b hb => ⟨by have := hb.1; omega, by have := hb.2; have := kS.size; omega⟩)
  have hin : (Tryz.prog.info? 39).map (·.size) = some cn.toArray.size := by rw [List.size_toArray, hl4]; exact S_Table.info
  have HIN := Lib.hid hin
  clear k2 row0 rowR kk kS hl4 hin hN hO
  go_wp2_with fail
  refine bodyPost_ret (results_cell_row2 (by rfl) _ _ _ _ _ _ _ (by rfl) rowF Tryz.underlying39 (by rfl) HIN.out) rfl ?_
  rw [hR.out]
  exact ⟨_, rfl, hN2, kF⟩
end
section
attribute [local go_sem ↓] ldz_Index stz_Index ldz_Catalog
end
end Go.Proofs.YtibaehlfpgipfaaGreat
namespace Go.Proofs.YtibaehlfpgipfaaGreat
open Go.RowKit
set_option linter.unusedSimpArgs false
theorem step_append1 {P : Program} {t e sz bytes : Nat} (T : SliceT P t e sz bytes) {w : World} {cs : Array Value} {t' : TypeId} {ops : Array Oper} {o : Oper} {a : Act} {K : Act → World → Prop} {Q : Exit → Act → World → Prop} {E : Prop} (hgd : o.guard = none) (s x : Operand)
  (ho : o.op = .call { callee := .builtin .append, args := #[s, x], argTypes := #[t, t] })
  (base : Nat) {v : Value} {n : Nat} {xs : List Value} (hs : a.eval s = v) (hown : w.ownsRow base e sz v n xs)
  {c : Nat} (hx : a.eval x = .slice (some ⟨w.heap.size, 0, none⟩) 1 c) (hl : cs.size = sz) (h1 : ∀ u ∈ cs.toList, u.oneCell' = true)
  (h63 : n + 1 ≤ maxLen) (hbytes : (n + 1) * bytes ≤ 140737488355328) (hbase : base ≤ w.heap.size)
  (h : ∀ a' cap' w', w'.ownsRow base e sz (.slice a' (n + 1) cap') (n + 1) (xs ++ cs.toList) → Keep (OwnB v) w w' → (∀ b, OwnB (.slice a' (n + 1) cap') b → OwnB v b ∨ w.heap.size ≤ b) → K (a.put o.dst (.slice a' (n + 1) cap')) w') :
  if Region.wanted o (yielded ops a.tmps) = true then Oper.wp P o a (w.alloc (.cells cs t')) K Q else E := by
 obtain ⟨i, z, hi, hz, hsz, hby, hzs⟩ := T.info
 obtain ⟨b, off, hb, hp, hlt, hc⟩ := Lies.block w cs t' (· = w.heap.size) rfl (fun e => by
  have := congrArg List.length e
  rw [Array.length_toList, hl, List.length_nil] at this
  exact absurd this (Nat.ne_of_gt T.pos))
 simp only [Option.some.injEq, Addr.mk.injEq] at hb
 obtain ⟨rfl, rfl, -⟩ := hb
 refine step_append_lies (w.alloc (.cells cs t')) hgd s x t ho base e i z sz bytes T.under hi hz hsz hby hzs T.pos v n xs hs (hown.alloc _) ⟨w.heap.size, 0, none⟩ 1 c cs.toList hx (by simp [hl]) (fun j u hu => by rw [Addr.add_lit]; exact hc j u hu) h1 (by decide) h63 hbytes (by simp; omega) (w.alloc (.cells cs t')).heap.size rfl ?_
 intro g cap' w' ho' hg hat hlt'
 refine h _ cap' w' ho' (((Keep.refl _ _).alloc _).grown hg fun _ hk _ => hk) (fun b hb => ?_)
 have hgb : b = g := by simp [OwnB, Value.ownBlock] at hb; exact hb.symm
 subst hgb
 rcases hat with hat | hat
 ·exact .inl hat
 ·exact .inr (by subst hat; simp)
theorem Els.push0 {α : Type} {R : RD α} {sz : Nat} {w wr w2 w3 : World} {css : List (List Value)} {xs : List α} {v v' : Value} {c : List Value} {x : α} (els : Els R wr (fun b => NewIn w wr b ∧ ¬ OwnB v b) css xs) (L : Lawful R sz) (hc : R w2 (NewIn wr w2) c x) (k2 : Keep Nix wr w2) (k3 : Keep (OwnB v) w2 w3) (hw : w.heap.size ≤ wr.heap.size)
  (hv : ∀ b, OwnB v b → b < wr.heap.size) (hn : ∀ b, OwnB v' b → OwnB v b ∨ w2.heap.size ≤ b) : Els R w3 (fun b => NewIn w w3 b ∧ ¬ OwnB v' b) (css ++ [c]) (xs ++ [x]) := by
 have s2 := k2.size
 have s3 := k3.size
 refine Els.snoc ?_ ?_
 ·refine ((els.keep L k2 (fun _ _ h => h)).keep L k3 (fun b hb => hb.2)).mono L (fun b hb => ⟨⟨hb.1.1, by have := hb.1.2; omega⟩, fun h => ?_⟩)
  rcases hn b h with h | h
  ·exact hb.2 h
  ·have := hb.1.2; omega
 ·refine L.mono (L.keep hc k3 (fun b hb h => by have := hv b h; have := hb.1; omega)) (fun b hb => ⟨⟨by have := hb.1; omega, by have := hb.2; omega⟩, fun h => ?_⟩)
  rcases hn b h with h | h
  ·have := hv b h; have := hb.1; omega
  ·have := hb.2; omega
def OwnCat (base : Nat) (w' : World) (cs : List Value) (c : GCatalog) : Prop := ∃ (aT : Option Addr) (cT : Nat) (aX : Option Addr) (cX : Nat) (cssT cssX : List (List Value)) (m : Nat), cs = [.int .i64 c.fVersion, .int .i64 c.fNext, .slice aT c.fTables.length cT, .slice aX c.fIndexes.length cX] ∧ base ≤ m ∧ m ≤ w'.heap.size ∧
 w'.ownsRow base 39 4 (.slice aT c.fTables.length cT) c.fTables.length cssT.flatten ∧ (∀ b, OwnB (.slice aT c.fTables.length cT) b → b < m) ∧ Els fGTable w' (fun b => base ≤ b ∧ b < m ∧ ¬ OwnB (.slice aT c.fTables.length cT) b) cssT c.fTables ∧
 w'.ownsRow m 41 7 (.slice aX c.fIndexes.length cX) c.fIndexes.length cssX.flatten ∧ Els fGIndex w' (fun b => m ≤ b ∧ b < w'.heap.size ∧ ¬ OwnB (.slice aX c.fIndexes.length cX) b) cssX c.fIndexes
def RetOwn (w : World) (c : GCatalog) (e : Ending) (w' : World) : Prop := ∃ cs : List Value, e = .returned (.agg cs.toArray) ∧ OwnCat (w.heap.size + 1 + 1 + 1) w' cs c ∧ Keep Nix w w'
section
attribute [local go_sem ↓] ldz_Table stz_Table ldz_Catalog stz_Catalog ldz_Index stz_Index lsz_Table lsz_Index
set_option maxRecDepth 100000 in
set_option maxHeartbeats 8000000 in
theorem Own_o {p : Nat → Prop} (c : GCatalog) (csc : List Value) (w : World) (hc : rGCatalog w p csc c) (hs : smallC c) :
  Calls Tryz.prog 34 #[.agg csc.toArray] w (RetOwn w c) := by
 obtain ⟨aT, cT, aX, cX, rfl, hv, hn, hT, hX, -⟩ := rGCatalog_open hc
 obtain ⟨hsT, hsX, nT, nX⟩ := hs
 have mT : c.fTables.length ≤ 140737488351232 := by omega
 have mX : c.fIndexes.length ≤ 140737488351232 := by omega
 have HST := Lib.hid hsT
 have HSX := Lib.hid hsX
 have row0 : RowIs (((w.alloc (.cells #[.int .i64 c.fVersion, .int .i64 c.fNext, .slice aT c.fTables.length cT, .slice aX c.fIndexes.length cX] 50)).alloc (.cells #[.int .i64 0, .int .i64 0, .slice none 0 0, .slice none 0 0] 50)).alloc (.cells #[.int .i64 0, .int .i64 0, .slice none 0 0, .slice none 0 0] 50)) w.heap.size 50 [.int .i64 c.fVersion, .int .i64 c.fNext, .slice aT c.fTables.length cT, .slice aX c.fIndexes.length cX] := ((RowIs.alloc w _ _).keep ((Keep.refl Nix _).alloc _) id).keep ((Keep.refl Nix _).alloc _) id
 have rowR : RowIs (((w.alloc (.cells #[.int .i64 c.fVersion, .int .i64 c.fNext, .slice aT c.fTables.length cT, .slice aX c.fIndexes.length cX] 50)).alloc (.cells #[.int .i64 0, .int .i64 0, .slice none 0 0, .slice none 0 0] 50)).alloc (.cells #[.int .i64 0, .int .i64 0, .slice none 0 0, .slice none 0 0] 50)) (w.heap.size + 1) 50 [.int .i64 0, .int .i64 0, .slice none 0 0, .slice none 0 0] := (RowIs.alloc_at (w.alloc (.cells #[.int .i64 c.fVersion, .int .i64 c.fNext, .slice aT c.fTables.length cT, .slice aX c.fIndexes.length cX] 50)) _ (by simp) #[.int .i64 0, .int .i64 0, .slice none 0 0, .slice none 0 0] 50).keep ((Keep.refl Nix _).alloc _) id
 have rowO0 : RowIs (((w.alloc (.cells #[.int .i64 c.fVersion, .int .i64 c.fNext, .slice aT c.fTables.length cT, .slice aX c.fIndexes.length cX] 50)).alloc (.cells #[.int .i64 0, .int .i64 0, .slice none 0 0, .slice none 0 0] 50)).alloc (.cells #[.int .i64 0, .int .i64 0, .slice none 0 0, .slice none 0 0] 50)) (w.heap.size + 1 + 1) 50 [.int .i64 0, .int .i64 0, .slice none 0 0, .slice none 0 0] := RowIs.alloc_at ((w.alloc (.cells #[.int .i64 c.fVersion, .int .i64 c.fNext, .slice aT c.fTables.length cT, .slice aX c.fIndexes.length cX] 50)).alloc (.cells #[.int .i64 0, .int .i64 0, .slice none 0 0, .slice none 0 0] 50)) _ (by simp) #[.int .i64 0, .int .i64 0, .slice none 0 0, .slice none 0 0] 50
 have hst := store_run (P := Tryz.prog) (cs := [.int .i64 c.fVersion, .int .i64 c.fNext, .slice none 0 0, .slice none 0 0]) S_Catalog rowO0 rfl rfl rfl
 have rowO := rowO0.setRow [.int .i64 c.fVersion, .int .i64 c.fNext, .slice none 0 0, .slice none 0 0]
 have kS : Keep (fun b => b = w.heap.size + 1 + 1) (((w.alloc (.cells #[.int .i64 c.fVersion, .int .i64 c.fNext, .slice aT c.fTables.length cT, .slice aX c.fIndexes.length cX] 50)).alloc (.cells #[.int .i64 0, .int .i64 0, .slice none 0 0, .slice none 0 0] 50)).alloc (.cells #[.int .i64 0, .int .i64 0, .slice none 0 0, .slice none 0 0] 50)) ((((w.alloc (.cells #[.int .i64 c.fVersion, .int .i64 c.fNext, .slice aT c.fTables.length cT, .slice aX c.fIndexes.length cX] 50)).alloc (.cells #[.int .i64 0, .int .i64 0, .slice none 0 0, .slice none 0 0] 50)).alloc (.cells #[.int .i64 0, .int .i64 0, .slice none 0 0, .slice none 0 0] 50)).setRow (w.heap.size + 1 + 1) [.int .i64 c.fVersion, .int .i64 c.fNext, .slice none 0 0, .slice none 0 0].toArray) := (Keep.refl (fun b => b = w.heap.size + 1 + 1) _).setRow (fun _ => rfl) _
 replace row0 := row0.keep kS (by omega)
 replace rowR := rowR.keep kS (by omega)
 have kk : Keep Nix w ((((w.alloc (.cells #[.int .i64 c.fVersion, .int .i64 c.fNext, .slice aT c.fTables.length cT, .slice aX c.fIndexes.length cX] 50)).alloc (.cells #[.int .i64 0, .int .i64 0, .slice none 0 0, .slice none 0 0] 50)).alloc (.cells #[.int .i64 0, .int .i64 0, .slice none 0 0, .slice none 0 0] 50)).setRow (w.heap.size + 1 + 1) [.int .i64 c.fVersion, .int .i64 c.fNext, .slice none 0 0, .slice none 0 0].toArray) := ((((Keep.refl Nix w).alloc _).alloc _).alloc _).then kS (fun i hi e => by omega)
 have hbd : ∀ w', (Instr.build 50 #[(0, .int .i64 c.fVersion), (1, .int .i64 c.fNext)]).run Tryz.prog w' = .ok (.agg #[.int .i64 c.fVersion, .int .i64 c.fNext, .slice none 0 0, .slice none 0 0]) w' := fun w' => by kernel_rfl
 obtain ⟨w0, hw0⟩ : ∃ w0 : World, w0.heap.size = w.heap.size + 1 + 1 + 1 := ⟨((((w.alloc (.cells #[.int .i64 c.fVersion, .int .i64 c.fNext, .slice aT c.fTables.length cT, .slice aX c.fIndexes.length cX] 50)).alloc (.cells #[.int .i64 0, .int .i64 0, .slice none 0 0, .slice none 0 0] 50)).alloc (.cells #[.int .i64 0, .int .i64 0, .slice none 0 0, .slice none 0 0] 50)).setRow (w.heap.size + 1 + 1) [.int .i64 c.fVersion, .int .i64 c.fNext, .slice none 0 0, .slice none 0 0].toArray), by simp⟩
 clear hc hsT hsX kS rowO0
 have x0 := row0.cell 0
 have x1 := row0.cell 1
 have x2 := row0.cell 2
 simp only [List.getElem?_cons_succ, List.getElem?_cons_zero] at x0 x1 x2
 go_enter Tryz.func34, Tryz.ntmps34
 go_wp2_with fail
 clear hst hbd x0 x1 x2
 go_loopw [16] (fun i wr => ∃ (k : Nat) (a : Option Addr) (cap : Nat) (css : List (List Value)), k ≤ c.fTables.length ∧ i = .int .i64 k ∧ wr.ownsRow (w.heap.size + 1 + 1 + 1) 39 4 (.slice a k cap) k css.flatten ∧ Els fGTable wr (fun b => NewIn w0 wr b ∧ ¬ OwnB (.slice a k cap) b) css (c.fTables.take k) ∧ RowIs wr (w.heap.size + 1 + 1) 50 [.int .i64 c.fVersion, .int .i64 c.fNext, .slice a k cap, .slice none 0 0] ∧ RowIs wr w.heap.size 50 [.int .i64 c.fVersion, .int .i64 c.fNext, .slice aT c.fTables.length cT, .slice aX c.fIndexes.length cX] ∧ RowIs wr (w.heap.size + 1) 50 [.int .i64 0, .int .i64 0, .slice none 0 0, .slice none 0 0] ∧ Keep Nix w wr) (fun i _ => c.fTables.length - (intOf i).toNat)
 case atStart => exact ⟨0, none, 0, [], by omega, rfl, World.ownsRow_nil _ _ _ _, Els.nil _ _ _, rowO, row0, rowR, kk⟩
 case round =>
  clear row0 kk rowR rowO
  obtain ⟨k, ao, co, css, hk, rfl, own, els, rowO, row0, rowR, kk⟩ := hrel
  have hbO : w.heap.size + 1 + 1 < wr.heap.size := rowO.lt
  by_cases hlt : k < c.fTables.length
  ·have hi0 : (0 : Int) ≤ (k : Int) := by omega
   have hi1 : (k : Int) < (c.fTables.length : Int) := by omega
   obtain ⟨b, o, cc, cs, e1, -, hb, r, hcl⟩ := rList_at rGTable_lawful (by decide) ((rList_lawful rGTable_lawful).nix hT kk) k hlt
   simp only [List.cons.injEq, Value.slice.injEq, and_true] at e1
   obtain ⟨rfl, -, -⟩ := e1
   have HTK : Hid (c.fTables.take (k + 1) = c.fTables.take k ++ [c.fTables[k]]) := List.take_succ_eq_append_getElem hlt
   obtain ⟨hx1, hx2⟩ := HST.out _ (List.getElem_mem hlt)
   generalize c.fTables[k] = x at r HTK hx1 hx2
   have hlen := rGTable_lawful.len r
   have ones_ := rGTable_ones r
   have ld := Whole.at (P := Tryz.prog) S_Table hlen hcl
   unfold Whole at ld
   have hst := store_run (P := Tryz.prog) (cs := cs) S_Table (RowIs.alloc wr #[.int .i64 0, .string { data := #[] }, .slice none 0 0, .slice none 0 0] 39) rfl hlen ones_
   have rowX := (RowIs.alloc wr #[.int .i64 0, .string { data := #[] }, .slice none 0 0, .slice none 0 0] 39).setRow cs
   have kV : Keep Nix wr ((wr.alloc (.cells #[.int .i64 0, .string { data := #[] }, .slice none 0 0, .slice none 0 0] 39)).setRow wr.heap.size cs.toArray) := ((Keep.refl Nix wr).alloc (.cells #[.int .i64 0, .string { data := #[] }, .slice none 0 0, .slice none 0 0] 39)).setRow (fun h => absurd h (Nat.lt_irrefl _)) _
   replace row0 := row0.keep kV id
   replace rowR := rowR.keep kV id
   replace rowO := rowO.keep kV id
   replace kk := kk.trans kV
   replace r := rGTable_lawful.nix r kV
   have hob0 : ∀ b, OwnB (.slice ao k co) b → b < wr.heap.size := fun b hb => (own.lt b hb).2
   replace own := owned_keep own kV (fun _ _ h => h)
   have hsz := kV.size
   have els1 := (els.keep fGTable_lawful kV (fun _ _ h => h)).mono (q := fun b => NewIn w0 ((wr.alloc (.cells #[.int .i64 0, .string { data := #[] }, .slice none 0 0, .slice none 0 0] 39)).setRow wr.heap.size cs.toArray) b ∧ ¬ OwnB (.slice ao k co) b) fGTable_lawful (fun b hb => ⟨⟨hb.1.1, by have := hb.1.2; omega⟩, hb.2⟩)
   clear kV hcl els
   go_wp2_with fail
   clear ld hst
   generalize hwx : ((wr.alloc (.cells #[.int .i64 0, .string { data := #[] }, .slice none 0 0, .slice none 0 0] 39)).setRow wr.heap.size cs.toArray) = wx at *
   have hobx : ∀ b, OwnB (.slice ao k co) b → b < wr.heap.size := hob0
   generalize wr.heap.size = bx at *
   clear hwx
   have hbx := rowX.lt
   replace row0 := row0.same (w' := wx.drew)
   replace rowR := rowR.same (w' := wx.drew)
   replace rowO := rowO.same (w' := wx.drew)
   replace rowX := rowX.same (w' := wx.drew)
   replace own := owned_same own (w' := wx.drew)
   replace els1 := els1.keep fGTable_lawful ((Keep.refl Nix wx).drew) (fun _ _ h => h)
   replace r := rGTable_lawful.nix r ((Keep.refl Nix wx).drew)
   replace kk := kk.drew
   have hwl : w0.heap.size ≤ wx.drew.heap.size := by have : w.heap.size + 1 + 1 < wx.drew.heap.size := rowO.lt; omega
   have hvx := fun b hb => (own.lt b hb).2
   refine wp_region_held_drew (S := (fun w' => (wholeSem 39 (.pointer (some ⟨bx, 0, none⟩))).run Tryz.prog w' = .ok (.value (.agg cs.toArray)) w')) (by kernel_rfl) (Whole.row S_Table hlen rowX) (fun hHeld => ?_)
   refine tk 0 (v := ?_) rfl ?_ hHeld ?_
   rotate_left
   ·intro w' hSw
    (try dsimp only at hSw)
    try simp only [zz1, zz2, zz3]
    go_simp
    try with_reducible rfl
   (try simp only [Act.put]); (try simp only [List.setIfInBounds_toArray]); (try simp only [List.set_cons_succ]); (try simp only [List.set_cons_zero])
   refine tk 2 (v := ?_) rfl ?_ hHeld ?_
   rotate_left
   ·intro w' hSw
    (try dsimp only at hSw)
    try simp only [zz1, zz2, zz3]
    go_simp
    try with_reducible rfl
   (try simp only [Act.put]); (try simp only [List.setIfInBounds_toArray]); (try simp only [List.set_cons_succ]); (try simp only [List.set_cons_zero])
   refine wpAnyH_ready (rs := [1, 3]) (by kernel_rfl) (by simp) ?_
   refine AllReadyH.cons rfl (fun K hK => ?_) (AllReadyH.cons rfl (fun K hK => ?_) AllReadyH.nil)
   ·have x2 := rowO.cell 2
    have f2 := rowO.frozen 2
    simp only [List.getElem?_cons_succ, List.getElem?_cons_zero] at x2
    try simp only [zz1, zz2, zz3]
    go_simp
    clear x2 f2
    refine hK.out _ _ (Whole.row S_Table hlen rowX) (fun hHeld => ?_)
    clear hK K
    (try simp only [Act.put]); (try simp only [List.setIfInBounds_toArray]); (try simp only [List.set_cons_succ]); (try simp only [List.set_cons_zero])
    refine wpAnyH_ready (rs := [3]) (by kernel_rfl) (by simp) ?_
    refine AllReadyH.cons rfl (fun K hK => ?_) AllReadyH.nil
    go_simp
    go_fit (ownTable_c x cs _ r (by omega) (by omega))
    rintro e w1 ⟨cn, rfl, hN, k1⟩
    replace row0 := row0.keep k1 id
    replace rowR := rowR.keep k1 id
    replace rowO := rowO.keep k1 id
    replace rowX := rowX.keep k1 id
    replace kk := kk.trans k1
    replace own := owned_keep own k1 (fun _ _ h => h)
    have hln := fGTable_lawful.len hN
    have hls := list_run (P := Tryz.prog) T_lTable (by decide) cn hln w1
    clear r
    go_wp2_with fail
    refine hK.out _ _ (Whole.row S_Table hlen rowX) (fun hHeld => ?_)
    clear hK K
    (try simp only [Act.put]); (try simp only [List.setIfInBounds_toArray]); (try simp only [List.set_cons_succ]); (try simp only [List.set_cons_zero])
    refine wpAnyH_ready (rs := [4]) (by kernel_rfl) (by simp) ?_
    refine AllReadyH.cons rfl (fun K hK => ?_) AllReadyH.nil
    try simp only [zz1, zz2, zz3]
    go_simp
    clear hls
    have rowX4 := rowX.keep ((Keep.refl Nix w1).alloc (.cells cn.toArray 39)) id
    have rowO4 := rowO.keep ((Keep.refl Nix w1).alloc (.cells cn.toArray 39)) id
    refine hK.out _ _ (Whole.row S_Table hlen rowX4) (fun hHeld => ?_)
    clear hK K
    (try simp only [Act.put]); (try simp only [List.setIfInBounds_toArray]); (try simp only [List.set_cons_succ]); (try simp only [List.set_cons_zero])
    refine wpAnyH_ready (rs := [5]) (by kernel_rfl) (by simp) ?_
    refine AllReadyH.cons rfl (fun K hK => ?_) AllReadyH.nil
    have hb0 : w.heap.size + 1 + 1 + 1 ≤ w1.heap.size := rowO.lt
    have hbx1 := hbx
    refine step_append1 T_lTable (by rfl) (.tmp 21) (.tmp 24) (by rfl) (w.heap.size + 1 + 1 + 1) (by rfl) own (by rfl) (by simpa using hln) (by simpa [ones] using fGTable_ones hN) (by unfold maxLen; omega) (by omega) hb0 ?_
    intro a' cap' w6 own6 k6 hfresh
    have hn6 : ∀ b, OwnB (.slice ao k co) b → w.heap.size + 1 + 1 + 1 ≤ b := fun b hb => (own.lt b hb).1
    have els2 := els1.push0 fGTable_lawful hN k1 k6 hwl hvx hfresh
    replace row0 := row0.keep k6 (fun hb => by have := hn6 _ hb; omega)
    replace rowR := rowR.keep k6 (fun hb => by have := hn6 _ hb; omega)
    replace rowO := rowO.keep k6 (fun hb => by have := hn6 _ hb; omega)
    replace rowX := rowX.keep k6 (fun hb => by have := hobx _ hb; omega)
    replace kk := kk.then k6 (fun i hi hb => by have := hn6 _ hb; omega)
    clear own hN
    refine hK.out _ _ (Whole.row S_Table hlen rowX) (fun hHeld => ?_)
    clear hK K
    (try simp only [Act.put]); (try simp only [List.setIfInBounds_toArray]); (try simp only [List.set_cons_succ]); (try simp only [List.set_cons_zero])
    refine tk 6 (v := ?_) rfl ?_ hHeld ?_
    rotate_left
    ·intro w' hSw
     (try dsimp only at hSw)
     try simp only [zz1, zz2, zz3]
     go_simp
     try with_reducible rfl
    (try simp only [Act.put]); (try simp only [List.setIfInBounds_toArray]); (try simp only [List.set_cons_succ]); (try simp only [List.set_cons_zero])
    refine wpAnyH_ready (rs := [7]) (by kernel_rfl) (by simp) ?_
    refine AllReadyH.cons rfl (fun K hK => ?_) AllReadyH.nil
    have x2 := rowO.cell 2
    have f2 := rowO.frozen 2
    simp only [List.getElem?_cons_succ, List.getElem?_cons_zero] at x2
    have rowO7 := rowO.set 2 (.slice a' (k + 1) cap')
    simp only [List.set_cons_succ, List.set_cons_zero] at rowO7
    have k7 := (Keep.refl (fun b => b = w.heap.size + 1 + 1) w6).setCell (p := ⟨w.heap.size + 1 + 1, 2, none⟩) (fun _ => rfl) (.slice a' (k + 1) cap')
    try simp only [zz1, zz2, zz3]
    go_simp
    clear x2 f2
    have rowX7 := rowX.keep k7 (by omega)
    refine hK.out _ _ (Whole.row S_Table hlen rowX7) (fun hHeld => ?_)
    clear hK K
    (try simp only [Act.put]); (try simp only [List.setIfInBounds_toArray]); (try simp only [List.set_cons_succ]); (try simp only [List.set_cons_zero])
    refine wpAnyH_done (by kernel_rfl) ?_ _
    clear hHeld rowX rowX7
    replace row0 := row0.keep k7 (by omega)
    replace rowR := rowR.keep k7 (by omega)
    have hn7 : ∀ b, OwnB (.slice a' (k + 1) cap') b → w.heap.size + 1 + 1 + 1 ≤ b := fun b hb => (own6.lt b hb).1
    replace own6 := owned_keep own6 k7 (fun b hb e => by have := hn7 b hb; omega)
    have hs7 := k7.size
    have els7 := (els2.keep fGTable_lawful k7 (fun b hb e => by have := hb.1.1; omega)).mono (q := fun b => NewIn w0 (w6.setCell ⟨w.heap.size + 1 + 1, 2, none⟩ (.slice a' (k + 1) cap')) b ∧ ¬ OwnB (.slice a' (k + 1) cap') b) fGTable_lawful (fun b hb => ⟨⟨hb.1.1, by have := hb.1.2; omega⟩, hb.2⟩)
    replace kk := kk.then k7 (fun i hi e => by omega)
    clear els1 els2 k6 k7 hfresh rowO
    go_wp2_with fail
    go_roundw
    case rel => exact ⟨k + 1, a', cap', css ++ [cn], by omega, by go_num, by simpa using own6, by rw [HTK.out]; exact els7, rowO7, row0, rowR, kk⟩
    case measure => simp [intOf]; omega
   ·go_simp
    go_fit (ownTable_c x cs _ r (by omega) (by omega))
    rintro e w1 ⟨cn, rfl, hN, k1⟩
    replace row0 := row0.keep k1 id
    replace rowR := rowR.keep k1 id
    replace rowO := rowO.keep k1 id
    replace rowX := rowX.keep k1 id
    replace kk := kk.trans k1
    replace own := owned_keep own k1 (fun _ _ h => h)
    have hln := fGTable_lawful.len hN
    have hls := list_run (P := Tryz.prog) T_lTable (by decide) cn hln w1
    clear r
    go_wp2_with fail
    refine hK.out _ _ (Whole.row S_Table hlen rowX) (fun hHeld => ?_)
    clear hK K
    (try simp only [Act.put]); (try simp only [List.setIfInBounds_toArray]); (try simp only [List.set_cons_succ]); (try simp only [List.set_cons_zero])
    refine wpAnyH_ready (rs := [1, 4]) (by kernel_rfl) (by simp) ?_
    refine AllReadyH.cons rfl (fun K hK => ?_) (AllReadyH.cons rfl (fun K hK => ?_) AllReadyH.nil)
    ·have x2 := rowO.cell 2
     have f2 := rowO.frozen 2
     simp only [List.getElem?_cons_succ, List.getElem?_cons_zero] at x2
     try simp only [zz1, zz2, zz3]
     go_simp
     clear x2 f2
     refine hK.out _ _ (Whole.row S_Table hlen rowX) (fun hHeld => ?_)
     clear hK K
     (try simp only [Act.put]); (try simp only [List.setIfInBounds_toArray]); (try simp only [List.set_cons_succ]); (try simp only [List.set_cons_zero])
     refine wpAnyH_ready (rs := [4]) (by kernel_rfl) (by simp) ?_
     refine AllReadyH.cons rfl (fun K hK => ?_) AllReadyH.nil
     try simp only [zz1, zz2, zz3]
     go_simp
     clear hls
     have rowX4 := rowX.keep ((Keep.refl Nix w1).alloc (.cells cn.toArray 39)) id
     have rowO4 := rowO.keep ((Keep.refl Nix w1).alloc (.cells cn.toArray 39)) id
     refine hK.out _ _ (Whole.row S_Table hlen rowX4) (fun hHeld => ?_)
     clear hK K
     (try simp only [Act.put]); (try simp only [List.setIfInBounds_toArray]); (try simp only [List.set_cons_succ]); (try simp only [List.set_cons_zero])
     refine wpAnyH_ready (rs := [5]) (by kernel_rfl) (by simp) ?_
     refine AllReadyH.cons rfl (fun K hK => ?_) AllReadyH.nil
     have hb0 : w.heap.size + 1 + 1 + 1 ≤ w1.heap.size := rowO.lt
     have hbx1 := hbx
     refine step_append1 T_lTable (by rfl) (.tmp 21) (.tmp 24) (by rfl) (w.heap.size + 1 + 1 + 1) (by rfl) own (by rfl) (by simpa using hln) (by simpa [ones] using fGTable_ones hN) (by unfold maxLen; omega) (by omega) hb0 ?_
     intro a' cap' w6 own6 k6 hfresh
     have hn6 : ∀ b, OwnB (.slice ao k co) b → w.heap.size + 1 + 1 + 1 ≤ b := fun b hb => (own.lt b hb).1
     have els2 := els1.push0 fGTable_lawful hN k1 k6 hwl hvx hfresh
     replace row0 := row0.keep k6 (fun hb => by have := hn6 _ hb; omega)
     replace rowR := rowR.keep k6 (fun hb => by have := hn6 _ hb; omega)
     replace rowO := rowO.keep k6 (fun hb => by have := hn6 _ hb; omega)
     replace rowX := rowX.keep k6 (fun hb => by have := hobx _ hb; omega)
     replace kk := kk.then k6 (fun i hi hb => by have := hn6 _ hb; omega)
     clear own hN
     refine hK.out _ _ (Whole.row S_Table hlen rowX) (fun hHeld => ?_)
     clear hK K
     (try simp only [Act.put]); (try simp only [List.setIfInBounds_toArray]); (try simp only [List.set_cons_succ]); (try simp only [List.set_cons_zero])
     refine tk 6 (v := ?_) rfl ?_ hHeld ?_
     rotate_left
     ·intro w' hSw
      (try dsimp only at hSw)
      try simp only [zz1, zz2, zz3]
      go_simp
      try with_reducible rfl
     (try simp only [Act.put]); (try simp only [List.setIfInBounds_toArray]); (try simp only [List.set_cons_succ]); (try simp only [List.set_cons_zero])
     refine wpAnyH_ready (rs := [7]) (by kernel_rfl) (by simp) ?_
     refine AllReadyH.cons rfl (fun K hK => ?_) AllReadyH.nil
     have x2 := rowO.cell 2
     have f2 := rowO.frozen 2
     simp only [List.getElem?_cons_succ, List.getElem?_cons_zero] at x2
     have rowO7 := rowO.set 2 (.slice a' (k + 1) cap')
     simp only [List.set_cons_succ, List.set_cons_zero] at rowO7
     have k7 := (Keep.refl (fun b => b = w.heap.size + 1 + 1) w6).setCell (p := ⟨w.heap.size + 1 + 1, 2, none⟩) (fun _ => rfl) (.slice a' (k + 1) cap')
     try simp only [zz1, zz2, zz3]
     go_simp
     clear x2 f2
     have rowX7 := rowX.keep k7 (by omega)
     refine hK.out _ _ (Whole.row S_Table hlen rowX7) (fun hHeld => ?_)
     clear hK K
     (try simp only [Act.put]); (try simp only [List.setIfInBounds_toArray]); (try simp only [List.set_cons_succ]); (try simp only [List.set_cons_zero])
     refine wpAnyH_done (by kernel_rfl) ?_ _
     clear hHeld rowX rowX7
     replace row0 := row0.keep k7 (by omega)
     replace rowR := rowR.keep k7 (by omega)
     have hn7 : ∀ b, OwnB (.slice a' (k + 1) cap') b → w.heap.size + 1 + 1 + 1 ≤ b := fun b hb => (own6.lt b hb).1
     replace own6 := owned_keep own6 k7 (fun b hb e => by have := hn7 b hb; omega)
     have hs7 := k7.size
     have els7 := (els2.keep fGTable_lawful k7 (fun b hb e => by have := hb.1.1; omega)).mono (q := fun b => NewIn w0 (w6.setCell ⟨w.heap.size + 1 + 1, 2, none⟩ (.slice a' (k + 1) cap')) b ∧ ¬ OwnB (.slice a' (k + 1) cap') b) fGTable_lawful (fun b hb => ⟨⟨hb.1.1, by have := hb.1.2; omega⟩, hb.2⟩)
     replace kk := kk.then k7 (fun i hi e => by omega)
     clear els1 els2 k6 k7 hfresh rowO
     go_wp2_with fail
     go_roundw
     case rel => exact ⟨k + 1, a', cap', css ++ [cn], by omega, by go_num, by simpa using own6, by rw [HTK.out]; exact els7, rowO7, row0, rowR, kk⟩
     case measure => simp [intOf]; omega
    ·try simp only [zz1, zz2, zz3]
     go_simp
     clear hls
     have rowX4 := rowX.keep ((Keep.refl Nix w1).alloc (.cells cn.toArray 39)) id
     have rowO4 := rowO.keep ((Keep.refl Nix w1).alloc (.cells cn.toArray 39)) id
     refine hK.out _ _ (Whole.row S_Table hlen rowX4) (fun hHeld => ?_)
     clear hK K
     (try simp only [Act.put]); (try simp only [List.setIfInBounds_toArray]); (try simp only [List.set_cons_succ]); (try simp only [List.set_cons_zero])
     refine wpAnyH_ready (rs := [1]) (by kernel_rfl) (by simp) ?_
     refine AllReadyH.cons rfl (fun K hK => ?_) AllReadyH.nil
     have x2 := rowO4.cell 2
     have f2 := rowO4.frozen 2
     simp only [List.getElem?_cons_succ, List.getElem?_cons_zero] at x2
     try simp only [zz1, zz2, zz3]
     go_simp
     clear x2 f2
     refine hK.out _ _ (Whole.row S_Table hlen rowX4) (fun hHeld => ?_)
     clear hK K
     (try simp only [Act.put]); (try simp only [List.setIfInBounds_toArray]); (try simp only [List.set_cons_succ]); (try simp only [List.set_cons_zero])
     refine wpAnyH_ready (rs := [5]) (by kernel_rfl) (by simp) ?_
     refine AllReadyH.cons rfl (fun K hK => ?_) AllReadyH.nil
     have hb0 : w.heap.size + 1 + 1 + 1 ≤ w1.heap.size := rowO.lt
     have hbx1 := hbx
     refine step_append1 T_lTable (by rfl) (.tmp 21) (.tmp 24) (by rfl) (w.heap.size + 1 + 1 + 1) (by rfl) own (by rfl) (by simpa using hln) (by simpa [ones] using fGTable_ones hN) (by unfold maxLen; omega) (by omega) hb0 ?_
     intro a' cap' w6 own6 k6 hfresh
     have hn6 : ∀ b, OwnB (.slice ao k co) b → w.heap.size + 1 + 1 + 1 ≤ b := fun b hb => (own.lt b hb).1
     have els2 := els1.push0 fGTable_lawful hN k1 k6 hwl hvx hfresh
     replace row0 := row0.keep k6 (fun hb => by have := hn6 _ hb; omega)
     replace rowR := rowR.keep k6 (fun hb => by have := hn6 _ hb; omega)
     replace rowO := rowO.keep k6 (fun hb => by have := hn6 _ hb; omega)
     replace rowX := rowX.keep k6 (fun hb => by have := hobx _ hb; omega)
     replace kk := kk.then k6 (fun i hi hb => by have := hn6 _ hb; omega)
     clear own hN
     refine hK.out _ _ (Whole.row S_Table hlen rowX) (fun hHeld => ?_)
     clear hK K
     (try simp only [Act.put]); (try simp only [List.setIfInBounds_toArray]); (try simp only [List.set_cons_succ]); (try simp only [List.set_cons_zero])
     refine tk 6 (v := ?_) rfl ?_ hHeld ?_
     rotate_left
     ·intro w' hSw
      (try dsimp only at hSw)
      try simp only [zz1, zz2, zz3]
      go_simp
      try with_reducible rfl
     (try simp only [Act.put]); (try simp only [List.setIfInBounds_toArray]); (try simp only [List.set_cons_succ]); (try simp only [List.set_cons_zero])
     refine wpAnyH_ready (rs := [7]) (by kernel_rfl) (by simp) ?_
     refine AllReadyH.cons rfl (fun K hK => ?_) AllReadyH.nil
     have x2 := rowO.cell 2
     have f2 := rowO.frozen 2
     simp only [List.getElem?_cons_succ, List.getElem?_cons_zero] at x2
     have rowO7 := rowO.set 2 (.slice a' (k + 1) cap')
     simp only [List.set_cons_succ, List.set_cons_zero] at rowO7
     have k7 := (Keep.refl (fun b => b = w.heap.size + 1 + 1) w6).setCell (p := ⟨w.heap.size + 1 + 1, 2, none⟩) (fun _ => rfl) (.slice a' (k + 1) cap')
     try simp only [zz1, zz2, zz3]
     go_simp
     clear x2 f2
     have rowX7 := rowX.keep k7 (by omega)
     refine hK.out _ _ (Whole.row S_Table hlen rowX7) (fun hHeld => ?_)
     clear hK K
     (try simp only [Act.put]); (try simp only [List.setIfInBounds_toArray]); (try simp only [List.set_cons_succ]); (try simp only [List.set_cons_zero])
     refine wpAnyH_done (by kernel_rfl) ?_ _
     clear hHeld rowX rowX7
     replace row0 := row0.keep k7 (by omega)
     replace rowR := rowR.keep k7 (by omega)
     have hn7 : ∀ b, OwnB (.slice a' (k + 1) cap') b → w.heap.size + 1 + 1 + 1 ≤ b := fun b hb => (own6.lt b hb).1
     replace own6 := owned_keep own6 k7 (fun b hb e => by have := hn7 b hb; omega)
     have hs7 := k7.size
     have els7 := (els2.keep fGTable_lawful k7 (fun b hb e => by have := hb.1.1; omega)).mono (q := fun b => NewIn w0 (w6.setCell ⟨w.heap.size + 1 + 1, 2, none⟩ (.slice a' (k + 1) cap')) b ∧ ¬ OwnB (.slice a' (k + 1) cap') b) fGTable_lawful (fun b hb => ⟨⟨hb.1.1, by have := hb.1.2; omega⟩, hb.2⟩)
     replace kk := kk.then k7 (fun i hi e => by omega)
     clear els1 els2 k6 k7 hfresh rowO
     go_wp2_with fail
     go_roundw
     case rel => exact ⟨k + 1, a', cap', css ++ [cn], by omega, by go_num, by simpa using own6, by rw [HTK.out]; exact els7, rowO7, row0, rowR, kk⟩
     case measure => simp [intOf]; omega
  ·obtain rfl : k = c.fTables.length := by omega
   have hTge : ∀ b, OwnB (.slice ao c.fTables.length co) b → w.heap.size + 1 + 1 + 1 ≤ b := fun b hb => (own.lt b hb).1
   have hTlt : ∀ b, OwnB (.slice ao c.fTables.length co) b → b < wr.heap.size := fun b hb => (own.lt b hb).2
   have ownT := own
   have elsT : Els fGTable wr (fun b => NewIn w0 wr b ∧ ¬ OwnB (.slice ao c.fTables.length co) b) css c.fTables := by
    have e : c.fTables.take c.fTables.length = c.fTables := List.take_length
    rw [e] at els
    exact els
   obtain ⟨cssT, hcssT⟩ : ∃ cssT, cssT = css := ⟨_, rfl⟩
   rw [← hcssT] at ownT elsT
   have hbO : w.heap.size + 1 + 1 + 1 ≤ wr.heap.size := rowO.lt
   obtain ⟨wo, rfl⟩ : ∃ wo : World, wo = wr := ⟨_, rfl⟩
   clear els own HST hk hlt hcssT
   have x3 := row0.cell 3
   simp only [List.getElem?_cons_succ, List.getElem?_cons_zero] at x3
   go_wp2_with fail
   clear x3
   go_loopw [31] (fun i wi => ∃ (k : Nat) (a : Option Addr) (cap : Nat) (css : List (List Value)), k ≤ c.fIndexes.length ∧ i = .int .i64 k ∧ wi.ownsRow wo.heap.size 41 7 (.slice a k cap) k css.flatten ∧ Els fGIndex wi (fun b => NewIn wo wi b ∧ ¬ OwnB (.slice a k cap) b) css (c.fIndexes.take k) ∧ RowIs wi (w.heap.size + 1 + 1) 50 [.int .i64 c.fVersion, .int .i64 c.fNext, .slice ao c.fTables.length co, .slice a k cap] ∧ wi.ownsRow (w.heap.size + 1 + 1 + 1) 39 4 (.slice ao c.fTables.length co) c.fTables.length cssT.flatten ∧ Els fGTable wi (fun b => NewIn w0 wo b ∧ ¬ OwnB (.slice ao c.fTables.length co) b) cssT c.fTables ∧ RowIs wi w.heap.size 50 [.int .i64 c.fVersion, .int .i64 c.fNext, .slice aT c.fTables.length cT, .slice aX c.fIndexes.length cX] ∧ RowIs wi (w.heap.size + 1) 50 [.int .i64 0, .int .i64 0, .slice none 0 0, .slice none 0 0] ∧ wo.heap.size ≤ wi.heap.size ∧ Keep Nix w wi) (fun i _ => c.fIndexes.length - (intOf i).toNat)
   case atStart => exact ⟨0, none, 0, [], by omega, rfl, World.ownsRow_nil _ _ _ _, Els.nil _ _ _, rowO, ownT, elsT, row0, rowR, Nat.le_refl _, kk⟩
   case round =>
    clear row0 kk rowR rowO ownT elsT
    obtain ⟨k, ai, ci, css, hk, rfl, own, els, rowO, ownT, elsT, row0, rowR, hwo, kk⟩ := hrel
    have aoe : ao = ao := rfl
    by_cases hlt : k < c.fIndexes.length
    ·have hi0 : (0 : Int) ≤ (k : Int) := by omega
     have hi1 : (k : Int) < (c.fIndexes.length : Int) := by omega
     obtain ⟨b, o, cc, cs, e1, -, hb, r, hcl⟩ := rList_at rGIndex_lawful (by decide) ((rList_lawful rGIndex_lawful).nix hX kk) k hlt
     simp only [List.cons.injEq, Value.slice.injEq, and_true] at e1
     obtain ⟨rfl, -, -⟩ := e1
     have HTK : Hid (c.fIndexes.take (k + 1) = c.fIndexes.take k ++ [c.fIndexes[k]]) := List.take_succ_eq_append_getElem hlt
     have hx1 := HSX.out _ (List.getElem_mem hlt)
     unfold smallX at hx1
     generalize c.fIndexes[k] = x at r HTK hx1
     have hlen := rGIndex_lawful.len r
     have ones_ := rGIndex_ones r
     have ld := Whole.at (P := Tryz.prog) S_Index hlen hcl
     unfold Whole at ld
     have hst := store_run (P := Tryz.prog) (cs := cs) S_Index (RowIs.alloc wr #[.int .i64 0, .int .i64 0, .string { data := #[] }, .slice none 0 0, .bool false, .int .i64 0, .bool false] 41) rfl hlen ones_
     have rowX := (RowIs.alloc wr #[.int .i64 0, .int .i64 0, .string { data := #[] }, .slice none 0 0, .bool false, .int .i64 0, .bool false] 41).setRow cs
     have kV : Keep Nix wr ((wr.alloc (.cells #[.int .i64 0, .int .i64 0, .string { data := #[] }, .slice none 0 0, .bool false, .int .i64 0, .bool false] 41)).setRow wr.heap.size cs.toArray) := ((Keep.refl Nix wr).alloc (.cells #[.int .i64 0, .int .i64 0, .string { data := #[] }, .slice none 0 0, .bool false, .int .i64 0, .bool false] 41)).setRow (fun h => absurd h (Nat.lt_irrefl _)) _
     replace row0 := row0.keep kV id
     replace rowR := rowR.keep kV id
     replace rowO := rowO.keep kV id
     replace kk := kk.trans kV
     replace r := rGIndex_lawful.nix r kV
     replace ownT := owned_keep ownT kV (fun _ _ h => h)
     replace elsT := elsT.keep fGTable_lawful kV (fun _ _ h => h)
     have hob0 : ∀ b, OwnB (.slice ai k ci) b → b < wr.heap.size := fun b hb => (own.lt b hb).2
     replace own := owned_keep own kV (fun _ _ h => h)
     have hsz := kV.size
     have els1 := (els.keep fGIndex_lawful kV (fun _ _ h => h)).mono (q := fun b => NewIn wo ((wr.alloc (.cells #[.int .i64 0, .int .i64 0, .string { data := #[] }, .slice none 0 0, .bool false, .int .i64 0, .bool false] 41)).setRow wr.heap.size cs.toArray) b ∧ ¬ OwnB (.slice ai k ci) b) fGIndex_lawful (fun b hb => ⟨⟨hb.1.1, by have := hb.1.2; omega⟩, hb.2⟩)
     clear kV hcl els
     go_wp2_with fail
     clear ld hst
     generalize hwx : ((wr.alloc (.cells #[.int .i64 0, .int .i64 0, .string { data := #[] }, .slice none 0 0, .bool false, .int .i64 0, .bool false] 41)).setRow wr.heap.size cs.toArray) = wx at *
     have hobx : ∀ b, OwnB (.slice ai k ci) b → b < wr.heap.size := hob0
     generalize wr.heap.size = bx at *
     clear hwx
     have hbx := rowX.lt
     replace row0 := row0.same (w' := wx.drew)
     replace rowR := rowR.same (w' := wx.drew)
     replace rowO := rowO.same (w' := wx.drew)
     replace rowX := rowX.same (w' := wx.drew)
     replace own := owned_same own (w' := wx.drew)
     replace els1 := els1.keep fGIndex_lawful ((Keep.refl Nix wx).drew) (fun _ _ h => h)
     replace r := rGIndex_lawful.nix r ((Keep.refl Nix wx).drew)
     replace ownT := owned_same ownT (w' := wx.drew)
     replace elsT := elsT.keep fGTable_lawful ((Keep.refl Nix wx).drew) (fun _ _ h => h)
     replace kk := kk.drew
     have hwl : wo.heap.size ≤ wx.drew.heap.size := Nat.le_trans hwo hsz
     have hvx := fun b hb => (own.lt b hb).2
     refine wp_region_held_drew (S := (fun w' => (wholeSem 41 (.pointer (some ⟨bx, 0, none⟩))).run Tryz.prog w' = .ok (.value (.agg cs.toArray)) w')) (by kernel_rfl) (Whole.row S_Index hlen rowX) (fun hHeld => ?_)
     refine tk 0 (v := ?_) rfl ?_ hHeld ?_
     rotate_left
     ·intro w' hSw
      (try dsimp only at hSw)
      try simp only [zz1, zz2, zz3]
      go_simp
      try with_reducible rfl
     (try simp only [Act.put]); (try simp only [List.setIfInBounds_toArray]); (try simp only [List.set_cons_succ]); (try simp only [List.set_cons_zero])
     refine tk 2 (v := ?_) rfl ?_ hHeld ?_
     rotate_left
     ·intro w' hSw
      (try dsimp only at hSw)
      try simp only [zz1, zz2, zz3]
      go_simp
      try with_reducible rfl
     (try simp only [Act.put]); (try simp only [List.setIfInBounds_toArray]); (try simp only [List.set_cons_succ]); (try simp only [List.set_cons_zero])
     refine wpAnyH_ready (rs := [1, 3]) (by kernel_rfl) (by simp) ?_
     refine AllReadyH.cons rfl (fun K hK => ?_) (AllReadyH.cons rfl (fun K hK => ?_) AllReadyH.nil)
     ·have x2 := rowO.cell 3
      have f2 := rowO.frozen 3
      simp only [List.getElem?_cons_succ, List.getElem?_cons_zero] at x2
      try simp only [zz1, zz2, zz3]
      go_simp
      clear x2 f2
      refine hK.out _ _ (Whole.row S_Index hlen rowX) (fun hHeld => ?_)
      clear hK K
      (try simp only [Act.put]); (try simp only [List.setIfInBounds_toArray]); (try simp only [List.set_cons_succ]); (try simp only [List.set_cons_zero])
      refine wpAnyH_ready (rs := [3]) (by kernel_rfl) (by simp) ?_
      refine AllReadyH.cons rfl (fun K hK => ?_) AllReadyH.nil
      go_simp
      go_fit (ownIndex_c x cs _ r (by omega))
      rintro e w1 ⟨cn, rfl, hN, k1⟩
      replace row0 := row0.keep k1 id
      replace rowR := rowR.keep k1 id
      replace rowO := rowO.keep k1 id
      replace rowX := rowX.keep k1 id
      replace kk := kk.trans k1
      replace own := owned_keep own k1 (fun _ _ h => h)
      have hln := fGIndex_lawful.len hN
      have hls := list_run (P := Tryz.prog) T_lIndex (by decide) cn hln w1
      replace ownT := owned_keep ownT k1 (fun _ _ h => h)
      replace elsT := elsT.keep fGTable_lawful k1 (fun _ _ h => h)
      have hwl1 := Nat.le_trans hwl k1.size
      clear r
      go_wp2_with fail
      refine hK.out _ _ (Whole.row S_Index hlen rowX) (fun hHeld => ?_)
      clear hK K
      (try simp only [Act.put]); (try simp only [List.setIfInBounds_toArray]); (try simp only [List.set_cons_succ]); (try simp only [List.set_cons_zero])
      refine wpAnyH_ready (rs := [4]) (by kernel_rfl) (by simp) ?_
      refine AllReadyH.cons rfl (fun K hK => ?_) AllReadyH.nil
      try simp only [zz1, zz2, zz3]
      go_simp
      clear hls
      have rowX4 := rowX.keep ((Keep.refl Nix w1).alloc (.cells cn.toArray 41)) id
      have rowO4 := rowO.keep ((Keep.refl Nix w1).alloc (.cells cn.toArray 41)) id
      refine hK.out _ _ (Whole.row S_Index hlen rowX4) (fun hHeld => ?_)
      clear hK K
      (try simp only [Act.put]); (try simp only [List.setIfInBounds_toArray]); (try simp only [List.set_cons_succ]); (try simp only [List.set_cons_zero])
      refine wpAnyH_ready (rs := [5]) (by kernel_rfl) (by simp) ?_
      refine AllReadyH.cons rfl (fun K hK => ?_) AllReadyH.nil
      have hb0 : wo.heap.size ≤ w1.heap.size := hwl1
      have hbx1 := hbx
      refine step_append1 T_lIndex (by rfl) (.tmp 36) (.tmp 39) (by rfl) (wo.heap.size) (by rfl) own (by rfl) (by simpa using hln) (by simpa [ones] using fGIndex_ones hN) (by unfold maxLen; omega) (by omega) hb0 ?_
      intro a' cap' w6 own6 k6 hfresh
      have hn6 : ∀ b, OwnB (.slice ai k ci) b → wo.heap.size ≤ b := fun b hb => (own.lt b hb).1
      have els2 := els1.push0 fGIndex_lawful hN k1 k6 hwl hvx hfresh
      replace row0 := row0.keep k6 (fun hb => by have := hn6 _ hb; omega)
      replace rowR := rowR.keep k6 (fun hb => by have := hn6 _ hb; omega)
      replace rowO := rowO.keep k6 (fun hb => by have := hn6 _ hb; omega)
      replace rowX := rowX.keep k6 (fun hb => by have := hobx _ hb; omega)
      replace kk := kk.then k6 (fun i hi hb => by have := hn6 _ hb; omega)
      replace ownT := owned_keep ownT k6 (fun b hb h => by have := hn6 _ h; have := hTlt b hb; omega)
      replace elsT := elsT.keep fGTable_lawful k6 (fun b hb h => by have := hn6 _ h; have := hb.1.2; omega)
      have hwl6 := Nat.le_trans hwl1 k6.size
      clear own hN
      refine hK.out _ _ (Whole.row S_Index hlen rowX) (fun hHeld => ?_)
      clear hK K
      (try simp only [Act.put]); (try simp only [List.setIfInBounds_toArray]); (try simp only [List.set_cons_succ]); (try simp only [List.set_cons_zero])
      refine tk 6 (v := ?_) rfl ?_ hHeld ?_
      rotate_left
      ·intro w' hSw
       (try dsimp only at hSw)
       try simp only [zz1, zz2, zz3]
       go_simp
       try with_reducible rfl
      (try simp only [Act.put]); (try simp only [List.setIfInBounds_toArray]); (try simp only [List.set_cons_succ]); (try simp only [List.set_cons_zero])
      refine wpAnyH_ready (rs := [7]) (by kernel_rfl) (by simp) ?_
      refine AllReadyH.cons rfl (fun K hK => ?_) AllReadyH.nil
      have x2 := rowO.cell 3
      have f2 := rowO.frozen 3
      simp only [List.getElem?_cons_succ, List.getElem?_cons_zero] at x2
      have rowO7 := rowO.set 3 (.slice a' (k + 1) cap')
      simp only [List.set_cons_succ, List.set_cons_zero] at rowO7
      have k7 := (Keep.refl (fun b => b = w.heap.size + 1 + 1) w6).setCell (p := ⟨w.heap.size + 1 + 1, 3, none⟩) (fun _ => rfl) (.slice a' (k + 1) cap')
      try simp only [zz1, zz2, zz3]
      go_simp
      clear x2 f2
      have rowX7 := rowX.keep k7 (by omega)
      refine hK.out _ _ (Whole.row S_Index hlen rowX7) (fun hHeld => ?_)
      clear hK K
      (try simp only [Act.put]); (try simp only [List.setIfInBounds_toArray]); (try simp only [List.set_cons_succ]); (try simp only [List.set_cons_zero])
      refine wpAnyH_done (by kernel_rfl) ?_ _
      clear hHeld rowX rowX7
      replace row0 := row0.keep k7 (by omega)
      replace rowR := rowR.keep k7 (by omega)
      have hn7 : ∀ b, OwnB (.slice a' (k + 1) cap') b → wo.heap.size ≤ b := fun b hb => (own6.lt b hb).1
      replace own6 := owned_keep own6 k7 (fun b hb e => by have := hn7 b hb; omega)
      have hs7 := k7.size
      have els7 := (els2.keep fGIndex_lawful k7 (fun b hb e => by have := hb.1.1; omega)).mono (q := fun b => NewIn wo (w6.setCell ⟨w.heap.size + 1 + 1, 3, none⟩ (.slice a' (k + 1) cap')) b ∧ ¬ OwnB (.slice a' (k + 1) cap') b) fGIndex_lawful (fun b hb => ⟨⟨hb.1.1, by have := hb.1.2; omega⟩, hb.2⟩)
      replace kk := kk.then k7 (fun i hi e => by omega)
      replace ownT := owned_keep ownT k7 (fun b hb e => by have := hTge b hb; omega)
      replace elsT := elsT.keep fGTable_lawful k7 (fun b hb e => by have := hb.1.1; omega)
      have hwl7 := Nat.le_trans hwl6 k7.size
      clear els1 els2 k6 k7 hfresh rowO
      go_wp2_with fail
      go_roundw
      case rel => exact ⟨k + 1, a', cap', css ++ [cn], by omega, by go_num, by simpa using own6, by rw [HTK.out]; exact els7, rowO7, ownT, elsT, row0, rowR, hwl7, kk⟩
      case measure => simp [intOf]; omega
     ·go_simp
      go_fit (ownIndex_c x cs _ r (by omega))
      rintro e w1 ⟨cn, rfl, hN, k1⟩
      replace row0 := row0.keep k1 id
      replace rowR := rowR.keep k1 id
      replace rowO := rowO.keep k1 id
      replace rowX := rowX.keep k1 id
      replace kk := kk.trans k1
      replace own := owned_keep own k1 (fun _ _ h => h)
      have hln := fGIndex_lawful.len hN
      have hls := list_run (P := Tryz.prog) T_lIndex (by decide) cn hln w1
      replace ownT := owned_keep ownT k1 (fun _ _ h => h)
      replace elsT := elsT.keep fGTable_lawful k1 (fun _ _ h => h)
      have hwl1 := Nat.le_trans hwl k1.size
      clear r
      go_wp2_with fail
      refine hK.out _ _ (Whole.row S_Index hlen rowX) (fun hHeld => ?_)
      clear hK K
      (try simp only [Act.put]); (try simp only [List.setIfInBounds_toArray]); (try simp only [List.set_cons_succ]); (try simp only [List.set_cons_zero])
      refine wpAnyH_ready (rs := [1, 4]) (by kernel_rfl) (by simp) ?_
      refine AllReadyH.cons rfl (fun K hK => ?_) (AllReadyH.cons rfl (fun K hK => ?_) AllReadyH.nil)
      ·have x2 := rowO.cell 3
       have f2 := rowO.frozen 3
       simp only [List.getElem?_cons_succ, List.getElem?_cons_zero] at x2
       try simp only [zz1, zz2, zz3]
       go_simp
       clear x2 f2
       refine hK.out _ _ (Whole.row S_Index hlen rowX) (fun hHeld => ?_)
       clear hK K
       (try simp only [Act.put]); (try simp only [List.setIfInBounds_toArray]); (try simp only [List.set_cons_succ]); (try simp only [List.set_cons_zero])
       refine wpAnyH_ready (rs := [4]) (by kernel_rfl) (by simp) ?_
       refine AllReadyH.cons rfl (fun K hK => ?_) AllReadyH.nil
       try simp only [zz1, zz2, zz3]
       go_simp
       clear hls
       have rowX4 := rowX.keep ((Keep.refl Nix w1).alloc (.cells cn.toArray 41)) id
       have rowO4 := rowO.keep ((Keep.refl Nix w1).alloc (.cells cn.toArray 41)) id
       refine hK.out _ _ (Whole.row S_Index hlen rowX4) (fun hHeld => ?_)
       clear hK K
       (try simp only [Act.put]); (try simp only [List.setIfInBounds_toArray]); (try simp only [List.set_cons_succ]); (try simp only [List.set_cons_zero])
       refine wpAnyH_ready (rs := [5]) (by kernel_rfl) (by simp) ?_
       refine AllReadyH.cons rfl (fun K hK => ?_) AllReadyH.nil
       have hb0 : wo.heap.size ≤ w1.heap.size := hwl1
       have hbx1 := hbx
       refine step_append1 T_lIndex (by rfl) (.tmp 36) (.tmp 39) (by rfl) (wo.heap.size) (by rfl) own (by rfl) (by simpa using hln) (by simpa [ones] using fGIndex_ones hN) (by unfold maxLen; omega) (by omega) hb0 ?_
       intro a' cap' w6 own6 k6 hfresh
       have hn6 : ∀ b, OwnB (.slice ai k ci) b → wo.heap.size ≤ b := fun b hb => (own.lt b hb).1
       have els2 := els1.push0 fGIndex_lawful hN k1 k6 hwl hvx hfresh
       replace row0 := row0.keep k6 (fun hb => by have := hn6 _ hb; omega)
       replace rowR := rowR.keep k6 (fun hb => by have := hn6 _ hb; omega)
       replace rowO := rowO.keep k6 (fun hb => by have := hn6 _ hb; omega)
       replace rowX := rowX.keep k6 (fun hb => by have := hobx _ hb; omega)
       replace kk := kk.then k6 (fun i hi hb => by have := hn6 _ hb; omega)
       replace ownT := owned_keep ownT k6 (fun b hb h => by have := hn6 _ h; have := hTlt b hb; omega)
       replace elsT := elsT.keep fGTable_lawful k6 (fun b hb h => by have := hn6 _ h; have := hb.1.2; omega)
       have hwl6 := Nat.le_trans hwl1 k6.size
       clear own hN
       refine hK.out _ _ (Whole.row S_Index hlen rowX) (fun hHeld => ?_)
       clear hK K
       (try simp only [Act.put]); (try simp only [List.setIfInBounds_toArray]); (try simp only [List.set_cons_succ]); (try simp only [List.set_cons_zero])
       refine tk 6 (v := ?_) rfl ?_ hHeld ?_
       rotate_left
       ·intro w' hSw
        (try dsimp only at hSw)
        try simp only [zz1, zz2, zz3]
        go_simp
        try with_reducible rfl
       (try simp only [Act.put]); (try simp only [List.setIfInBounds_toArray]); (try simp only [List.set_cons_succ]); (try simp only [List.set_cons_zero])
       refine wpAnyH_ready (rs := [7]) (by kernel_rfl) (by simp) ?_
       refine AllReadyH.cons rfl (fun K hK => ?_) AllReadyH.nil
       have x2 := rowO.cell 3
       have f2 := rowO.frozen 3
       simp only [List.getElem?_cons_succ, List.getElem?_cons_zero] at x2
       have rowO7 := rowO.set 3 (.slice a' (k + 1) cap')
       simp only [List.set_cons_succ, List.set_cons_zero] at rowO7
       have k7 := (Keep.refl (fun b => b = w.heap.size + 1 + 1) w6).setCell (p := ⟨w.heap.size + 1 + 1, 3, none⟩) (fun _ => rfl) (.slice a' (k + 1) cap')
       try simp only [zz1, zz2, zz3]
       go_simp
       clear x2 f2
       have rowX7 := rowX.keep k7 (by omega)
       refine hK.out _ _ (Whole.row S_Index hlen rowX7) (fun hHeld => ?_)
       clear hK K
       (try simp only [Act.put]); (try simp only [List.setIfInBounds_toArray]); (try simp only [List.set_cons_succ]); (try simp only [List.set_cons_zero])
       refine wpAnyH_done (by kernel_rfl) ?_ _
       clear hHeld rowX rowX7
       replace row0 := row0.keep k7 (by omega)
       replace rowR := rowR.keep k7 (by omega)
       have hn7 : ∀ b, OwnB (.slice a' (k + 1) cap') b → wo.heap.size ≤ b := fun b hb => (own6.lt b hb).1
       replace own6 := owned_keep own6 k7 (fun b hb e => by have := hn7 b hb; omega)
       have hs7 := k7.size
       have els7 := (els2.keep fGIndex_lawful k7 (fun b hb e => by have := hb.1.1; omega)).mono (q := fun b => NewIn wo (w6.setCell ⟨w.heap.size + 1 + 1, 3, none⟩ (.slice a' (k + 1) cap')) b ∧ ¬ OwnB (.slice a' (k + 1) cap') b) fGIndex_lawful (fun b hb => ⟨⟨hb.1.1, by have := hb.1.2; omega⟩, hb.2⟩)
       replace kk := kk.then k7 (fun i hi e => by omega)
       replace ownT := owned_keep ownT k7 (fun b hb e => by have := hTge b hb; omega)
       replace elsT := elsT.keep fGTable_lawful k7 (fun b hb e => by have := hb.1.1; omega)
       have hwl7 := Nat.le_trans hwl6 k7.size
       clear els1 els2 k6 k7 hfresh rowO
       go_wp2_with fail
       go_roundw
       case rel => exact ⟨k + 1, a', cap', css ++ [cn], by omega, by go_num, by simpa using own6, by rw [HTK.out]; exact els7, rowO7, ownT, elsT, row0, rowR, hwl7, kk⟩
       case measure => simp [intOf]; omega
      ·try simp only [zz1, zz2, zz3]
       go_simp
       clear hls
       have rowX4 := rowX.keep ((Keep.refl Nix w1).alloc (.cells cn.toArray 41)) id
       have rowO4 := rowO.keep ((Keep.refl Nix w1).alloc (.cells cn.toArray 41)) id
       refine hK.out _ _ (Whole.row S_Index hlen rowX4) (fun hHeld => ?_)
       clear hK K
       (try simp only [Act.put]); (try simp only [List.setIfInBounds_toArray]); (try simp only [List.set_cons_succ]); (try simp only [List.set_cons_zero])
       refine wpAnyH_ready (rs := [1]) (by kernel_rfl) (by simp) ?_
       refine AllReadyH.cons rfl (fun K hK => ?_) AllReadyH.nil
       have x2 := rowO4.cell 3
       have f2 := rowO4.frozen 3
       simp only [List.getElem?_cons_succ, List.getElem?_cons_zero] at x2
       try simp only [zz1, zz2, zz3]
       go_simp
       clear x2 f2
       refine hK.out _ _ (Whole.row S_Index hlen rowX4) (fun hHeld => ?_)
       clear hK K
       (try simp only [Act.put]); (try simp only [List.setIfInBounds_toArray]); (try simp only [List.set_cons_succ]); (try simp only [List.set_cons_zero])
       refine wpAnyH_ready (rs := [5]) (by kernel_rfl) (by simp) ?_
       refine AllReadyH.cons rfl (fun K hK => ?_) AllReadyH.nil
       have hb0 : wo.heap.size ≤ w1.heap.size := hwl1
       have hbx1 := hbx
       refine step_append1 T_lIndex (by rfl) (.tmp 36) (.tmp 39) (by rfl) (wo.heap.size) (by rfl) own (by rfl) (by simpa using hln) (by simpa [ones] using fGIndex_ones hN) (by unfold maxLen; omega) (by omega) hb0 ?_
       intro a' cap' w6 own6 k6 hfresh
       have hn6 : ∀ b, OwnB (.slice ai k ci) b → wo.heap.size ≤ b := fun b hb => (own.lt b hb).1
       have els2 := els1.push0 fGIndex_lawful hN k1 k6 hwl hvx hfresh
       replace row0 := row0.keep k6 (fun hb => by have := hn6 _ hb; omega)
       replace rowR := rowR.keep k6 (fun hb => by have := hn6 _ hb; omega)
       replace rowO := rowO.keep k6 (fun hb => by have := hn6 _ hb; omega)
       replace rowX := rowX.keep k6 (fun hb => by have := hobx _ hb; omega)
       replace kk := kk.then k6 (fun i hi hb => by have := hn6 _ hb; omega)
       replace ownT := owned_keep ownT k6 (fun b hb h => by have := hn6 _ h; have := hTlt b hb; omega)
       replace elsT := elsT.keep fGTable_lawful k6 (fun b hb h => by have := hn6 _ h; have := hb.1.2; omega)
       have hwl6 := Nat.le_trans hwl1 k6.size
       clear own hN
       refine hK.out _ _ (Whole.row S_Index hlen rowX) (fun hHeld => ?_)
       clear hK K
       (try simp only [Act.put]); (try simp only [List.setIfInBounds_toArray]); (try simp only [List.set_cons_succ]); (try simp only [List.set_cons_zero])
       refine tk 6 (v := ?_) rfl ?_ hHeld ?_
       rotate_left
       ·intro w' hSw
        (try dsimp only at hSw)
        try simp only [zz1, zz2, zz3]
        go_simp
        try with_reducible rfl
       (try simp only [Act.put]); (try simp only [List.setIfInBounds_toArray]); (try simp only [List.set_cons_succ]); (try simp only [List.set_cons_zero])
       refine wpAnyH_ready (rs := [7]) (by kernel_rfl) (by simp) ?_
       refine AllReadyH.cons rfl (fun K hK => ?_) AllReadyH.nil
       have x2 := rowO.cell 3
       have f2 := rowO.frozen 3
       simp only [List.getElem?_cons_succ, List.getElem?_cons_zero] at x2
       have rowO7 := rowO.set 3 (.slice a' (k + 1) cap')
       simp only [List.set_cons_succ, List.set_cons_zero] at rowO7
       have k7 := (Keep.refl (fun b => b = w.heap.size + 1 + 1) w6).setCell (p := ⟨w.heap.size + 1 + 1, 3, none⟩) (fun _ => rfl) (.slice a' (k + 1) cap')
       try simp only [zz1, zz2, zz3]
       go_simp
       clear x2 f2
       have rowX7 := rowX.keep k7 (by omega)
       refine hK.out _ _ (Whole.row S_Index hlen rowX7) (fun hHeld => ?_)
       clear hK K
       (try simp only [Act.put]); (try simp only [List.setIfInBounds_toArray]); (try simp only [List.set_cons_succ]); (try simp only [List.set_cons_zero])
       refine wpAnyH_done (by kernel_rfl) ?_ _
       clear hHeld rowX rowX7
       replace row0 := row0.keep k7 (by omega)
       replace rowR := rowR.keep k7 (by omega)
       have hn7 : ∀ b, OwnB (.slice a' (k + 1) cap') b → wo.heap.size ≤ b := fun b hb => (own6.lt b hb).1
       replace own6 := owned_keep own6 k7 (fun b hb e => by have := hn7 b hb; omega)
       have hs7 := k7.size
       have els7 := (els2.keep fGIndex_lawful k7 (fun b hb e => by have := hb.1.1; omega)).mono (q := fun b => NewIn wo (w6.setCell ⟨w.heap.size + 1 + 1, 3, none⟩ (.slice a' (k + 1) cap')) b ∧ ¬ OwnB (.slice a' (k + 1) cap') b) fGIndex_lawful (fun b hb => ⟨⟨hb.1.1, by have := hb.1.2; omega⟩, hb.2⟩)
       replace kk := kk.then k7 (fun i hi e => by omega)
       replace ownT := owned_keep ownT k7 (fun b hb e => by have := hTge b hb; omega)
       replace elsT := elsT.keep fGTable_lawful k7 (fun b hb e => by have := hb.1.1; omega)
       have hwl7 := Nat.le_trans hwl6 k7.size
       clear els1 els2 k6 k7 hfresh rowO
       go_wp2_with fail
       go_roundw
       case rel => exact ⟨k + 1, a', cap', css ++ [cn], by omega, by go_num, by simpa using own6, by rw [HTK.out]; exact els7, rowO7, ownT, elsT, row0, rowR, hwl7, kk⟩
       case measure => simp [intOf]; omega
    ·obtain rfl : k = c.fIndexes.length := by omega
     have elsX : Els fGIndex wr (fun b => NewIn wo wr b ∧ ¬ OwnB (.slice ai c.fIndexes.length ci) b) css c.fIndexes := by
      have e : c.fIndexes.take c.fIndexes.length = c.fIndexes := List.take_length
      rw [e] at els
      exact els
     have hXge : ∀ b, OwnB (.slice ai c.fIndexes.length ci) b → wo.heap.size ≤ b := fun b hb => (own.lt b hb).1
     have ld := Whole.row (P := Tryz.prog) S_Catalog rfl rowO
     unfold Whole at ld
     have hst := store_run (P := Tryz.prog) (cs := [.int .i64 c.fVersion, .int .i64 c.fNext, .slice ao c.fTables.length co, .slice ai c.fIndexes.length ci]) S_Catalog rowR rfl rfl rfl
     have rowF := rowR.setRow [.int .i64 c.fVersion, .int .i64 c.fNext, .slice ao c.fTables.length co, .slice ai c.fIndexes.length ci]
     have kS : Keep (· = w.heap.size + 1) wr (wr.setRow (w.heap.size + 1) ([.int .i64 c.fVersion, .int .i64 c.fNext, .slice ao c.fTables.length co, .slice ai c.fIndexes.length ci]).toArray) := (Keep.refl (· = w.heap.size + 1) wr).setRow (fun _ => rfl) _
     have kF := kk.setRow (g := w.heap.size + 1) (fun h => by omega) ([.int .i64 c.fVersion, .int .i64 c.fNext, .slice ao c.fTables.length co, .slice ai c.fIndexes.length ci]).toArray
     have hss := kS.size
     have hres : OwnCat (w.heap.size + 1 + 1 + 1) (wr.setRow (w.heap.size + 1) ([.int .i64 c.fVersion, .int .i64 c.fNext, .slice ao c.fTables.length co, .slice ai c.fIndexes.length ci]).toArray) [.int .i64 c.fVersion, .int .i64 c.fNext, .slice ao c.fTables.length co, .slice ai c.fIndexes.length ci] c := ⟨ao, co, ai, ci, cssT, css, wo.heap.size, rfl, hbO, Nat.le_trans hwo hss,
      owned_keep ownT kS (fun b hb e => by have := hTge b hb; omega), hTlt, (elsT.keep fGTable_lawful kS (fun b hb e => by have := hb.1.1; omega)).mono fGTable_lawful (fun b hb => ⟨by have := hb.1.1; omega, hb.1.2, hb.2⟩),
      owned_keep own kS (fun b hb e => by have := hXge b hb; omega), (elsX.keep fGIndex_lawful kS (fun b hb e => by have := hb.1.1; omega)).mono fGIndex_lawful (fun b hb => ⟨hb.1.1, by have := hb.1.2; omega, hb.2⟩)⟩
     clear ownT elsT elsX own els row0 rowR rowO kk kS
     go_wp2_with fail
     refine bodyPost_ret (results_cell_row (by rfl) _ _ _ _ _ _ _ (by rfl) rowF Tryz.underlying50 (by rfl) S_Catalog.info) rfl ?_
     exact ⟨_, rfl, hres, kF⟩
end
theorem list_owned {α : Type} {R R' : RD α} {w : World} {p q : Nat → Prop} {base e sz : Nat} {a : Option Addr} {cap : Nat} {css : List (List Value)} {l : List α} (own : w.ownsRow base e sz (.slice a l.length cap) l.length css.flatten) (els : Els R w p css l) (hf : l.length ≤ far)
  (hR : ∀ (c : List Value) (x : α), R w p c x → R' w q c x) (hq : ∀ b, base ≤ b → OwnB (.slice a l.length cap) b → q b) : rList R' w q [.slice a l.length cap] l :=
 ⟨a, cap, css, rfl, els.1, (Lies.of_owned own).mono fun b hb => hq b hb.1 hb.2, (owned_bounds own).2.1, hf, fun i c x hc hx => hR c x (els.2 i c x hc hx)⟩
theorem OwnCat.read {base : Nat} {w : World} {cs : List Value} {c : GCatalog} (h : OwnCat base w cs c) (hv : isI64 c.fVersion) (hn : isI64 c.fNext) (nT : c.fTables.length ≤ far) (nX : c.fIndexes.length ≤ far) : rGCatalog w (fun b => base ≤ b ∧ b < w.heap.size) cs c := by
 obtain ⟨aT, cT, aX, cX, cssT, cssX, m, rfl, hb, hm, ownT, hT, elsT, ownX, elsX⟩ := h
 refine rGCatalog_mk w _ hv hn ?_ ?_
 ·exact list_owned ownT elsT nT (fun d y hy => rGTable_lawful.mono (fGTable_to hy) (fun b hb => ⟨hb.1, by have := hb.2.1; omega⟩)) (fun b h1 h2 => ⟨h1, by have := hT b h2; omega⟩)
 ·exact list_owned ownX elsX nX (fun d y hy => rGIndex_lawful.mono (fGIndex_to hy) (fun b hb => ⟨by have := hb.1; omega, hb.2.1⟩)) (fun b h1 h2 => ⟨by omega, (ownX.lt b h2).2⟩)
theorem Own_c {p : Nat → Prop} (c : GCatalog) (csc : List Value) (w : World) (hc : rGCatalog w p csc c) (hs : smallC c) :
  Calls Tryz.prog 34 #[.agg csc.toArray] w (Ret rGCatalog w c) := by
 obtain ⟨_, _, _, _, -, hv, hn, hT, hX, -⟩ := rGCatalog_open hc
 exact (Own_o c csc w hc hs).mono fun e w' ⟨cs, he, ho, k⟩ => ⟨cs, he, rGCatalog_lawful.mono (ho.read hv hn (rList_len hT).2.2 (rList_len hX).2.2) (fun b hb => ⟨by have := hb.1; omega, hb.2⟩), k⟩
end Go.Proofs.YtibaehlfpgipfaaGreat
namespace Go.Proofs.YtibaehlfpgipfaaGreat
open Go.RowKit
theorem added_reads {w w7 wz : World} {c : GCatalog} {t : GTable} {a7 aP : Option Addr} {c7 cP base m : Nat} {cssT cssX : List (List Value)} {CN : List Value} {q : Nat → Prop} (hcv : isI64 c.fVersion) (hcn : isI64 c.fNext) (hs : smallC c) (hv : c.fVersion ≤ 4611686018427387904) (h7 : c.fNext < 1073741824) (h6 : c.fTables.length < 6)
  (e9 : w7.heap.size ≤ wz.heap.size) (_hw : w.heap.size ≤ w7.heap.size)
  (own : wz.ownsRow base 39 4 (.slice a7 (c.fTables.length + 1) c7) (c.fTables.length + 1) (cssT.flatten ++ CN)) (ownX : wz.ownsRow m 41 7 (.slice aP c.fIndexes.length cP) c.fIndexes.length cssX.flatten)
  (els : Els rGTable wz (fun b => w.heap.size + 1 + 1 + 1 ≤ b ∧ b < w7.heap.size ∧ q b) (cssT ++ [CN]) (c.fTables ++ [{ t with fID := c.fNext }])) (elsI : Els rGIndex wz (fun b => w.heap.size + 1 + 1 + 1 ≤ b ∧ b < w7.heap.size ∧ q b) cssX c.fIndexes)
  (hT : ∀ b, OwnB (.slice a7 (c.fTables.length + 1) c7) b → w.heap.size + 1 + 1 + 1 ≤ b ∧ b < w7.heap.size) (hX : ∀ b, OwnB (.slice aP c.fIndexes.length cP) b → w.heap.size + 1 + 1 + 1 ≤ b ∧ b < w7.heap.size) :
  rGCatalog wz (NewIn w wz) [.int .i64 (c.fVersion + 1), .int .i64 (c.fNext + 1), .slice a7 (c.fTables.length + 1) c7, .slice aP c.fIndexes.length cP] ({ c with fVersion := c.fVersion + 1, fNext := c.fNext + 1, fTables := c.fTables ++ [{ t with fID := c.fNext }] } : GCatalog) := by
 have hln : (c.fTables ++ [{ t with fID := c.fNext }]).length = c.fTables.length + 1 := by simp
 have hr : ([.int .i64 (c.fVersion + 1), .int .i64 (c.fNext + 1), .slice a7 (c.fTables.length + 1) c7, .slice aP c.fIndexes.length cP] : List Value) = [.int .i64 (c.fVersion + 1), .int .i64 (c.fNext + 1), .slice a7 (c.fTables ++ [{ t with fID := c.fNext }]).length c7, .slice aP c.fIndexes.length cP] := by rw [hln]
 rw [hr]
 refine rGCatalog_mk _ _ (x := ({ c with fVersion := c.fVersion + 1, fNext := c.fNext + 1, fTables := c.fTables ++ [{ t with fID := c.fNext }] } : GCatalog)) ⟨by have := hcv.1; show _ ≤ c.fVersion + 1; omega, by show c.fVersion + 1 ≤ _; omega⟩ ⟨by have := hcn.1; show _ ≤ c.fNext + 1; omega, by show c.fNext + 1 ≤ _; omega⟩ ?_ ?_
 ·refine list_owned (R := rGTable) (base := base) (e := 39) (sz := 4) (css := cssT ++ [CN]) ?_ els (by show (c.fTables ++ [{ t with fID := c.fNext }]).length ≤ far; rw [hln]; unfold far; omega) (fun d y hy => rGTable_lawful.mono hy (fun b hb => ⟨by have := hb.1; omega, by have := hb.2.1; omega⟩)) (fun b h1 h2 => ?_)
  ·show wz.ownsRow base _ 4 (.slice a7 (c.fTables ++ [{ t with fID := c.fNext }]).length c7) (c.fTables ++ [{ t with fID := c.fNext }]).length _
   rw [hln]; simpa using own
  ·have h2' : OwnB (.slice a7 (c.fTables.length + 1) c7) b := by rw [← hln]; exact h2
   have := hT b h2'
   exact ⟨by omega, by omega⟩
 ·exact list_owned (R := rGIndex) ownX elsI (by show c.fIndexes.length ≤ far; unfold far; have := hs.2.2.2; omega) (fun d y hy => rGIndex_lawful.mono hy (fun b hb => ⟨by have := hb.1; omega, by have := hb.2.1; omega⟩)) (fun b h1 h2 => by have := hX b h2; exact ⟨by omega, by omega⟩)
theorem size_setCell (w : World) (a : Addr) (v : Value) : (w.setCell a v).heap.size = w.heap.size := by simp [World.setCell]
theorem size_setRow (w : World) (b : Nat) (cs : Array Value) : (w.setRow b cs).heap.size = w.heap.size := by simp [World.setRow]
def addTableF (c : GCatalog) (t : GTable) : GCatalog × Int :=
 if tableB t = false then (c, 9) else if (firstB (fun x => decide (x.fName = t.fName)) c.fTables zTab).2 = true then (c, 6)
 else if 6 ≤ c.fTables.length ∨ 1073741824 ≤ c.fNext then (c, 4)
 else ({ c with fVersion := c.fVersion + 1, fNext := c.fNext + 1, fTables := c.fTables ++ [{ t with fID := c.fNext }] }, 0)
theorem tableB_small {t : GTable} (h : tableB t = true) : t.fColumns.length ≤ 6 ∧ t.fKey.length ≤ 6 := by
 have h1 : t.fColumns.length ≤ 6 := by
  have h := h
  unfold tableB at h
  simp only [Bool.and_eq_true, decide_eq_true_eq] at h
  exact h.2.1.2
 unfold tableB at h
 simp only [Bool.and_eq_true, decide_eq_true_eq] at h
 have h2 := of_decide_eq_true h.2.2.1
 rw [show min (t.fColumns.length : Int) 6 = ((t.fColumns.length : Nat) : Int) by omega] at h2
 have := goodP_len _ _ h2.1
 omega
section
attribute [local go_sem ↓] ldz_Table stz_Table ldz_Catalog stz_Catalog lsz_Table
set_option maxRecDepth 100000 in
set_option maxHeartbeats 16000000 in
theorem sAddTable_c {p : Nat → Prop} (c : GCatalog) (csc : List Value) (t : GTable) (cst : List Value) (w : World) (hc : rGCatalog w p csc c) (ht : rGTable w p cst t) (hs : smallC c) (hv : c.fVersion ≤ 4611686018427387904) (_hp : ∀ b, p b → b < w.heap.size) :
  Calls Tryz.prog 63 #[.agg csc.toArray, .agg cst.toArray] w (Took rGCatalog w (addTableF c t)) := by
 have gc := hc
 have gt := ht
 obtain ⟨aT, cT, aX, cX, rfl, hcv, hcn, hcT, hcX, -⟩ := rGCatalog_open hc
 have hlc : ([.int .i64 c.fVersion, .int .i64 c.fNext, .slice aT c.fTables.length cT, .slice aX c.fIndexes.length cX] : List Value).length = 4 := rfl
 obtain ⟨aC, cC, aK, cK, rfl, h0, h1, h2, h3, -⟩ := rGTable_open ht
 have row0 : RowIs (((w.alloc (.cells #[.int .i64 c.fVersion, .int .i64 c.fNext, .slice aT c.fTables.length cT, .slice aX c.fIndexes.length cX] 50)).alloc (.cells #[.int .i64 t.fID, .string (strB t.fName), .slice aC t.fColumns.length cC, .slice aK t.fKey.length cK] 39)).alloc (.cells #[.int .i64 0, .int .i64 0, .slice none 0 0, .slice none 0 0] 50)) w.heap.size 50 [.int .i64 c.fVersion, .int .i64 c.fNext, .slice aT c.fTables.length cT, .slice aX c.fIndexes.length cX] := ((RowIs.alloc w _ _).keep ((Keep.refl Nix _).alloc _) id).keep ((Keep.refl Nix _).alloc _) id
 have rowT : RowIs (((w.alloc (.cells #[.int .i64 c.fVersion, .int .i64 c.fNext, .slice aT c.fTables.length cT, .slice aX c.fIndexes.length cX] 50)).alloc (.cells #[.int .i64 t.fID, .string (strB t.fName), .slice aC t.fColumns.length cC, .slice aK t.fKey.length cK] 39)).alloc (.cells #[.int .i64 0, .int .i64 0, .slice none 0 0, .slice none 0 0] 50)) (w.heap.size + 1) 39 [.int .i64 t.fID, .string (strB t.fName), .slice aC t.fColumns.length cC, .slice aK t.fKey.length cK] := (RowIs.alloc_at (w.alloc (.cells #[.int .i64 c.fVersion, .int .i64 c.fNext, .slice aT c.fTables.length cT, .slice aX c.fIndexes.length cX] 50)) _ (by simp) #[.int .i64 t.fID, .string (strB t.fName), .slice aC t.fColumns.length cC, .slice aK t.fKey.length cK] 39).keep ((Keep.refl Nix _).alloc _) id
 have rowR : RowIs (((w.alloc (.cells #[.int .i64 c.fVersion, .int .i64 c.fNext, .slice aT c.fTables.length cT, .slice aX c.fIndexes.length cX] 50)).alloc (.cells #[.int .i64 t.fID, .string (strB t.fName), .slice aC t.fColumns.length cC, .slice aK t.fKey.length cK] 39)).alloc (.cells #[.int .i64 0, .int .i64 0, .slice none 0 0, .slice none 0 0] 50)) (w.heap.size + 1 + 1) 50 [.int .i64 0, .int .i64 0, .slice none 0 0, .slice none 0 0] := RowIs.alloc_at ((w.alloc (.cells #[.int .i64 c.fVersion, .int .i64 c.fNext, .slice aT c.fTables.length cT, .slice aX c.fIndexes.length cX] 50)).alloc (.cells #[.int .i64 t.fID, .string (strB t.fName), .slice aC t.fColumns.length cC, .slice aK t.fKey.length cK] 39)) _ (by simp) #[.int .i64 0, .int .i64 0, .slice none 0 0, .slice none 0 0] 50
 have kk : Keep Nix w (((w.alloc (.cells #[.int .i64 c.fVersion, .int .i64 c.fNext, .slice aT c.fTables.length cT, .slice aX c.fIndexes.length cX] 50)).alloc (.cells #[.int .i64 t.fID, .string (strB t.fName), .slice aC t.fColumns.length cC, .slice aK t.fKey.length cK] 39)).alloc (.cells #[.int .i64 0, .int .i64 0, .slice none 0 0, .slice none 0 0] 50)) := (((Keep.refl Nix w).alloc _).alloc _).alloc _
 have ld0 := Whole.row (P := Tryz.prog) S_Catalog hlc row0
 unfold Whole at ld0
 replace gc := rGCatalog_lawful.nix gc kk
 replace gt := rGTable_lawful.nix gt kk
 clear hc ht
 go_enter Tryz.func63, Tryz.ntmps63
 go_wp2_with fail
 clear ld0
 go_fit (Own_o c _ _ gc hs)
 rintro e w1 ⟨cso, rfl, hOwn, k1⟩
 have hO := hOwn.read hcv hcn (rList_len hcT).2.2 (rList_len hcX).2.2
 obtain ⟨aO, cO, aP, cP, cssT, cssX, m, rfl, hbm, hmw, ownT, hTlt, elsT, ownX, elsX⟩ := hOwn
 have hXlt : Hid (∀ b, OwnB (.slice aP c.fIndexes.length cP) b → b < w1.heap.size) := fun b hb => (ownX.lt b hb).2
 have hs1 : w.heap.size + 1 + 1 + 1 ≤ w1.heap.size := by simp at hbm; omega
 replace row0 := row0.keep k1 id
 replace rowT := rowT.keep k1 id
 replace rowR := rowR.keep k1 id
 replace gc := rGCatalog_lawful.nix gc k1
 replace gt := rGTable_lawful.nix gt k1
 replace kk := kk.trans k1
 have hlo := rGCatalog_lawful.len hO
 have hst := store_run (P := Tryz.prog) (cs := [.int .i64 c.fVersion, .int .i64 c.fNext, .slice aO c.fTables.length cO, .slice aP c.fIndexes.length cP]) S_Catalog (RowIs.alloc w1 #[.int .i64 0, .int .i64 0, .slice none 0 0, .slice none 0 0] 50) rfl hlo (rGCatalog_ones hO)
 have rowO := (RowIs.alloc w1 #[.int .i64 0, .int .i64 0, .slice none 0 0, .slice none 0 0] 50).setRow [.int .i64 c.fVersion, .int .i64 c.fNext, .slice aO c.fTables.length cO, .slice aP c.fIndexes.length cP]
 have kV : Keep Nix w1 ((w1.alloc (.cells #[.int .i64 0, .int .i64 0, .slice none 0 0, .slice none 0 0] 50)).setRow w1.heap.size ([.int .i64 c.fVersion, .int .i64 c.fNext, .slice aO c.fTables.length cO, .slice aP c.fIndexes.length cP] : List Value).toArray) := ((Keep.refl Nix w1).alloc (.cells #[.int .i64 0, .int .i64 0, .slice none 0 0, .slice none 0 0] 50)).setRow (fun h => absurd h (Nat.lt_irrefl _)) _
 replace row0 := row0.keep kV id
 replace rowT := rowT.keep kV id
 replace rowR := rowR.keep kV id
 replace gc := rGCatalog_lawful.nix gc kV
 replace gt := rGTable_lawful.nix gt kV
 replace hO := rGCatalog_lawful.nix hO kV
 replace ownT := owned_keep ownT kV (fun _ _ h => h)
 replace ownX := owned_keep ownX kV (fun _ _ h => h)
 replace elsT := elsT.keep fGTable_lawful kV (fun _ _ h => h)
 replace elsX := elsX.keep fGIndex_lawful kV (fun _ _ h => h)
 replace kk := kk.trans kV
 clear k1 kV
 have ld0 := Whole.row (P := Tryz.prog) S_Catalog hlc row0
 unfold Whole at ld0
 have x1 := rowT.cell 1
 simp only [List.getElem?_cons_succ, List.getElem?_cons_zero] at x1
 go_wp2_with fail
 clear ld0 hst x1
 go_fit (sTable_c c _ t.fName _ gc hs.1)
 rintro e w2 ⟨csf, rfl, hF, k1⟩
 obtain ⟨y, hy⟩ : ∃ y, Hid (firstB (fun x => decide (x.fName = t.fName)) c.fTables zTab = y) := ⟨_, rfl⟩
 rw [hy.out] at hF ⊢
 obtain ⟨yt, twice⟩ := y
 replace hF : fGTable w2 (NewIn _ w2) csf yt := hF
 have hst := store_run (P := Tryz.prog) (cs := csf) S_Table (RowIs.alloc w2 #[.int .i64 0, .string { data := #[] }, .slice none 0 0, .slice none 0 0] 39) rfl (fGTable_lawful.len hF) (fGTable_ones hF)
 have kV : Keep Nix w2 ((w2.alloc (.cells #[.int .i64 0, .string { data := #[] }, .slice none 0 0, .slice none 0 0] 39)).setRow w2.heap.size csf.toArray) := ((Keep.refl Nix w2).alloc (.cells #[.int .i64 0, .string { data := #[] }, .slice none 0 0, .slice none 0 0] 39)).setRow (fun h => absurd h (Nat.lt_irrefl _)) _
 have k3 := k1.trans kV
 replace row0 := row0.keep k3 id
 replace rowT := rowT.keep k3 id
 replace rowR := rowR.keep k3 id
 replace rowO := rowO.keep k3 id
 replace gc := rGCatalog_lawful.nix gc k3
 replace gt := rGTable_lawful.nix gt k3
 replace hO := rGCatalog_lawful.nix hO k3
 replace ownT := owned_keep ownT k3 (fun _ _ h => h)
 replace ownX := owned_keep ownX k3 (fun _ _ h => h)
 replace elsT := elsT.keep fGTable_lawful k3 (fun _ _ h => h)
 replace elsX := elsX.keep fGIndex_lawful k3 (fun _ _ h => h)
 replace kk := kk.trans k3
 clear k1 kV k3 hF
 have ldt := Whole.row (P := Tryz.prog) S_Table rfl rowT
 unfold Whole at ldt
 go_wp2_with fail
 clear ldt hst
 go_fit (srightTable_c t _ _ gt)
 rintro e w3 ⟨rfl, k1⟩
 replace row0 := row0.keep k1 id
 replace rowT := rowT.keep k1 id
 replace rowR := rowR.keep k1 id
 replace rowO := rowO.keep k1 id
 replace gt := rGTable_lawful.nix gt k1
 replace hO := rGCatalog_lawful.nix hO k1
 replace ownT := owned_keep ownT k1 (fun _ _ h => h)
 replace ownX := owned_keep ownX k1 (fun _ _ h => h)
 replace elsT := elsT.keep fGTable_lawful k1 (fun _ _ h => h)
 replace elsX := elsX.keep fGIndex_lawful k1 (fun _ _ h => h)
 replace kk := kk.trans k1
 clear k1
 -- what is handed back where nothing is added
 have hback : ∀ err : Int, addTableF c t = (c, err) → True := fun _ _ => trivial
 clear hback
 have ldo := Whole.row (P := Tryz.prog) S_Catalog hlo rowO
 unfold Whole at ldo
 have hstR := store_run (P := Tryz.prog) (cs := [.int .i64 c.fVersion, .int .i64 c.fNext, .slice aO c.fTables.length cO, .slice aP c.fIndexes.length cP]) S_Catalog rowR rfl hlo (rGCatalog_ones hO)
 have rowF := rowR.setRow [.int .i64 c.fVersion, .int .i64 c.fNext, .slice aO c.fTables.length cO, .slice aP c.fIndexes.length cP]
 have kS : Keep (· = w.heap.size + 1 + 1) w3 (w3.setRow (w.heap.size + 1 + 1) ([.int .i64 c.fVersion, .int .i64 c.fNext, .slice aO c.fTables.length cO, .slice aP c.fIndexes.length cP] : List Value).toArray) := (Keep.refl (· = w.heap.size + 1 + 1) w3).setRow (fun _ => rfl) _
 have kF := kk.setRow (g := w.heap.size + 1 + 1) (fun h => by omega) ([.int .i64 c.fVersion, .int .i64 c.fNext, .slice aO c.fTables.length cO, .slice aP c.fIndexes.length cP] : List Value).toArray
 have hin : (Tryz.prog.info? 50).map (·.size) = some ([.int .i64 c.fVersion, .int .i64 c.fNext, .slice aO c.fTables.length cO, .slice aP c.fIndexes.length cP] : List Value).toArray.size := by rw [List.size_toArray, hlo]; exact S_Catalog.info
 have HIN := Lib.hid hin
 clear hin
 obtain ⟨bt, hbt⟩ : ∃ b, Hid (tableB t = b) := ⟨_, rfl⟩
 have hsO := rowO.lt
 have hres : rGCatalog (w3.setRow (w.heap.size + 1 + 1) ([.int .i64 c.fVersion, .int .i64 c.fNext, .slice aO c.fTables.length cO, .slice aP c.fIndexes.length cP] : List Value).toArray) (NewIn w (w3.setRow (w.heap.size + 1 + 1) ([.int .i64 c.fVersion, .int .i64 c.fNext, .slice aO c.fTables.length cO, .slice aP c.fIndexes.length cP] : List Value).toArray)) [.int .i64 c.fVersion, .int .i64 c.fNext, .slice aO c.fTables.length cO, .slice aP c.fIndexes.length cP] c :=
  rGCatalog_lawful.mono (rGCatalog_lawful.keep hO kS (fun b hb e => by have := hb.1; simp at this; omega)) (fun b hb => ⟨by have := hb.1; simp at this; omega, by have := hb.2; have := kS.size; omega⟩)
 rw [hbt.out]
 cases bt with
 | false =>
  have HR : Hid (addTableF c t = (c, 9)) := by show _ = _; unfold addTableF; rw [if_pos hbt.out]
  go_wp2_with fail
  refine bodyPost_ret (results_cell_row2 (by rfl) _ _ _ _ _ _ _ (by rfl) rowF Tryz.underlying50 (by rfl) HIN.out) rfl ?_
  rw [HR.out]
  exact ⟨_, rfl, hres, rGCatalog_ones hres, kF⟩
 | true =>
 cases twice with
 | true =>
  have HR : Hid (addTableF c t = (c, 6)) := by show _ = _; unfold addTableF; rw [if_neg (by rw [hbt.out]; simp), if_pos (by rw [hy.out])]
  go_wp2_with fail
  refine bodyPost_ret (results_cell_row2 (by rfl) _ _ _ _ _ _ _ (by rfl) rowF Tryz.underlying50 (by rfl) HIN.out) rfl ?_
  rw [HR.out]
  exact ⟨_, rfl, hres, rGCatalog_ones hres, kF⟩
 | false =>
 have mT : c.fTables.length ≤ 140737488351232 := by have := hs.2.2.1; omega
 have x1 := row0.cell 1
 have x2 := row0.cell 2
 simp only [List.getElem?_cons_succ, List.getElem?_cons_zero] at x1 x2
 by_cases hfull : 6 ≤ c.fTables.length ∨ 1073741824 ≤ c.fNext
 ·have HR : Hid (addTableF c t = (c, 4)) := by show _ = _; unfold addTableF; rw [if_neg (by rw [hbt.out]; simp), if_neg (by rw [hy.out]; simp), if_pos hfull]
  rcases Nat.lt_or_ge c.fTables.length 6 with h6 | h6
  ·have h7 : 1073741824 ≤ c.fNext := by omega
   clear hfull
   go_wp2_with fail
   refine bodyPost_ret (results_cell_row2 (by rfl) _ _ _ _ _ _ _ (by rfl) rowF Tryz.underlying50 (by rfl) HIN.out) rfl ?_
   rw [HR.out]
   exact ⟨_, rfl, hres, rGCatalog_ones hres, kF⟩
  ·clear hfull
   go_wp2_with fail
   refine bodyPost_ret (results_cell_row2 (by rfl) _ _ _ _ _ _ _ (by rfl) rowF Tryz.underlying50 (by rfl) HIN.out) rfl ?_
   rw [HR.out]
   exact ⟨_, rfl, hres, rGCatalog_ones hres, kF⟩
 have h6 : c.fTables.length < 6 := by omega
 have h7 : c.fNext < 1073741824 := by omega
 have HR : Hid (addTableF c t = ({ c with fVersion := c.fVersion + 1, fNext := c.fNext + 1, fTables := c.fTables ++ [{ t with fID := c.fNext }] }, 0)) := by
  show _ = _; unfold addTableF; rw [if_neg (by rw [hbt.out]; simp), if_neg (by rw [hy.out]; simp), if_neg hfull]
 clear hfull hres kS kF rowF hstR ldo hO
 obtain ⟨ht1, ht2⟩ := tableB_small hbt.out
 have ldt := Whole.row (P := Tryz.prog) S_Table rfl rowT
 unfold Whole at ldt
 have hbO3' := rowO.lt
 have hOt := Lib.hid (ownTable_c t _ _ gt (by omega) (by omega))
 clear gt
 go_wp2_with fail
 clear ldt x1 x2
 go_fit hOt.out
 rintro e w4 ⟨csn, rfl, hN, k1⟩
 replace rowT := rowT.keep k1 id
 replace rowR := rowR.keep k1 id
 replace rowO := rowO.keep k1 id
 replace kk := kk.trans k1
 replace ownT := owned_keep ownT k1 (fun _ _ h => h)
 replace ownX := owned_keep ownX k1 (fun _ _ h => h)
 replace elsT := elsT.keep fGTable_lawful k1 (fun _ _ h => h)
 replace elsX := elsX.keep fGIndex_lawful k1 (fun _ _ h => h)
 have hsN := k1.size
 have hbO3 : Hid (w1.heap.size < w3.heap.size) := hbO3'
 clear k1 hOt hbO3'
 have hNr := fGTable_to hN
 obtain ⟨q0, q1, q2, q3, hq, g0, g1, g2, g3⟩ := hN
 obtain ⟨rfl, -⟩ := g0
 obtain ⟨rfl, g1⟩ := g1
 obtain ⟨b1, d1, rfl, g2⟩ := rListW_open g2
 obtain ⟨b2, d2, rfl, g3⟩ := rListW_open g3
 simp only [List.flatten_cons, List.flatten_nil, List.append_nil, List.cons_append, List.nil_append] at hq
 subst hq
 have hst := store_run (P := Tryz.prog) (cs := [.int .i64 t.fID, .string (strB t.fName), .slice b1 t.fColumns.length d1, .slice b2 t.fKey.length d2]) S_Table rowT rfl rfl rfl
 have rowT5 := rowT.setRow [.int .i64 t.fID, .string (strB t.fName), .slice b1 t.fColumns.length d1, .slice b2 t.fKey.length d2]
 have k5 : Keep (· = w.heap.size + 1) w4 (w4.setRow (w.heap.size + 1) ([.int .i64 t.fID, .string (strB t.fName), .slice b1 t.fColumns.length d1, .slice b2 t.fKey.length d2] : List Value).toArray) := (Keep.refl (· = w.heap.size + 1) w4).setRow (fun _ => rfl) _
 have rowT6 := rowT5.set 0 (.int .i64 c.fNext)
 simp only [List.set_cons_zero] at rowT6
 have k6 : Keep (· = w.heap.size + 1) (w4.setRow (w.heap.size + 1) ([.int .i64 t.fID, .string (strB t.fName), .slice b1 t.fColumns.length d1, .slice b2 t.fKey.length d2] : List Value).toArray) ((w4.setRow (w.heap.size + 1) ([.int .i64 t.fID, .string (strB t.fName), .slice b1 t.fColumns.length d1, .slice b2 t.fKey.length d2] : List Value).toArray).setCell ⟨w.heap.size + 1, 0, none⟩ (.int .i64 c.fNext)) := (Keep.refl (· = w.heap.size + 1) _).setCell (p := ⟨w.heap.size + 1, 0, none⟩) (fun _ => rfl) _
 have k56 := k5.trans k6
 have hXm : ∀ b, OwnB (.slice aP c.fIndexes.length cP) b → m ≤ b := fun b hb => (ownX.lt b hb).1
 have hbm' : w.heap.size + 1 + 1 + 1 ≤ m := by simp at hbm; omega
 have ownX7 := owned_keep ownX k56 (fun b hb e => by have := hXm b hb; omega)
 have elsT7 := elsT.keep fGTable_lawful k56 (fun b hb e => by have := hb.1; simp at this; omega)
 have elsX7 := elsX.keep fGIndex_lawful k56 (fun b hb e => by have := hb.1; omega)
 have rN := rGTable_lawful.keep hNr k56 (fun b hb e => by have := hb.1; have := hbO3.out; omega)
 have hmw' := Lib.hid hmw
 have rowO5 := rowO.keep k5 (by omega)
 have f0 := rowT5.frozen 0
 have y0 := rowT5.cell 0
 simp only [List.getElem?_cons_zero] at y0
 have rowO6 := rowO.keep k56 (by omega)
 have x1 := rowO5.cell 1
 have x2 := rowO6.cell 2
 simp only [List.getElem?_cons_succ, List.getElem?_cons_zero] at x1 x2
 have ldt := Whole.row (P := Tryz.prog) S_Table rfl rowT6
 unfold Whole at ldt
 have hls := list_run (P := Tryz.prog) T_lTable (by decide) [.int .i64 c.fNext, .string (strB t.fName), .slice b1 t.fColumns.length d1, .slice b2 t.fKey.length d2] rfl ((w4.setRow (w.heap.size + 1) ([.int .i64 t.fID, .string (strB t.fName), .slice b1 t.fColumns.length d1, .slice b2 t.fKey.length d2] : List Value).toArray).setCell ⟨w.heap.size + 1, 0, none⟩ (.int .i64 c.fNext))
 replace rowR := rowR.keep k56 (by omega)
 replace kk := kk.then k56 (fun i hi e => by omega)
 replace ownT := owned_keep ownT k56 (fun b hb e => by have := (ownT.lt b hb).1; simp at this; omega)
 have hTg : ∀ b, OwnB (.slice aO c.fTables.length cO) b → w.heap.size + 1 + 1 + 1 ≤ b := fun b hb => by have := (ownT.lt b hb).1; simp at this; omega
 have hbs : w.heap.size + 1 + 1 + 1 ≤ ((w4.setRow (w.heap.size + 1) ([.int .i64 t.fID, .string (strB t.fName), .slice b1 t.fColumns.length d1, .slice b2 t.fKey.length d2] : List Value).toArray).setCell ⟨w.heap.size + 1, 0, none⟩ (.int .i64 c.fNext)).heap.size := by have := rowO6.lt; simp at hsO ⊢; omega
 have hown1 := ownT.lt
 have hs6 : ((w4.setRow (w.heap.size + 1) ([.int .i64 t.fID, .string (strB t.fName), .slice b1 t.fColumns.length d1, .slice b2 t.fKey.length d2] : List Value).toArray).setCell ⟨w.heap.size + 1, 0, none⟩ (.int .i64 c.fNext)).heap.size = w4.heap.size := (size_setCell _ _ _).trans (size_setRow _ _ _)
 have HS6 := Lib.hid hs6
 clear hs6
 go_wp2_with (at_builtin; refine wpl_append1_at (c := 1) T_lTable ?hgd (.tmp 43) (.tmp 45) ?ho _ ?hs ownT ?hx ?c0 ?c1 ?c2 ?c3 ?c4 ?_)
 case hgd => rfl
 case ho => rfl
 case hs => rfl
 case hx => rw [HS6.out]; rfl
 case c0 => rfl
 case c1 => exact ⟨rfl, rfl, rfl, rfl⟩
 case c2 => unfold maxLen; omega
 case c3 => omega
 case c4 => simp at hbm hbs ⊢; omega
 intro a7 c7 w7 own7 k7 hfresh
 have hTm : ∀ b, OwnB (.slice aO c.fTables.length cO) b → w.heap.size + 1 + 1 + 1 ≤ b ∧ b < m := fun b hb => ⟨hTg b hb, hTlt b hb⟩
 have hmw1 := hmw'.out
 have rowO7 := rowO6.keep k7 (fun hb => by have := hTm _ hb; omega)
 replace rowR := rowR.keep k7 (fun hb => by have := hTg _ hb; omega)
 replace ownX7 := owned_keep ownX7 k7 (fun b hb h => by have := hXm b hb; have := hTm b h; omega)
 replace elsT7 := elsT7.keep fGTable_lawful k7 (fun b hb => hb.2.2)
 replace elsX7 := elsX7.keep fGIndex_lawful k7 (fun b hb h => by have := hb.1; have := hTm b h; omega)
 replace rN := rGTable_lawful.keep rN k7 (fun b hb h => by have := hb.1; have := hTm b h; have := hbO3.out; omega)
 have hs7 := k7.size
 have hs67 : w4.heap.size ≤ w7.heap.size := by rw [HS6.out] at hs7; exact hs7
 have h7g : ∀ b, OwnB (.slice a7 (c.fTables.length + 1) c7) b → w.heap.size + 1 + 1 + 1 ≤ b ∧ b < w7.heap.size ∧ b ≠ w1.heap.size := fun b hb => by
  have h1 := (own7.lt b hb).2
  rcases hfresh b hb with h | h
  ·have := hTm b h; omega
  ·have h' : w4.heap.size ≤ b := by first | exact h | exact Nat.le_trans (Nat.le_of_eq HS6.out.symm) h
   have := hbO3.out; omega
 replace kk := kk.then k7 (fun i hi hb => by have := hTg _ hb; omega)
 clear hls ldt y0 f0 x1 x2 hst k7 hfresh
 -- the table, as it is read now
 have rNew : rGTable w7 (fun b => w.heap.size + 1 + 1 + 1 ≤ b ∧ b < w7.heap.size ∧ b ≠ w1.heap.size) [.int .i64 c.fNext, .string (strB t.fName), .slice b1 t.fColumns.length d1, .slice b2 t.fKey.length d2] ({ t with fID := c.fNext } : GTable) := by
  obtain ⟨e1, e2, e3, e4, he, z0, z1, z2, z3, -⟩ := rGTable_open rN
  simp only [List.cons.injEq, Value.slice.injEq, and_true, true_and] at he
  obtain ⟨⟨rfl, rfl⟩, rfl, rfl⟩ := he
  exact rGTable_lawful.mono (rGTable_mk w7 _ (x := ({ t with fID := c.fNext } : GTable)) hcn z1 z2 z3) (fun b hb => by have h1 := hb.1; have h2 := hb.2; have := hbO3.out; have := kk.size; refine ⟨by omega, by omega, by omega⟩)
 have elsR : Els rGTable w7 (fun b => w.heap.size + 1 + 1 + 1 ≤ b ∧ b < w7.heap.size ∧ b ≠ w1.heap.size) (cssT ++ [[.int .i64 c.fNext, .string (strB t.fName), .slice b1 t.fColumns.length d1, .slice b2 t.fKey.length d2]]) (c.fTables ++ [({ t with fID := c.fNext } : GTable)]) :=
  Els.snoc ⟨elsT7.1, fun i cc x h1 h2 => rGTable_lawful.mono (fGTable_to (elsT7.2 i cc x h1 h2)) (fun b hb => by have h3 := hb.1; have h4 := hb.2.1; simp at h3; have := hbO3.out; refine ⟨by omega, by omega, by omega⟩)⟩ rNew
 have elsI : Els rGIndex w7 (fun b => w.heap.size + 1 + 1 + 1 ≤ b ∧ b < w7.heap.size ∧ b ≠ w1.heap.size) cssX c.fIndexes :=
  ⟨elsX7.1, fun i cc x h1 h2 => rGIndex_lawful.mono (fGIndex_to (elsX7.2 i cc x h1 h2)) (fun b hb => by have h3 := hb.1; have h4 := hb.2.1; have := hbO3.out; refine ⟨by omega, by omega, by omega⟩)⟩
 clear rN elsT7 elsX7
 have k8 : Keep (· = w1.heap.size) w7 (((w7.setCell ⟨w1.heap.size, 2, none⟩ (.slice a7 (c.fTables.length + 1) c7)).setCell ⟨w1.heap.size, 1, none⟩ (.int .i64 (c.fNext + 1))).setCell ⟨w1.heap.size, 0, none⟩ (.int .i64 (c.fVersion + 1))) := (((Keep.refl (· = w1.heap.size) w7).setCell (p := ⟨w1.heap.size, 2, none⟩) (fun _ => rfl) (.slice a7 (c.fTables.length + 1) c7)).setCell (p := ⟨w1.heap.size, 1, none⟩) (fun _ => rfl) (.int .i64 (c.fNext + 1))).setCell (p := ⟨w1.heap.size, 0, none⟩) (fun _ => rfl) (.int .i64 (c.fVersion + 1))
 have rowO8 := rowO7.set 2 (.slice a7 (c.fTables.length + 1) c7)
 simp only [List.set_cons_succ, List.set_cons_zero] at rowO8
 have rowO9 := rowO8.set 1 (.int .i64 (c.fNext + 1))
 simp only [List.set_cons_succ, List.set_cons_zero] at rowO9
 have rowO10 := rowO9.set 0 (.int .i64 (c.fVersion + 1))
 simp only [List.set_cons_zero] at rowO10
 have x7 := rowO7.cell 2
 (try simp only [List.getElem?_cons_succ] at x7); (try simp only [List.getElem?_cons_zero] at x7)
 have f7 := rowO7.frozen 2
 have x8 := rowO8.cell 1
 (try simp only [List.getElem?_cons_succ] at x8); (try simp only [List.getElem?_cons_zero] at x8)
 have f8 := rowO8.frozen 1
 have x9 := rowO9.cell 0
 (try simp only [List.getElem?_cons_succ] at x9); (try simp only [List.getElem?_cons_zero] at x9)
 have f9 := rowO9.frozen 0
 have i1 : IntKind.i64.wrap (c.fNext + 1) = c.fNext + 1 := by have := hcn.1; rw [IntKind.wrap_i64]; omega
 have i2 : IntKind.i64.wrap (c.fVersion + 1) = c.fVersion + 1 := by have := hcv.1; rw [IntKind.wrap_i64]; omega
 replace rowR := rowR.keep k8 (by omega)
 have ldo := Whole.row (P := Tryz.prog) (T := 50) S_Catalog rfl rowO10
 unfold Whole at ldo
 have hstR := store_run (P := Tryz.prog) (cs := [.int .i64 (c.fVersion + 1), .int .i64 (c.fNext + 1), .slice a7 (c.fTables.length + 1) c7, .slice aP c.fIndexes.length cP]) S_Catalog rowR rfl rfl rfl
 have rowF := rowR.setRow [.int .i64 (c.fVersion + 1), .int .i64 (c.fNext + 1), .slice a7 (c.fTables.length + 1) c7, .slice aP c.fIndexes.length cP]
 have k9 : Keep (· = w.heap.size + 1 + 1) (((w7.setCell ⟨w1.heap.size, 2, none⟩ (.slice a7 (c.fTables.length + 1) c7)).setCell ⟨w1.heap.size, 1, none⟩ (.int .i64 (c.fNext + 1))).setCell ⟨w1.heap.size, 0, none⟩ (.int .i64 (c.fVersion + 1))) ((((w7.setCell ⟨w1.heap.size, 2, none⟩ (.slice a7 (c.fTables.length + 1) c7)).setCell ⟨w1.heap.size, 1, none⟩ (.int .i64 (c.fNext + 1))).setCell ⟨w1.heap.size, 0, none⟩ (.int .i64 (c.fVersion + 1))).setRow (w.heap.size + 1 + 1) ([.int .i64 (c.fVersion + 1), .int .i64 (c.fNext + 1), .slice a7 (c.fTables.length + 1) c7, .slice aP c.fIndexes.length cP] : List Value).toArray) := (Keep.refl (· = w.heap.size + 1 + 1) _).setRow (fun _ => rfl) _
 have kF : Keep Nix w ((((w7.setCell ⟨w1.heap.size, 2, none⟩ (.slice a7 (c.fTables.length + 1) c7)).setCell ⟨w1.heap.size, 1, none⟩ (.int .i64 (c.fNext + 1))).setCell ⟨w1.heap.size, 0, none⟩ (.int .i64 (c.fVersion + 1))).setRow (w.heap.size + 1 + 1) ([.int .i64 (c.fVersion + 1), .int .i64 (c.fNext + 1), .slice a7 (c.fTables.length + 1) c7, .slice aP c.fIndexes.length cP] : List Value).toArray) := (kk.then k8 (fun i hi e => by omega)).then k9 (fun i hi e => by omega)
 have hs67' : w.heap.size ≤ w7.heap.size := kk.size
 have e9 : w7.heap.size ≤ ((((w7.setCell ⟨w1.heap.size, 2, none⟩ (.slice a7 (c.fTables.length + 1) c7)).setCell ⟨w1.heap.size, 1, none⟩ (.int .i64 (c.fNext + 1))).setCell ⟨w1.heap.size, 0, none⟩ (.int .i64 (c.fVersion + 1))).setRow (w.heap.size + 1 + 1) ([.int .i64 (c.fVersion + 1), .int .i64 (c.fNext + 1), .slice a7 (c.fTables.length + 1) c7, .slice aP c.fIndexes.length cP] : List Value).toArray).heap.size := Nat.le_trans k8.size k9.size
 have hown9 := owned_keep (owned_keep own7 k8 (fun b hb e => (h7g b hb).2.2 e)) k9 (fun b hb e => by have := (h7g b hb).1; omega)
 have hownX9 := owned_keep (owned_keep ownX7 k8 (fun b hb e => by have := hXlt.out b hb; omega)) k9 (fun b hb e => by have := hXm b hb; omega)
 have elsR9 := (elsR.keep rGTable_lawful k8 (fun b hb e => hb.2.2 e)).keep rGTable_lawful k9 (fun b hb e => by have := hb.1; omega)
 have elsI9 := (elsI.keep rGIndex_lawful k8 (fun b hb e => hb.2.2 e)).keep rGIndex_lawful k9 (fun b hb e => by have := hb.1; omega)
 have hres := added_reads (t := t) hcv hcn hs hv h7 h6 e9 hs67' hown9 hownX9 elsR9 elsI9 (fun b hb => ⟨(h7g b hb).1, (h7g b hb).2.1⟩) (fun b hb => by have := hXm b hb; have := hXlt.out b hb; have := hbO3.out; constructor <;> omega)
 have HRES := Lib.hid hres
 have HKF := Lib.hid kF
 clear hres kF elsR9 elsI9 hown9 hownX9 elsR elsI rNew own7 ownX7 k8 k9 kk rowO7 rowO8 rowO9 rowO10
 go_wp2_with fail
 refine bodyPost_ret (results_cell_row2 (by rfl) _ _ _ _ _ _ _ (by rfl) rowF Tryz.underlying50 (by rfl) (by exact S_Catalog.info)) rfl ?_
 rw [HR.out]
 exact ⟨_, rfl, HRES.out, rGCatalog_ones HRES.out, HKF.out⟩
end
end Go.Proofs.YtibaehlfpgipfaaGreat
