/- SCHEMA, THE SMALLEST PARTS: names, places, what a state does. -/
import Derived.Test.YtibaehlfpgipfaaOpens
namespace Go.Proofs.Ytibaehlfpgipfaa
open Go.RowKit

/-- May a byte be in a name? -/
def chB (c : UInt8) : Bool := decide (97 ≤ c.toNat ∧ c.toNat ≤ 122 ∨ 48 ≤ c.toNat ∧ c.toNat ≤ 57 ∨ c.toNat = 95)
def nameB (l : List UInt8) : Bool := l.all chB && decide (1 ≤ l.length ∧ l.length ≤ 20)
theorem nameB_bad {l : List UInt8} (k : Nat) (h : k < l.length) (hc : chB l[k] = false) : nameB l = false := by
  unfold nameB
  rw [Bool.and_eq_false_iff]; left
  rw [List.all_eq_false]
  exact ⟨l[k], List.getElem_mem h, by simp [hc]⟩
theorem nameB_good {l : List UInt8} (h : l.all chB = true) : nameB l = decide (1 ≤ l.length ∧ l.length ≤ 20) := by unfold nameB; rw [h]; rfl
theorem all_snoc (l : List UInt8) (k : Nat) (h : k < l.length) : (l.take (k + 1)).all chB = ((l.take k).all chB && chB l[k]) := by
  rw [List.take_succ_eq_append_getElem h, List.all_append]; simp
theorem take_snoc_b (s : ByteArray) (k : Nat) (h : k < s.size) : (s.data.toList.take (k + 1)).all chB = ((s.data.toList.take k).all chB && chB s[k]) := all_snoc _ k (by simpa using h)
set_option maxHeartbeats 1000000 in
theorem named_c (s : ByteArray) (w : World) (hs : s.size ≤ maxLen) : Calls Try.prog 48 #[.string s] w fun e w' => e = .returned (.bool (nameB s.data.toList)) ∧ w = w' := by
  unfold maxLen at hs
  have hl : s.data.toList.length = s.size := by rw [Array.length_toList]; rfl
  have HL := Lib.hid hl
  clear hl
  go_enter Try.func48, Try.ntmps48
  go_wp2
  go_loop [7] (fun i => ∃ k : Nat, k ≤ s.size ∧ i = .int .i64 k ∧ Hid ((s.data.toList.take k).all chB = true)) (fun i => s.size - (intOf i).toNat)
  case atStart => exact ⟨0, Nat.zero_le _, rfl, rfl⟩
  case round =>
    obtain ⟨k, hk, rfl, hp⟩ := hrel
    by_cases hlt : k < s.size
    · have HS := Lib.hid (take_snoc_b s k hlt)
      have hB : chB s[k] = false → nameB s.data.toList = false := fun h => nameB_bad (l := s.data.toList) k (by rw [HL.out]; exact hlt) h
      have HB := Lib.hid hB
      clear hB
      go_wp2
      all_goals first
        | (go_ret; exact ⟨ret_bool (HB.out (by unfold chB; rw [decide_eq_false_iff_not]; simp only [bne_iff_ne, ne_eq] at *; omega)).symm, rfl⟩)
        | (go_round
           case rel => exact ⟨k + 1, by omega, by go_num, by show _ = _; rw [HS.out, hp.out, Bool.true_and]; unfold chB; rw [decide_eq_true_iff]; (try simp only [bne_eq_false_iff_eq] at *); omega⟩
           case measure => simp [intOf]; omega)
    · have e : k = s.size := by omega
      have ha : s.data.toList.all chB = true := by
        have := hp.out
        rwa [List.take_of_length_le (by rw [HL.out]; omega)] at this
      have HG := Lib.hid (nameB_good ha)
      clear ha hp e
      have hz : (s.toList = []) ↔ s.size = 0 := by rw [ByteArray.toList_eq, ← HL.out]; exact List.length_eq_zero_iff.symm
      have HZ := Lib.hid hz
      clear hz
      by_cases h0 : s.size = 0
      · have t1 := HZ.out.2 h0
        go_wp2
        go_ret
        exact ⟨ret_bool (by rw [HG.out, HL.out]; exact (decide_eq_false (by omega)).symm), rfl⟩
      · have t1 : ¬ s.toList = [] := fun h => h0 (HZ.out.1 h)
        have t2 : (!s.toList.isEmpty) = true := by simp [t1]
        go_wp2
        go_ret
        exact ⟨ret_bool (by rw [HG.out, HL.out]; exact decide_eq_decide.2 (by omega)), rfl⟩
theorem named_s (l : List UInt8) (w : World) (hs : l.length ≤ far) : Calls Try.prog 48 #[.string (strB l)] w fun e w' => e = .returned (.bool (nameB l)) ∧ w = w' := by
  have := named_c (strB l) w (by rw [strB_size]; exact Nat.le_trans hs far_len.2)
  rwa [strB_list] at this

/-! ### states -/
def nextF (s : Int) : Int := if s = 1 ∨ s = 2 ∨ s = 3 ∨ s = 5 ∨ s = 6 then s + 1 else if s = 4 then 4 else 0
def readsB (s : Int) : Bool := decide (s = 4)
def writesB (s : Int) : Bool := decide (2 ≤ s ∧ s ≤ 5)
def deletesB (s : Int) : Bool := decide (1 ≤ s ∧ s ≤ 7)
theorem ret_bool3 {a b c a' b' c' : Bool} (h : a = a') (h2 : b = b') (h3 : c = c') : Ending.returned (.tuple #[.bool a, .bool b, .bool c]) = .returned (.tuple #[.bool a', .bool b', .bool c']) := by rw [h, h2, h3]
theorem sNext_c {p : Nat → Prop} (x : GIndex) (cs : List Value) (w : World) (hx : rGIndex w p cs x) : Calls Try.prog 39 #[.agg cs.toArray] w fun e w' => e = .returned (.int .i64 (nextF x.fState)) ∧ Keep Nix w w' := by
  obtain ⟨a, c, rfl, -, -, -, -, h5, -⟩ := rGIndex_open hx
  generalize x.fState = s at h5
  have kk : Keep Nix w (w.alloc (.cells #[.int .i64 x.fID, .int .i64 x.fTable, .string (strB x.fName), .slice a x.fColumns.length c, .bool x.fUnique, .int .i64 s, .bool x.fBad] 51)) := (Keep.refl Nix w).alloc _
  clear hx
  have hs : s = 1 ∨ s = 2 ∨ s = 3 ∨ s = 4 ∨ s = 5 ∨ s = 6 ∨ ((s == 1) = false ∧ (s == 2) = false ∧ (s == 3) = false ∧ (s == 4) = false ∧ (s == 5) = false ∧ (s == 6) = false ∧ nextF s = 0) := by
    simp only [beq_eq_false_iff_ne, ne_eq, nextF]; split
    · omega
    · split <;> omega
  clear h5
  rcases hs with rfl | rfl | rfl | rfl | rfl | rfl | ⟨t1, t2, t3, t4, t5, t6, hn⟩
  rotate_right
  · have HN := Lib.hid hn
    clear hn
    go_enter Try.func39, Try.ntmps39
    go_wp2
    go_ret
    exact ⟨ret_int HN.out.symm, kk⟩
  all_goals
    go_enter Try.func39, Try.ntmps39
    go_wp2
    go_ret
    exact ⟨rfl, kk⟩
end Go.Proofs.Ytibaehlfpgipfaa
