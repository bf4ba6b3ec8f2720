/- SCHEMA: small. Printed by mac.py. -/
import Derived.Test.YtfogbbnfedcldaaSchL
namespace Go.Proofs.Ytfogbbnfedcldaa
open Go.RowKit

def smallT30 (t : GTable) : Prop := t.fColumns.length ≤ 30 ∧ t.fKey.length ≤ 30
def smallX30 (x : GIndex) : Prop := x.fColumns.length ≤ 30
instance (t : GTable) : Decidable (smallT30 t) := inferInstanceAs (Decidable (_ ∧ _))
instance (x : GIndex) : Decidable (smallX30 x) := inferInstanceAs (Decidable (_ ≤ _))
def Small (c : GCatalog) : Prop := (∀ t ∈ c.fTables, smallT30 t) ∧ (∀ x ∈ c.fIndexes, smallX30 x) ∧ c.fTables.length ≤ 20 ∧ c.fIndexes.length ≤ 30
instance (c : GCatalog) : Decidable (Small c) := inferInstanceAs (Decidable (_ ∧ _))
theorem Small.toC {c : GCatalog} (h : Small c) : smallC c :=
  ⟨fun t ht => ⟨by have := (h.1 t ht).1; omega, by have := (h.1 t ht).2; omega⟩, fun x hx => by have := h.2.1 x hx; unfold smallX30 at this; unfold smallX; omega, by have := h.2.2.1; omega, by have := h.2.2.2; omega⟩
section
set_option maxRecDepth 100000 in
set_option maxHeartbeats 8000000 in
theorem small_c {p : Nat → Prop} (c : GCatalog) (csc : List Value) (w : World) (hc : rGCatalog w p csc c) :
    Calls Try.prog 9 #[.agg csc.toArray] w fun e w' => e = .returned (.bool (decide (Small c))) ∧ Keep Nix w w' := by
  obtain ⟨aT, cT, aX, cX, rfl, -, -, hT, hX, -⟩ := rGCatalog_open hc
  have nT := (rList_len hT).2.2
  have mT : c.fTables.length ≤ 140737488351232 := by have := far_len; omega
  have nX := (rList_len hX).2.2
  have mX : c.fIndexes.length ≤ 140737488351232 := by have := far_len; omega
  clear nT nX hc
  have row0 : RowIs (w.alloc (.cells #[.int .i64 c.fVersion, .int .i64 c.fNext, .slice aT c.fTables.length cT, .slice aX c.fIndexes.length cX] 25)) w.heap.size 25 [.int .i64 c.fVersion, .int .i64 c.fNext, .slice aT c.fTables.length cT, .slice aX c.fIndexes.length cX] := RowIs.alloc w _ _
  have kk : Keep Nix w (w.alloc (.cells #[.int .i64 c.fVersion, .int .i64 c.fNext, .slice aT c.fTables.length cT, .slice aX c.fIndexes.length cX] 25)) := (Keep.refl Nix w).alloc _
  have x2 := row0.cell 2
  (try simp only [List.getElem?_cons_succ] at x2); (try simp only [List.getElem?_cons_zero] at x2)
  have x3 := row0.cell 3
  (try simp only [List.getElem?_cons_succ] at x3); (try simp only [List.getElem?_cons_zero] at x3)
  go_enter Try.func9, Try.ntmps9
  rcases Nat.lt_or_ge 20 c.fTables.length with h1 | h1
  · have h1' : (20 : Int) < (c.fTables.length : Int) := by omega
    have HF : Hid (decide (Small c) = false) := decide_eq_false (fun h => by have := h.2.2.1; omega)
    go_wp2_with fail
    go_ret
    exact ⟨ret_bool HF.out.symm, kk⟩
  have h1' : (c.fTables.length : Int) ≤ 20 := by omega
  rcases Nat.lt_or_ge 30 c.fIndexes.length with h2 | h2
  · have h2' : (30 : Int) < (c.fIndexes.length : Int) := by omega
    have HF : Hid (decide (Small c) = false) := decide_eq_false (fun h => by have := h.2.2.2; omega)
    go_wp2_with fail
    go_ret
    exact ⟨ret_bool HF.out.symm, kk⟩
  have h2' : (c.fIndexes.length : Int) ≤ 30 := by omega
  go_wp2_with fail
  go_loop [3] (fun i => ∃ k : Nat, k ≤ c.fTables.length ∧ i = .int .i64 k ∧ Hid (∀ j (hj : j < c.fTables.length), j < k → smallT30 c.fTables[j])) (fun i => c.fTables.length - (intOf i).toNat)
  case atStart => exact ⟨0, by omega, rfl, fun j _ hj => by omega⟩
  case round =>
    obtain ⟨k, hk, rfl, hg⟩ := hrel
    by_cases hlt : k < c.fTables.length
    · have hi0 : (0 : Int) ≤ (k : Int) := by omega
      have hi1 : (k : Int) < (c.fTables.length : Int) := by omega
      obtain ⟨b, o, cc, cs, e1, -, hb, r, hcl⟩ := rList_at rGTable_lawful (by decide) ((rList_lawful rGTable_lawful).nix hT kk) k hlt
      simp only [List.cons.injEq, Value.slice.injEq, and_true] at e1
      obtain ⟨rfl, -, -⟩ := e1
      have HM := Lib.hid (List.getElem_mem hlt)
      have HS : Hid (smallT30 c.fTables[k] → ∀ j (hj : j < c.fTables.length), j < k + 1 → smallT30 c.fTables[j]) := fun h j hj hjk => by
        rcases Nat.lt_succ_iff_lt_or_eq.1 hjk with h' | rfl
        · exact hg.out j hj h'
        · exact h
      generalize c.fTables[k] = x at r HM HS
      obtain ⟨aC, cC, aK, cK, rfl, -, -, hrC, hrK, -⟩ := rGTable_open r
      have nC := (rList_len hrC).2.2
      have nK := (rList_len hrK).2.2
      have mC : x.fColumns.length ≤ 140737488351232 := by have := far_len; omega
      have mK : x.fKey.length ≤ 140737488351232 := by have := far_len; omega
      have z2 := hcl 2 _ rfl
      have z3 := hcl 3 _ rfl
      clear nC nK hrC hrK r hcl hT hX
      rcases Nat.lt_or_ge 30 x.fColumns.length with s1 | s1
      · have s1' : (30 : Int) < (x.fColumns.length : Int) := by omega
        have HF : Hid (decide (Small c) = false) := decide_eq_false (fun h => by have := (h.1 x HM.out).1; omega)
        go_wp2_with fail
        go_ret
        exact ⟨ret_bool HF.out.symm, kk⟩
      have s1' : (x.fColumns.length : Int) ≤ 30 := by omega
      rcases Nat.lt_or_ge 30 x.fKey.length with s2 | s2
      · have s2' : (30 : Int) < (x.fKey.length : Int) := by omega
        have HF : Hid (decide (Small c) = false) := decide_eq_false (fun h => by have := (h.1 x HM.out).2; omega)
        go_wp2_with fail
        go_ret
        exact ⟨ret_bool HF.out.symm, kk⟩
      have s2' : (x.fKey.length : Int) ≤ 30 := by omega
      have HN := Lib.hid (HS.out ⟨s1, s2⟩)
      clear s1 s2
      go_wp2_with fail
      go_round
      case rel => exact ⟨k + 1, by omega, by go_num, HN.out⟩
      case measure => simp [intOf]; omega
    · obtain rfl : k = c.fTables.length := by omega
      have HT : Hid (∀ t ∈ c.fTables, smallT30 t) := fun t ht => by
        obtain ⟨i, hi, rfl⟩ := List.mem_iff_getElem.1 ht
        exact hg.out i hi hi
      clear hg hlt hk
      go_wp2_with fail
      go_loop [4] (fun i => ∃ k : Nat, k ≤ c.fIndexes.length ∧ i = .int .i64 k ∧ Hid (∀ j (hj : j < c.fIndexes.length), j < k → smallX30 c.fIndexes[j])) (fun i => c.fIndexes.length - (intOf i).toNat)
      case atStart => exact ⟨0, by omega, rfl, fun j _ hj => by omega⟩
      case round =>
        obtain ⟨k, hk, rfl, hg⟩ := hrel
        by_cases hlt : k < c.fIndexes.length
        · have hi0 : (0 : Int) ≤ (k : Int) := by omega
          have hi1 : (k : Int) < (c.fIndexes.length : Int) := by omega
          obtain ⟨b, o, cc, cs, e1, -, hb, r, hcl⟩ := rList_at rGIndex_lawful (by decide) ((rList_lawful rGIndex_lawful).nix hX kk) k hlt
          simp only [List.cons.injEq, Value.slice.injEq, and_true] at e1
          obtain ⟨rfl, -, -⟩ := e1
          have HM := Lib.hid (List.getElem_mem hlt)
          have HS : Hid (smallX30 c.fIndexes[k] → ∀ j (hj : j < c.fIndexes.length), j < k + 1 → smallX30 c.fIndexes[j]) := fun h j hj hjk => by
            rcases Nat.lt_succ_iff_lt_or_eq.1 hjk with h' | rfl
            · exact hg.out j hj h'
            · exact h
          generalize c.fIndexes[k] = x at r HM HS
          obtain ⟨aI, cI, rfl, -, -, -, hrC, -, -⟩ := rGIndex_open r
          have nC := (rList_len hrC).2.2
          have mC : x.fColumns.length ≤ 140737488351232 := by have := far_len; omega
          have z3 := hcl 3 _ rfl
          clear nC hrC r hcl hT hX
          rcases Nat.lt_or_ge 30 x.fColumns.length with s1 | s1
          · have s1' : (30 : Int) < (x.fColumns.length : Int) := by omega
            have HF : Hid (decide (Small c) = false) := decide_eq_false (fun h => by have := h.2.1 x HM.out; unfold smallX30 at this; omega)
            go_wp2_with fail
            go_ret
            exact ⟨ret_bool HF.out.symm, kk⟩
          have s1' : (x.fColumns.length : Int) ≤ 30 := by omega
          have HN := Lib.hid (HS.out s1)
          clear s1
          go_wp2_with fail
          go_round
          case rel => exact ⟨k + 1, by omega, by go_num, HN.out⟩
          case measure => simp [intOf]; omega
        · obtain rfl : k = c.fIndexes.length := by omega
          have HF : Hid (decide (Small c) = true) := decide_eq_true ⟨HT.out, fun t ht => by
            obtain ⟨i, hi, rfl⟩ := List.mem_iff_getElem.1 ht
            exact hg.out i hi hi, h1, h2⟩
          clear hg
          go_wp2_with fail
          go_ret
          exact ⟨ret_bool HF.out.symm, kk⟩
end
end Go.Proofs.Ytfogbbnfedcldaa
