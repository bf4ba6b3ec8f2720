/- SCHEMA: what the program finds by a name. Printed by gen28.py. -/
import Derived.Test.YtibaehlfpgipfaaSchE
namespace Go.Proofs.Ytibaehlfpgipfaa
open Go.RowKit

theorem find_c {p : Nat → Prop} (c : GCatalog) (csc : List Value) (d : List UInt8) (w : World) (hc : rGCatalog w p csc c) :
    Calls Try.prog 36 #[.agg csc.toArray, .string (strB d)] w fun e w' => e = .returned (.int .i64 (findB (fun x => decide (x.fName = d)) c.fIndexes)) ∧ Keep Nix w w' := by
  obtain ⟨aT, cT, aX, cX, rfl, -, -, hT, hX, -⟩ := rGCatalog_open hc
  have row0 : RowIs ((w.alloc (.cells #[.int .i64 c.fVersion, .int .i64 c.fNext, .slice aT c.fTables.length cT, .slice aX c.fIndexes.length cX] 34)).alloc (.cells #[.string (strB d)] 9)) w.heap.size 34 [.int .i64 c.fVersion, .int .i64 c.fNext, .slice aT c.fTables.length cT, .slice aX c.fIndexes.length cX] := (RowIs.alloc w _ _).keep ((Keep.refl Nix _).alloc _) id
  have rowN : RowIs ((w.alloc (.cells #[.int .i64 c.fVersion, .int .i64 c.fNext, .slice aT c.fTables.length cT, .slice aX c.fIndexes.length cX] 34)).alloc (.cells #[.string (strB d)] 9)) (w.heap.size + 1) 9 [.string (strB d)] := RowIs.alloc_at (w.alloc (.cells #[.int .i64 c.fVersion, .int .i64 c.fNext, .slice aT c.fTables.length cT, .slice aX c.fIndexes.length cX] 34)) _ (by simp) #[.string (strB d)] 9
  have kk : Keep Nix w ((w.alloc (.cells #[.int .i64 c.fVersion, .int .i64 c.fNext, .slice aT c.fTables.length cT, .slice aX c.fIndexes.length cX] 34)).alloc (.cells #[.string (strB d)] 9)) := ((Keep.refl Nix w).alloc _).alloc _
  have hF := Lib.hid (ifIndex_c (p := p) aX c.fIndexes.length cX c.fIndexes 55 (.pointer (some ⟨w.heap.size + 1, 0, none⟩)) (fun x => decide (x.fName = d)) _
    ((rList_lawful rGIndex_lawful).nix hX kk) Try.call55 (fun w' z cs' k' _ hz => f_find1 z cs' (w.heap.size + 1) d w' hz (Nat.lt_of_lt_of_le rowN.lt k'.size) ((rowN.keep k' id).cell 0)))
  clear hc hT hX
  have x3 := row0.cell 3
  simp only [List.getElem?_cons_succ, List.getElem?_cons_zero] at x3
  go_enter Try.func36, Try.ntmps36
  go_wp2_with fail
  go_fit hF.out
  rintro e w1 ⟨rfl, k1⟩
  go_wp2_with fail
  go_ret
  exact ⟨rfl, kk.trans k1⟩
/-- Small enough to be copied. -/
def smallT (t : GTable) : Prop := t.fColumns.length ≤ 1000 ∧ t.fKey.length ≤ 1000
def smallX (x : GIndex) : Prop := x.fColumns.length ≤ 1000
def smallC (c : GCatalog) : Prop := (∀ t ∈ c.fTables, smallT t) ∧ (∀ x ∈ c.fIndexes, smallX x) ∧ c.fTables.length ≤ 1000 ∧ c.fIndexes.length ≤ 1000
def FoundNew {α : Type} (R : RD α) (w : World) (y : α × Bool) (e : Ending) (w' : World) : Prop := ∃ cs : List Value, e = .returned (.tuple #[.agg cs.toArray, .bool y.2]) ∧ R w' (NewIn w w') cs y.1 ∧ Keep Nix w w'
theorem rListW_nil {α : Type} {R : RD α} (w : World) (p : Nat → Prop) (a : Option Addr) (cap : Nat) : rListW R w p [.slice a 0 cap] [] :=
  ⟨a, cap, [], rfl, rfl, fun h => absurd rfl h, Nat.zero_le _, Nat.zero_le _, fun i c x h => by simp at h⟩
theorem zTab_f (w : World) (p : Nat → Prop) : fGTable w p [.int .i64 0, .string { data := #[] }, .slice none 0 0, .slice none 0 0] zTab := ⟨[_], [_], [_], [_], rfl, ⟨rfl, by decide⟩, ⟨rfl, by simp [zTab]⟩, rListW_nil _ _ _ _, rListW_nil _ _ _ _⟩
theorem zIdx_f (w : World) (p : Nat → Prop) : fGIndex w p [.int .i64 0, .int .i64 0, .string { data := #[] }, .slice none 0 0, .bool false, .int .i64 0, .bool false] zIdx := ⟨[_], [_], [_], [_], [_], [_], [_], rfl, ⟨rfl, by decide⟩, ⟨rfl, by decide⟩, ⟨rfl, by simp [zIdx]⟩, rListW_nil _ _ _ _, rfl, ⟨rfl, by decide⟩, rfl⟩
theorem fGTable_ones {w : World} {p : Nat → Prop} {cs : List Value} {x : GTable} (h : fGTable w p cs x) : ones cs = true := rGTable_ones (fGTable_to h)
theorem fGIndex_ones {w : World} {p : Nat → Prop} {cs : List Value} {x : GIndex} (h : fGIndex w p cs x) : ones cs = true := rGIndex_ones (fGIndex_to h)
section
attribute [local go_sem ↓] ldz_Table stz_Table
set_option maxRecDepth 100000 in
set_option maxHeartbeats 8000000 in
theorem sTable_c {p : Nat → Prop} (c : GCatalog) (csc : List Value) (d : List UInt8) (w : World) (hc : rGCatalog w p csc c) (hs : ∀ t ∈ c.fTables, smallT t) :
    Calls Try.prog 33 #[.agg csc.toArray, .string (strB d)] w (FoundNew fGTable w (firstB (fun t => decide (t.fName = d)) c.fTables zTab)) := by
  obtain ⟨aT, cT, aX, cX, rfl, -, -, hT, -, -⟩ := rGCatalog_open hc
  have nT := (rList_len hT).2.2
  have mT : c.fTables.length ≤ 140737488351232 := by have := far_len; omega
  clear nT hc
  have row0 : RowIs (((w.alloc (.cells #[.int .i64 c.fVersion, .int .i64 c.fNext, .slice aT c.fTables.length cT, .slice aX c.fIndexes.length cX] 34)).alloc (.cells #[.string (strB d)] 9)).alloc (.cells #[.int .i64 0, .string { data := #[] }, .slice none 0 0, .slice none 0 0] 49)) w.heap.size 34 [.int .i64 c.fVersion, .int .i64 c.fNext, .slice aT c.fTables.length cT, .slice aX c.fIndexes.length cX] := ((RowIs.alloc w _ _).keep ((Keep.refl Nix _).alloc _) id).keep ((Keep.refl Nix _).alloc _) id
  have rowI : RowIs (((w.alloc (.cells #[.int .i64 c.fVersion, .int .i64 c.fNext, .slice aT c.fTables.length cT, .slice aX c.fIndexes.length cX] 34)).alloc (.cells #[.string (strB d)] 9)).alloc (.cells #[.int .i64 0, .string { data := #[] }, .slice none 0 0, .slice none 0 0] 49)) (w.heap.size + 1) 9 [.string (strB d)] := (RowIs.alloc_at (w.alloc (.cells #[.int .i64 c.fVersion, .int .i64 c.fNext, .slice aT c.fTables.length cT, .slice aX c.fIndexes.length cX] 34)) _ (by simp) #[.string (strB d)] 9).keep ((Keep.refl Nix _).alloc _) id
  have rowR : RowIs (((w.alloc (.cells #[.int .i64 c.fVersion, .int .i64 c.fNext, .slice aT c.fTables.length cT, .slice aX c.fIndexes.length cX] 34)).alloc (.cells #[.string (strB d)] 9)).alloc (.cells #[.int .i64 0, .string { data := #[] }, .slice none 0 0, .slice none 0 0] 49)) (w.heap.size + 1 + 1) 49 [.int .i64 0, .string { data := #[] }, .slice none 0 0, .slice none 0 0] := RowIs.alloc_at ((w.alloc (.cells #[.int .i64 c.fVersion, .int .i64 c.fNext, .slice aT c.fTables.length cT, .slice aX c.fIndexes.length cX] 34)).alloc (.cells #[.string (strB d)] 9)) _ (by simp) #[.int .i64 0, .string { data := #[] }, .slice none 0 0, .slice none 0 0] 49
  have kk : Keep Nix w (((w.alloc (.cells #[.int .i64 c.fVersion, .int .i64 c.fNext, .slice aT c.fTables.length cT, .slice aX c.fIndexes.length cX] 34)).alloc (.cells #[.string (strB d)] 9)).alloc (.cells #[.int .i64 0, .string { data := #[] }, .slice none 0 0, .slice none 0 0] 49)) := (((Keep.refl Nix w).alloc _).alloc _).alloc _
  have x2 := row0.cell 2
  simp only [List.getElem?_cons_succ, List.getElem?_cons_zero] at x2
  have hF := Lib.hid (ifTable_c (p := p) aT c.fTables.length cT c.fTables 47 (.pointer (some ⟨w.heap.size + 1, 0, none⟩)) (fun t => decide (t.fName = d)) _
    ((rList_lawful rGTable_lawful).nix hT kk) Try.call47 (fun w' z cs' k' _ hz => f_Table1 z cs' (w.heap.size + 1) d w' hz (Nat.lt_of_lt_of_le rowI.lt k'.size) ((rowI.keep k' id).cell 0)))
  rcases findB_cases (fun t : GTable => decide (t.fName = d)) c.fTables with ⟨h1, h2⟩ | ⟨k, hk, h1, h2, h3⟩
  · rw [h1] at hF
    have hR := Lib.hid (firstB_none (z := zTab) h2)
    have hbd : ∀ w', (Instr.build 49 #[]).run Try.prog w' = .ok (.agg #[.int .i64 0, .string { data := #[] }, .slice none 0 0, .slice none 0 0]) w' := fun w' => by kernel_rfl
    clear h1 h2 hs
    go_enter Try.func33, Try.ntmps33
    go_wp2_with fail
    go_fit hF.out
    rintro e w1 ⟨rfl, k1⟩
    replace rowR := rowR.keep k1 id
    replace kk := kk.trans k1
    have hst := store_run (P := Try.prog) (cs := [.int .i64 0, .string { data := #[] }, .slice none 0 0, .slice none 0 0]) S_Table rowR rfl rfl rfl
    have rowF := rowR.setRow [.int .i64 0, .string { data := #[] }, .slice none 0 0, .slice none 0 0]
    have kF := kk.setRow (g := w.heap.size + 1 + 1) (fun h => by omega) [.int .i64 0, .string { data := #[] }, .slice none 0 0, .slice none 0 0].toArray
    clear k1 hF x2 rowI row0 rowR kk
    go_wp2_with fail
    refine bodyPost_ret (results_cell_row2 (by rfl) _ _ _ _ _ _ _ (by rfl) rowF Try.underlying49 (by rfl) S_Table.info) rfl ?_
    rw [hR.out]
    exact ⟨_, rfl, zTab_f _ _, kF⟩
  · rw [h1] at hF
    have hR := Lib.hid (firstB_some (P := fun t : GTable => decide (t.fName = d)) (z := zTab) k hk h2 h3)
    have hi0 : (0 : Int) ≤ (k : Int) := by omega
    have hi1 : (k : Int) < (c.fTables.length : Int) := by omega
    obtain ⟨hx1, hx2⟩ := hs _ (List.getElem_mem hk)
    clear h1 h2 h3 hs
    go_enter Try.func33, Try.ntmps33
    go_wp2_with fail
    go_fit hF.out
    rintro e w1 ⟨rfl, k1⟩
    replace rowR := rowR.keep k1 id
    replace row0 := row0.keep k1 id
    replace kk := kk.trans k1
    obtain ⟨b, o, cc, cs, e1, -, hb, r, hcl⟩ := rList_at rGTable_lawful (by decide) ((rList_lawful rGTable_lawful).nix hT kk) k hk
    simp only [List.cons.injEq, Value.slice.injEq, and_true] at e1
    obtain ⟨rfl, -, -⟩ := e1
    have ld := Whole.at (P := Try.prog) S_Table (rGTable_lawful.len r) hcl
    unfold Whole at ld
    replace x2 := row0.cell 2
    simp only [List.getElem?_cons_succ, List.getElem?_cons_zero] at x2
    generalize c.fTables[k] = x at r hR hx1 hx2
    have hO := Lib.hid (ownTable_c x cs w1 r (by omega) (by omega))
    have hs1 := rowR.lt
    clear hF hcl k1 rowI
    go_wp2_with fail
    clear ld x2
    go_fit hO.out
    rintro e w2 ⟨cn, rfl, hN, k2⟩
    replace rowR := rowR.keep k2 id
    replace kk := kk.trans k2
    have hl4 := fGTable_lawful.len hN
    have hst := store_run (P := Try.prog) (cs := cn) S_Table rowR rfl hl4 (fGTable_ones hN)
    have rowF := rowR.setRow cn
    have kS : Keep (· = w.heap.size + 1 + 1) w2 (w2.setRow (w.heap.size + 1 + 1) cn.toArray) := (Keep.refl (· = w.heap.size + 1 + 1) w2).setRow (fun _ => rfl) cn.toArray
    have kF := kk.setRow (g := w.heap.size + 1 + 1) (fun h => by omega) cn.toArray
    have hN2 := fGTable_lawful.mono (q := NewIn w (w2.setRow (w.heap.size + 1 + 1) cn.toArray)) (fGTable_lawful.keep hN kS (fun b hb e => by have := hb.1; omega)) (fun b hb => ⟨by have := hb.1; omega, by have := hb.2; have := kS.size; omega⟩)
    have hin : (Try.prog.info? 49).map (·.size) = some cn.toArray.size := by rw [List.size_toArray, hl4]; exact S_Table.info
    have HIN := Lib.hid hin
    clear k2 row0 rowR kk kS hl4 hin hN hO
    go_wp2_with fail
    refine bodyPost_ret (results_cell_row2 (by rfl) _ _ _ _ _ _ _ (by rfl) rowF Try.underlying49 (by rfl) HIN.out) rfl ?_
    rw [hR.out]
    exact ⟨_, rfl, hN2, kF⟩
end
section
attribute [local go_sem ↓] ldz_Index stz_Index ldz_Catalog
end
end Go.Proofs.Ytibaehlfpgipfaa
