/- SCHEMA: which catalogs are right: the program's. -/
import Derived.Test.YtibaehlfpgipfaaSch6
namespace Go.Proofs.Ytibaehlfpgipfaa
open Go.RowKit

theorem RowIs.alloc_at (w : World) (n : Nat) (h : w.heap.size = n) (cs : Array Value) (e : TypeId) : RowIs (w.alloc (.cells cs e)) n e cs.toList := by
  subst h; exact RowIs.alloc w cs e
/-! ### what is found -/
def firstB {α : Type} (P : α → Bool) (l : List α) (z : α) : α × Bool := match l.find? P with
  | some x => (x, true)
  | none => (z, false)
theorem firstB_none {α : Type} {P : α → Bool} {l : List α} {z : α} (h : ∀ x ∈ l, P x = false) : firstB P l z = (z, false) := by
  have : l.find? P = none := List.find?_eq_none.2 (fun x hx => by simp [h x hx])
  unfold firstB; rw [this]
theorem firstB_some {α : Type} {P : α → Bool} {l : List α} {z : α} (k : Nat) (h : k < l.length) (h1 : P l[k] = true) (h2 : ∀ j (hj : j < k), P (l[j]'(by omega)) = false) : firstB P l z = (l[k], true) := by
  have : l.find? P = some l[k] := by
    rw [List.find?_eq_some_iff_getElem]
    exact ⟨h1, k, h, rfl, fun j hj => by simp [h2 j hj]⟩
  unfold firstB; rw [this]
def FoundIn {α : Type} (R : RD α) (p : Nat → Prop) (w : World) (y : α × Bool) (e : Ending) (w' : World) : Prop := ∃ cs : List Value, e = .returned (.tuple #[.agg cs.toArray, .bool y.2]) ∧ R w' p cs y.1 ∧ Keep Nix w w'
theorem rList_nil {α : Type} {R : RD α} (w : World) (p : Nat → Prop) (a : Option Addr) (cap : Nat) : rList R w p [.slice a 0 cap] [] :=
  ⟨a, cap, [], rfl, rfl, Lies.nil _ _ _, Nat.zero_le _, Nat.zero_le _, fun i c x h => by simp at h⟩
def zTab : GTable := ⟨0, [], [], []⟩
theorem zTab_r (w : World) (p : Nat → Prop) : rGTable w p [.int .i64 0, .string { data := #[] }, .slice none 0 0, .slice none 0 0] zTab :=
  rGTable_mk (x := zTab) w p (by unfold isI64; simp [zTab]) (by simp [zTab]) (rList_nil _ _ _ _) (rList_nil _ _ _ _)
section
attribute [local go_sem ↓] ldz_Table stz_Table
set_option maxRecDepth 100000 in
set_option maxHeartbeats 4000000 in
theorem byID_c {p : Nat → Prop} (c : GCatalog) (cs : List Value) (d : Int) (w : World) (hc : rGCatalog w p cs c) (hp : ∀ b, p b → b < w.heap.size) :
    Calls Try.prog 54 #[.agg cs.toArray, .int .i64 d] w (FoundIn rGTable p w (firstB (fun t => decide (t.fID = d)) c.fTables zTab)) := by
  obtain ⟨aT, cT, aX, cX, rfl, -, -, hT, -, -⟩ := rGCatalog_open hc
  have nT := (rList_len hT).2.2
  have mT : c.fTables.length ≤ 140737488351232 := by have := far_len; omega
  clear nT hc
  have row0 : RowIs (((w.alloc (.cells #[.int .i64 c.fVersion, .int .i64 c.fNext, .slice aT c.fTables.length cT, .slice aX c.fIndexes.length cX] 34)).alloc (.cells #[.int .i64 d] 3)).alloc (.cells #[.int .i64 0, .string { data := #[] }, .slice none 0 0, .slice none 0 0] 49)) w.heap.size 34 [.int .i64 c.fVersion, .int .i64 c.fNext, .slice aT c.fTables.length cT, .slice aX c.fIndexes.length cX] := ((RowIs.alloc w _ _).keep ((Keep.refl Nix _).alloc _) id).keep ((Keep.refl Nix _).alloc _) id
  have rowI : RowIs (((w.alloc (.cells #[.int .i64 c.fVersion, .int .i64 c.fNext, .slice aT c.fTables.length cT, .slice aX c.fIndexes.length cX] 34)).alloc (.cells #[.int .i64 d] 3)).alloc (.cells #[.int .i64 0, .string { data := #[] }, .slice none 0 0, .slice none 0 0] 49)) (w.heap.size + 1) 3 [.int .i64 d] := (RowIs.alloc_at (w.alloc (.cells #[.int .i64 c.fVersion, .int .i64 c.fNext, .slice aT c.fTables.length cT, .slice aX c.fIndexes.length cX] 34)) _ (by simp) #[.int .i64 d] 3).keep ((Keep.refl Nix _).alloc _) id
  have rowR : RowIs (((w.alloc (.cells #[.int .i64 c.fVersion, .int .i64 c.fNext, .slice aT c.fTables.length cT, .slice aX c.fIndexes.length cX] 34)).alloc (.cells #[.int .i64 d] 3)).alloc (.cells #[.int .i64 0, .string { data := #[] }, .slice none 0 0, .slice none 0 0] 49)) (w.heap.size + 1 + 1) 49 [.int .i64 0, .string { data := #[] }, .slice none 0 0, .slice none 0 0] := RowIs.alloc_at ((w.alloc (.cells #[.int .i64 c.fVersion, .int .i64 c.fNext, .slice aT c.fTables.length cT, .slice aX c.fIndexes.length cX] 34)).alloc (.cells #[.int .i64 d] 3)) _ (by simp) #[.int .i64 0, .string { data := #[] }, .slice none 0 0, .slice none 0 0] 49
  have kk : Keep Nix w (((w.alloc (.cells #[.int .i64 c.fVersion, .int .i64 c.fNext, .slice aT c.fTables.length cT, .slice aX c.fIndexes.length cX] 34)).alloc (.cells #[.int .i64 d] 3)).alloc (.cells #[.int .i64 0, .string { data := #[] }, .slice none 0 0, .slice none 0 0] 49)) := (((Keep.refl Nix w).alloc _).alloc _).alloc _
  have x2 := row0.cell 2
  simp only [List.getElem?_cons_succ, List.getElem?_cons_zero] at x2
  have hF := Lib.hid (ifTable_c (p := p) aT c.fTables.length cT c.fTables 63 (.pointer (some ⟨w.heap.size + 1, 0, none⟩)) (fun t => decide (t.fID = d)) _
    ((rList_lawful rGTable_lawful).nix hT kk) Try.call63 (fun w' z cs' k' _ hz => f_byID1 z cs' (w.heap.size + 1) d w' hz (Nat.lt_of_lt_of_le rowI.lt k'.size) ((rowI.keep k' id).cell 0)))
  rcases findB_cases (fun t : GTable => decide (t.fID = d)) c.fTables with ⟨h1, h2⟩ | ⟨k, hk, h1, h2, h3⟩
  · rw [h1] at hF
    have hR := Lib.hid (firstB_none (z := zTab) h2)
    have hbd : ∀ w', (Instr.build 49 #[]).run Try.prog w' = .ok (.agg #[.int .i64 0, .string { data := #[] }, .slice none 0 0, .slice none 0 0]) w' := fun w' => by kernel_rfl
    clear h1 h2
    go_enter Try.func54, Try.ntmps54
    go_wp2_with fail
    go_fit hF.out
    rintro e w1 ⟨rfl, k1⟩
    replace rowR := rowR.keep k1 id
    replace kk := kk.trans k1
    have hst := store_run (P := Try.prog) (cs := [.int .i64 0, .string { data := #[] }, .slice none 0 0, .slice none 0 0]) S_Table rowR rfl rfl rfl
    have rowF := rowR.setRow [.int .i64 0, .string { data := #[] }, .slice none 0 0, .slice none 0 0]
    have kF := kk.setRow (g := w.heap.size + 1 + 1) (fun h => by omega) [.int .i64 0, .string { data := #[] }, .slice none 0 0, .slice none 0 0].toArray
    clear k1 hF x2 rowI row0 rowR kk
    go_wp2_with fail
    refine bodyPost_ret (results_cell_row2 (by rfl) _ _ _ _ _ _ _ (by rfl) rowF Try.underlying49 (by rfl) S_Table.info) rfl ?_
    rw [hR.out]
    exact ⟨_, rfl, zTab_r _ _, kF⟩
  · rw [h1] at hF
    have hR := Lib.hid (firstB_some (P := fun t : GTable => decide (t.fID = d)) (z := zTab) k hk h2 h3)
    have hi0 : (0 : Int) ≤ (k : Int) := by omega
    have hi1 : (k : Int) < (c.fTables.length : Int) := by omega
    clear h1 h2 h3
    go_enter Try.func54, Try.ntmps54
    go_wp2_with fail
    go_fit hF.out
    rintro e w1 ⟨rfl, k1⟩
    replace rowR := rowR.keep k1 id
    replace row0 := row0.keep k1 id
    replace kk := kk.trans k1
    obtain ⟨b, o, cc, cs, e1, -, hb, r, hcl⟩ := rList_at rGTable_lawful (by decide) ((rList_lawful rGTable_lawful).nix hT kk) k hk
    simp only [List.cons.injEq, Value.slice.injEq, and_true] at e1
    obtain ⟨rfl, -, -⟩ := e1
    have ld := Whole.at (P := Try.prog) S_Table (rGTable_lawful.len r) hcl
    unfold Whole at ld
    replace x2 := row0.cell 2
    simp only [List.getElem?_cons_succ, List.getElem?_cons_zero] at x2
    have hl4 := rGTable_lawful.len r
    have hst := store_run (P := Try.prog) (cs := cs) S_Table rowR rfl hl4 (rGTable_ones r)
    have rowF := rowR.setRow cs
    have kS : Keep (· = w.heap.size + 1 + 1) w1 (w1.setRow (w.heap.size + 1 + 1) cs.toArray) := (Keep.refl (· = w.heap.size + 1 + 1) w1).setRow (fun _ => rfl) cs.toArray
    have kF := kk.setRow (g := w.heap.size + 1 + 1) (fun h => by omega) cs.toArray
    replace r := rGTable_lawful.keep r kS (fun b hb e => by have := hp b hb; omega)
    have hin : (Try.prog.info? 49).map (·.size) = some cs.toArray.size := by rw [List.size_toArray, hl4]; exact S_Table.info
    have HIN := Lib.hid hin
    clear k1 hF rowI row0 rowR kk kS hcl hl4 hin
    go_wp2_with fail
    refine bodyPost_ret (results_cell_row2 (by rfl) _ _ _ _ _ _ _ (by rfl) rowF Try.underlying49 (by rfl) HIN.out) rfl ?_
    rw [hR.out]
    exact ⟨_, rfl, r, kF⟩
end
end Go.Proofs.Ytibaehlfpgipfaa
