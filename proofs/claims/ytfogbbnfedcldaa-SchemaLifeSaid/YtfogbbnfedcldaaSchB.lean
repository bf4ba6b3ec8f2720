/- SCHEMA: what is found by the reference; what is one's own. Printed by gen23.py. -/
import Derived.Test.YtfogbbnfedcldaaSchA
namespace Go.Proofs.Ytfogbbnfedcldaa
open Go.RowKit

def zIdx : GIndex := ⟨0, 0, [], [], false, 0, false⟩
theorem zIdx_r (w : World) (p : Nat → Prop) : rGIndex w p [.int .i64 0, .int .i64 0, .string { data := #[] }, .slice none 0 0, .bool false, .int .i64 0, .bool false] zIdx :=
  rGIndex_mk (x := zIdx) w p (by unfold isI64; simp [zIdx]) (by unfold isI64; simp [zIdx]) (by simp [zIdx]) (rList_nil _ _ _ _) (by unfold isI64; simp [zIdx])
section
attribute [local go_sem ↓] ldz_Table stz_Table
set_option maxRecDepth 100000 in
set_option maxHeartbeats 8000000 in
theorem rByID_c {p : Nat → Prop} (c : GCatalog) (csc : List Value) (d : Int) (w : World) (hc : rGCatalog w p csc c) (hp : ∀ b, p b → b < w.heap.size) :
    Calls Try.prog 51 #[.agg csc.toArray, .int .i64 d] w (FoundIn rGTable p w (firstB (fun x => decide (x.fID = d)) c.fTables zTab)) := by
  obtain ⟨aT, cT, aX, cX, rfl, -, -, hT, hX, -⟩ := rGCatalog_open hc
  have nT := (rList_len hT).2.2
  have mT : c.fTables.length ≤ 140737488351232 := by have := far_len; omega
  clear nT hc
  have row0 : RowIs ((w.alloc (.cells #[.int .i64 c.fVersion, .int .i64 c.fNext, .slice aT c.fTables.length cT, .slice aX c.fIndexes.length cX] 25)).alloc (.cells #[.int .i64 0, .string { data := #[] }, .slice none 0 0, .slice none 0 0] 33)) w.heap.size 25 [.int .i64 c.fVersion, .int .i64 c.fNext, .slice aT c.fTables.length cT, .slice aX c.fIndexes.length cX] := (RowIs.alloc w _ _).keep ((Keep.refl Nix _).alloc _) id
  have rowR : RowIs ((w.alloc (.cells #[.int .i64 c.fVersion, .int .i64 c.fNext, .slice aT c.fTables.length cT, .slice aX c.fIndexes.length cX] 25)).alloc (.cells #[.int .i64 0, .string { data := #[] }, .slice none 0 0, .slice none 0 0] 33)) (w.heap.size + 1) 33 [.int .i64 0, .string { data := #[] }, .slice none 0 0, .slice none 0 0] := RowIs.alloc_at (w.alloc (.cells #[.int .i64 c.fVersion, .int .i64 c.fNext, .slice aT c.fTables.length cT, .slice aX c.fIndexes.length cX] 25)) _ (by simp) #[.int .i64 0, .string { data := #[] }, .slice none 0 0, .slice none 0 0] 33
  have kk : Keep Nix w ((w.alloc (.cells #[.int .i64 c.fVersion, .int .i64 c.fNext, .slice aT c.fTables.length cT, .slice aX c.fIndexes.length cX] 25)).alloc (.cells #[.int .i64 0, .string { data := #[] }, .slice none 0 0, .slice none 0 0] 33)) := ((Keep.refl Nix w).alloc _).alloc _
  have hbd : ∀ w', (Instr.build 33 #[]).run Try.prog w' = .ok (.agg #[.int .i64 0, .string { data := #[] }, .slice none 0 0, .slice none 0 0]) w' := fun w' => by kernel_rfl
  have x2 := row0.cell 2
  simp only [List.getElem?_cons_succ, List.getElem?_cons_zero] at x2
  go_enter Try.func51, Try.ntmps51
  go_wp2_with fail
  go_loop [6] (fun i => ∃ k : Nat, k ≤ c.fTables.length ∧ i = .int .i64 k ∧ Hid (NoneYet (fun x => decide (x.fID = d)) c.fTables k)) (fun i => c.fTables.length - (intOf i).toNat)
  case atStart => exact ⟨0, by omega, rfl, fun j hj => by omega⟩
  case round =>
    obtain ⟨k, hk, rfl, hg⟩ := hrel
    by_cases hlt : k < c.fTables.length
    · have hi0 : (0 : Int) ≤ (k : Int) := by omega
      have hi1 : (k : Int) < (c.fTables.length : Int) := by omega
      obtain ⟨b, o, cc, cs, e1, -, hb, r, hcl⟩ := rList_at rGTable_lawful (by decide) ((rList_lawful rGTable_lawful).nix hT kk) k hlt
      simp only [List.cons.injEq, Value.slice.injEq, and_true] at e1
      obtain ⟨rfl, -, -⟩ := e1
      have HS := Lib.hid (hg.out.succ (P := (fun x => decide (x.fID = d))) hlt)
      have HF : Hid (decide (c.fTables[k].fID = d) = true → firstB (fun x => decide (x.fID = d)) c.fTables zTab = (c.fTables[k], true)) := fun h => firstB_some (P := (fun x => decide (x.fID = d))) k hlt h (fun j hj => hg.out j hj _ (List.getElem?_eq_getElem (by omega)))
      generalize c.fTables[k] = x at r HS HF
      have ones_ := rGTable_ones r
      have hlen := rGTable_lawful.len r
      have y : ((w.alloc (.cells #[.int .i64 c.fVersion, .int .i64 c.fNext, .slice (some ⟨b, o, none⟩) c.fTables.length cT, .slice aX c.fIndexes.length cX] 25)).alloc (.cells #[.int .i64 0, .string { data := #[] }, .slice none 0 0, .slice none 0 0] 33)).cell? ⟨b, o + k * 4, none⟩ = some (.int .i64 x.fID) := by
        obtain ⟨_, _, _, _, rfl, -⟩ := rGTable_open r
        exact hcl 0 _ rfl
      have HE := Lib.hid (int_eq_dec x.fID d)
      by_cases he : x.fID = d
      · have hE : (x.fID == d) = true := by rw [HE.out]; exact decide_eq_true he
        have HR := Lib.hid (HF.out (decide_eq_true he))
        have ld := Whole.at (P := Try.prog) S_Table hlen hcl
        unfold Whole at ld
        have hst := store_run (P := Try.prog) (cs := cs) S_Table rowR rfl hlen ones_
        have rowF := rowR.setRow cs
        have kS : Keep (· = w.heap.size + 1) ((w.alloc (.cells #[.int .i64 c.fVersion, .int .i64 c.fNext, .slice (some ⟨b, o, none⟩) c.fTables.length cT, .slice aX c.fIndexes.length cX] 25)).alloc (.cells #[.int .i64 0, .string { data := #[] }, .slice none 0 0, .slice none 0 0] 33)) (((w.alloc (.cells #[.int .i64 c.fVersion, .int .i64 c.fNext, .slice (some ⟨b, o, none⟩) c.fTables.length cT, .slice aX c.fIndexes.length cX] 25)).alloc (.cells #[.int .i64 0, .string { data := #[] }, .slice none 0 0, .slice none 0 0] 33)).setRow (w.heap.size + 1) cs.toArray) := (Keep.refl (· = w.heap.size + 1) _).setRow (fun _ => rfl) cs.toArray
        have kF := kk.setRow (g := w.heap.size + 1) (fun h => by omega) cs.toArray
        replace r := rGTable_lawful.keep r kS (fun b hb e => by have := hp b hb; omega)
        have hin : (Try.prog.info? 33).map (·.size) = some cs.toArray.size := by rw [List.size_toArray, hlen]; exact S_Table.info
        have HIN := Lib.hid hin
        clear hin kS kk row0 rowR he hcl hlen hT hX
        go_wp2_with fail
        refine bodyPost_ret (results_cell_row2 (by rfl) _ _ _ _ _ _ _ (by rfl) rowF Try.underlying33 (by rfl) HIN.out) rfl ?_
        rw [HR.out]
        exact ⟨_, rfl, r, kF⟩
      · have hE : (x.fID == d) = false := by rw [HE.out]; exact decide_eq_false he
        have HN := Lib.hid (HS.out (decide_eq_false he))
        clear he hcl hlen
        go_wp2_with fail
        go_round
        case rel => exact ⟨k + 1, by omega, by go_num, HN.out⟩
        case measure => simp [intOf]; omega
    · obtain rfl : k = c.fTables.length := by omega
      have HR := Lib.hid (firstB_none (P := (fun x => decide (x.fID = d))) (l := c.fTables) (z := zTab) (fun x hx => by
        obtain ⟨m, hm, rfl⟩ := List.mem_iff_getElem.1 hx
        exact hg.out m hm _ (List.getElem?_eq_getElem hm)))
      have hst := store_run (P := Try.prog) (cs := [.int .i64 0, .string { data := #[] }, .slice none 0 0, .slice none 0 0]) S_Table rowR rfl rfl rfl
      have rowF := rowR.setRow [.int .i64 0, .string { data := #[] }, .slice none 0 0, .slice none 0 0]
      have kF := kk.setRow (g := w.heap.size + 1) (fun h => by omega) [.int .i64 0, .string { data := #[] }, .slice none 0 0, .slice none 0 0].toArray
      clear kk row0 rowR hT hX
      go_wp2_with fail
      refine bodyPost_ret (results_cell_row2 (by rfl) _ _ _ _ _ _ _ (by rfl) rowF Try.underlying33 (by rfl) S_Table.info) rfl ?_
      rw [HR.out]
      exact ⟨_, rfl, zTab_r _ _, kF⟩
end
section
attribute [local go_sem ↓] ldz_Table stz_Table
set_option maxRecDepth 100000 in
set_option maxHeartbeats 8000000 in
theorem rTable_c {p : Nat → Prop} (c : GCatalog) (csc : List Value) (d : List UInt8) (w : World) (hc : rGCatalog w p csc c) (hp : ∀ b, p b → b < w.heap.size) :
    Calls Try.prog 16 #[.agg csc.toArray, .string (strB d)] w (FoundIn rGTable p w (firstB (fun x => decide (x.fName = d)) c.fTables zTab)) := by
  obtain ⟨aT, cT, aX, cX, rfl, -, -, hT, hX, -⟩ := rGCatalog_open hc
  have nT := (rList_len hT).2.2
  have mT : c.fTables.length ≤ 140737488351232 := by have := far_len; omega
  clear nT hc
  have row0 : RowIs ((w.alloc (.cells #[.int .i64 c.fVersion, .int .i64 c.fNext, .slice aT c.fTables.length cT, .slice aX c.fIndexes.length cX] 25)).alloc (.cells #[.int .i64 0, .string { data := #[] }, .slice none 0 0, .slice none 0 0] 33)) w.heap.size 25 [.int .i64 c.fVersion, .int .i64 c.fNext, .slice aT c.fTables.length cT, .slice aX c.fIndexes.length cX] := (RowIs.alloc w _ _).keep ((Keep.refl Nix _).alloc _) id
  have rowR : RowIs ((w.alloc (.cells #[.int .i64 c.fVersion, .int .i64 c.fNext, .slice aT c.fTables.length cT, .slice aX c.fIndexes.length cX] 25)).alloc (.cells #[.int .i64 0, .string { data := #[] }, .slice none 0 0, .slice none 0 0] 33)) (w.heap.size + 1) 33 [.int .i64 0, .string { data := #[] }, .slice none 0 0, .slice none 0 0] := RowIs.alloc_at (w.alloc (.cells #[.int .i64 c.fVersion, .int .i64 c.fNext, .slice aT c.fTables.length cT, .slice aX c.fIndexes.length cX] 25)) _ (by simp) #[.int .i64 0, .string { data := #[] }, .slice none 0 0, .slice none 0 0] 33
  have kk : Keep Nix w ((w.alloc (.cells #[.int .i64 c.fVersion, .int .i64 c.fNext, .slice aT c.fTables.length cT, .slice aX c.fIndexes.length cX] 25)).alloc (.cells #[.int .i64 0, .string { data := #[] }, .slice none 0 0, .slice none 0 0] 33)) := ((Keep.refl Nix w).alloc _).alloc _
  have hbd : ∀ w', (Instr.build 33 #[]).run Try.prog w' = .ok (.agg #[.int .i64 0, .string { data := #[] }, .slice none 0 0, .slice none 0 0]) w' := fun w' => by kernel_rfl
  have x2 := row0.cell 2
  simp only [List.getElem?_cons_succ, List.getElem?_cons_zero] at x2
  go_enter Try.func16, Try.ntmps16
  go_wp2_with fail
  go_loop [6] (fun i => ∃ k : Nat, k ≤ c.fTables.length ∧ i = .int .i64 k ∧ Hid (NoneYet (fun x => decide (x.fName = d)) c.fTables k)) (fun i => c.fTables.length - (intOf i).toNat)
  case atStart => exact ⟨0, by omega, rfl, fun j hj => by omega⟩
  case round =>
    obtain ⟨k, hk, rfl, hg⟩ := hrel
    by_cases hlt : k < c.fTables.length
    · have hi0 : (0 : Int) ≤ (k : Int) := by omega
      have hi1 : (k : Int) < (c.fTables.length : Int) := by omega
      obtain ⟨b, o, cc, cs, e1, -, hb, r, hcl⟩ := rList_at rGTable_lawful (by decide) ((rList_lawful rGTable_lawful).nix hT kk) k hlt
      simp only [List.cons.injEq, Value.slice.injEq, and_true] at e1
      obtain ⟨rfl, -, -⟩ := e1
      have HS := Lib.hid (hg.out.succ (P := (fun x => decide (x.fName = d))) hlt)
      have HF : Hid (decide (c.fTables[k].fName = d) = true → firstB (fun x => decide (x.fName = d)) c.fTables zTab = (c.fTables[k], true)) := fun h => firstB_some (P := (fun x => decide (x.fName = d))) k hlt h (fun j hj => hg.out j hj _ (List.getElem?_eq_getElem (by omega)))
      generalize c.fTables[k] = x at r HS HF
      have ones_ := rGTable_ones r
      have hlen := rGTable_lawful.len r
      have y : ((w.alloc (.cells #[.int .i64 c.fVersion, .int .i64 c.fNext, .slice (some ⟨b, o, none⟩) c.fTables.length cT, .slice aX c.fIndexes.length cX] 25)).alloc (.cells #[.int .i64 0, .string { data := #[] }, .slice none 0 0, .slice none 0 0] 33)).cell? ⟨b, o + k * 4 + 1, none⟩ = some (.string (strB x.fName)) := by
        obtain ⟨_, _, _, _, rfl, -⟩ := rGTable_open r
        exact hcl 1 _ rfl
      have HE := Lib.hid (strB_eq x.fName d)
      by_cases he : x.fName = d
      · have hE : ((strB x.fName).toList == (strB d).toList) = true := by rw [HE.out]; exact decide_eq_true he
        have HR := Lib.hid (HF.out (decide_eq_true he))
        have ld := Whole.at (P := Try.prog) S_Table hlen hcl
        unfold Whole at ld
        have hst := store_run (P := Try.prog) (cs := cs) S_Table rowR rfl hlen ones_
        have rowF := rowR.setRow cs
        have kS : Keep (· = w.heap.size + 1) ((w.alloc (.cells #[.int .i64 c.fVersion, .int .i64 c.fNext, .slice (some ⟨b, o, none⟩) c.fTables.length cT, .slice aX c.fIndexes.length cX] 25)).alloc (.cells #[.int .i64 0, .string { data := #[] }, .slice none 0 0, .slice none 0 0] 33)) (((w.alloc (.cells #[.int .i64 c.fVersion, .int .i64 c.fNext, .slice (some ⟨b, o, none⟩) c.fTables.length cT, .slice aX c.fIndexes.length cX] 25)).alloc (.cells #[.int .i64 0, .string { data := #[] }, .slice none 0 0, .slice none 0 0] 33)).setRow (w.heap.size + 1) cs.toArray) := (Keep.refl (· = w.heap.size + 1) _).setRow (fun _ => rfl) cs.toArray
        have kF := kk.setRow (g := w.heap.size + 1) (fun h => by omega) cs.toArray
        replace r := rGTable_lawful.keep r kS (fun b hb e => by have := hp b hb; omega)
        have hin : (Try.prog.info? 33).map (·.size) = some cs.toArray.size := by rw [List.size_toArray, hlen]; exact S_Table.info
        have HIN := Lib.hid hin
        clear hin kS kk row0 rowR he hcl hlen hT hX
        go_wp2_with fail
        refine bodyPost_ret (results_cell_row2 (by rfl) _ _ _ _ _ _ _ (by rfl) rowF Try.underlying33 (by rfl) HIN.out) rfl ?_
        rw [HR.out]
        exact ⟨_, rfl, r, kF⟩
      · have hE : ((strB x.fName).toList == (strB d).toList) = false := by rw [HE.out]; exact decide_eq_false he
        have HN := Lib.hid (HS.out (decide_eq_false he))
        clear he hcl hlen
        go_wp2_with fail
        go_round
        case rel => exact ⟨k + 1, by omega, by go_num, HN.out⟩
        case measure => simp [intOf]; omega
    · obtain rfl : k = c.fTables.length := by omega
      have HR := Lib.hid (firstB_none (P := (fun x => decide (x.fName = d))) (l := c.fTables) (z := zTab) (fun x hx => by
        obtain ⟨m, hm, rfl⟩ := List.mem_iff_getElem.1 hx
        exact hg.out m hm _ (List.getElem?_eq_getElem hm)))
      have hst := store_run (P := Try.prog) (cs := [.int .i64 0, .string { data := #[] }, .slice none 0 0, .slice none 0 0]) S_Table rowR rfl rfl rfl
      have rowF := rowR.setRow [.int .i64 0, .string { data := #[] }, .slice none 0 0, .slice none 0 0]
      have kF := kk.setRow (g := w.heap.size + 1) (fun h => by omega) [.int .i64 0, .string { data := #[] }, .slice none 0 0, .slice none 0 0].toArray
      clear kk row0 rowR hT hX
      go_wp2_with fail
      refine bodyPost_ret (results_cell_row2 (by rfl) _ _ _ _ _ _ _ (by rfl) rowF Try.underlying33 (by rfl) S_Table.info) rfl ?_
      rw [HR.out]
      exact ⟨_, rfl, zTab_r _ _, kF⟩
end
section
attribute [local go_sem ↓] ldz_Index stz_Index
set_option maxRecDepth 100000 in
set_option maxHeartbeats 8000000 in
theorem rIndex_c {p : Nat → Prop} (c : GCatalog) (csc : List Value) (d : List UInt8) (w : World) (hc : rGCatalog w p csc c) (hp : ∀ b, p b → b < w.heap.size) :
    Calls Try.prog 18 #[.agg csc.toArray, .string (strB d)] w (FoundIn rGIndex p w (firstB (fun x => decide (x.fName = d)) c.fIndexes zIdx)) := by
  obtain ⟨aT, cT, aX, cX, rfl, -, -, hT, hX, -⟩ := rGCatalog_open hc
  have nT := (rList_len hX).2.2
  have mT : c.fIndexes.length ≤ 140737488351232 := by have := far_len; omega
  clear nT hc
  have row0 : RowIs ((w.alloc (.cells #[.int .i64 c.fVersion, .int .i64 c.fNext, .slice aT c.fTables.length cT, .slice aX c.fIndexes.length cX] 25)).alloc (.cells #[.int .i64 0, .int .i64 0, .string { data := #[] }, .slice none 0 0, .bool false, .int .i64 0, .bool false] 37)) w.heap.size 25 [.int .i64 c.fVersion, .int .i64 c.fNext, .slice aT c.fTables.length cT, .slice aX c.fIndexes.length cX] := (RowIs.alloc w _ _).keep ((Keep.refl Nix _).alloc _) id
  have rowR : RowIs ((w.alloc (.cells #[.int .i64 c.fVersion, .int .i64 c.fNext, .slice aT c.fTables.length cT, .slice aX c.fIndexes.length cX] 25)).alloc (.cells #[.int .i64 0, .int .i64 0, .string { data := #[] }, .slice none 0 0, .bool false, .int .i64 0, .bool false] 37)) (w.heap.size + 1) 37 [.int .i64 0, .int .i64 0, .string { data := #[] }, .slice none 0 0, .bool false, .int .i64 0, .bool false] := RowIs.alloc_at (w.alloc (.cells #[.int .i64 c.fVersion, .int .i64 c.fNext, .slice aT c.fTables.length cT, .slice aX c.fIndexes.length cX] 25)) _ (by simp) #[.int .i64 0, .int .i64 0, .string { data := #[] }, .slice none 0 0, .bool false, .int .i64 0, .bool false] 37
  have kk : Keep Nix w ((w.alloc (.cells #[.int .i64 c.fVersion, .int .i64 c.fNext, .slice aT c.fTables.length cT, .slice aX c.fIndexes.length cX] 25)).alloc (.cells #[.int .i64 0, .int .i64 0, .string { data := #[] }, .slice none 0 0, .bool false, .int .i64 0, .bool false] 37)) := ((Keep.refl Nix w).alloc _).alloc _
  have hbd : ∀ w', (Instr.build 37 #[]).run Try.prog w' = .ok (.agg #[.int .i64 0, .int .i64 0, .string { data := #[] }, .slice none 0 0, .bool false, .int .i64 0, .bool false]) w' := fun w' => by kernel_rfl
  have x2 := row0.cell 3
  simp only [List.getElem?_cons_succ, List.getElem?_cons_zero] at x2
  go_enter Try.func18, Try.ntmps18
  go_wp2_with fail
  go_loop [6] (fun i => ∃ k : Nat, k ≤ c.fIndexes.length ∧ i = .int .i64 k ∧ Hid (NoneYet (fun x => decide (x.fName = d)) c.fIndexes k)) (fun i => c.fIndexes.length - (intOf i).toNat)
  case atStart => exact ⟨0, by omega, rfl, fun j hj => by omega⟩
  case round =>
    obtain ⟨k, hk, rfl, hg⟩ := hrel
    by_cases hlt : k < c.fIndexes.length
    · have hi0 : (0 : Int) ≤ (k : Int) := by omega
      have hi1 : (k : Int) < (c.fIndexes.length : Int) := by omega
      obtain ⟨b, o, cc, cs, e1, -, hb, r, hcl⟩ := rList_at rGIndex_lawful (by decide) ((rList_lawful rGIndex_lawful).nix hX kk) k hlt
      simp only [List.cons.injEq, Value.slice.injEq, and_true] at e1
      obtain ⟨rfl, -, -⟩ := e1
      have HS := Lib.hid (hg.out.succ (P := (fun x => decide (x.fName = d))) hlt)
      have HF : Hid (decide (c.fIndexes[k].fName = d) = true → firstB (fun x => decide (x.fName = d)) c.fIndexes zIdx = (c.fIndexes[k], true)) := fun h => firstB_some (P := (fun x => decide (x.fName = d))) k hlt h (fun j hj => hg.out j hj _ (List.getElem?_eq_getElem (by omega)))
      generalize c.fIndexes[k] = x at r HS HF
      have ones_ := rGIndex_ones r
      have hlen := rGIndex_lawful.len r
      have y : ((w.alloc (.cells #[.int .i64 c.fVersion, .int .i64 c.fNext, .slice aT c.fTables.length cT, .slice (some ⟨b, o, none⟩) c.fIndexes.length cX] 25)).alloc (.cells #[.int .i64 0, .int .i64 0, .string { data := #[] }, .slice none 0 0, .bool false, .int .i64 0, .bool false] 37)).cell? ⟨b, o + k * 7 + 2, none⟩ = some (.string (strB x.fName)) := by
        obtain ⟨_, _, rfl, -⟩ := rGIndex_open r
        exact hcl 2 _ rfl
      have HE := Lib.hid (strB_eq x.fName d)
      by_cases he : x.fName = d
      · have hE : ((strB x.fName).toList == (strB d).toList) = true := by rw [HE.out]; exact decide_eq_true he
        have HR := Lib.hid (HF.out (decide_eq_true he))
        have ld := Whole.at (P := Try.prog) S_Index hlen hcl
        unfold Whole at ld
        have hst := store_run (P := Try.prog) (cs := cs) S_Index rowR rfl hlen ones_
        have rowF := rowR.setRow cs
        have kS : Keep (· = w.heap.size + 1) ((w.alloc (.cells #[.int .i64 c.fVersion, .int .i64 c.fNext, .slice aT c.fTables.length cT, .slice (some ⟨b, o, none⟩) c.fIndexes.length cX] 25)).alloc (.cells #[.int .i64 0, .int .i64 0, .string { data := #[] }, .slice none 0 0, .bool false, .int .i64 0, .bool false] 37)) (((w.alloc (.cells #[.int .i64 c.fVersion, .int .i64 c.fNext, .slice aT c.fTables.length cT, .slice (some ⟨b, o, none⟩) c.fIndexes.length cX] 25)).alloc (.cells #[.int .i64 0, .int .i64 0, .string { data := #[] }, .slice none 0 0, .bool false, .int .i64 0, .bool false] 37)).setRow (w.heap.size + 1) cs.toArray) := (Keep.refl (· = w.heap.size + 1) _).setRow (fun _ => rfl) cs.toArray
        have kF := kk.setRow (g := w.heap.size + 1) (fun h => by omega) cs.toArray
        replace r := rGIndex_lawful.keep r kS (fun b hb e => by have := hp b hb; omega)
        have hin : (Try.prog.info? 37).map (·.size) = some cs.toArray.size := by rw [List.size_toArray, hlen]; exact S_Index.info
        have HIN := Lib.hid hin
        clear hin kS kk row0 rowR he hcl hlen hT hX
        go_wp2_with fail
        refine bodyPost_ret (results_cell_row2 (by rfl) _ _ _ _ _ _ _ (by rfl) rowF Try.underlying37 (by rfl) HIN.out) rfl ?_
        rw [HR.out]
        exact ⟨_, rfl, r, kF⟩
      · have hE : ((strB x.fName).toList == (strB d).toList) = false := by rw [HE.out]; exact decide_eq_false he
        have HN := Lib.hid (HS.out (decide_eq_false he))
        clear he hcl hlen
        go_wp2_with fail
        go_round
        case rel => exact ⟨k + 1, by omega, by go_num, HN.out⟩
        case measure => simp [intOf]; omega
    · obtain rfl : k = c.fIndexes.length := by omega
      have HR := Lib.hid (firstB_none (P := (fun x => decide (x.fName = d))) (l := c.fIndexes) (z := zIdx) (fun x hx => by
        obtain ⟨m, hm, rfl⟩ := List.mem_iff_getElem.1 hx
        exact hg.out m hm _ (List.getElem?_eq_getElem hm)))
      have hst := store_run (P := Try.prog) (cs := [.int .i64 0, .int .i64 0, .string { data := #[] }, .slice none 0 0, .bool false, .int .i64 0, .bool false]) S_Index rowR rfl rfl rfl
      have rowF := rowR.setRow [.int .i64 0, .int .i64 0, .string { data := #[] }, .slice none 0 0, .bool false, .int .i64 0, .bool false]
      have kF := kk.setRow (g := w.heap.size + 1) (fun h => by omega) [.int .i64 0, .int .i64 0, .string { data := #[] }, .slice none 0 0, .bool false, .int .i64 0, .bool false].toArray
      clear kk row0 rowR hT hX
      go_wp2_with fail
      refine bodyPost_ret (results_cell_row2 (by rfl) _ _ _ _ _ _ _ (by rfl) rowF Try.underlying37 (by rfl) S_Index.info) rfl ?_
      rw [HR.out]
      exact ⟨_, rfl, zIdx_r _ _, kF⟩
end
end Go.Proofs.Ytfogbbnfedcldaa
