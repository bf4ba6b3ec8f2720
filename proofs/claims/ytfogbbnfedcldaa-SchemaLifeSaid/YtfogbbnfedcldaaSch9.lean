/- SCHEMA: which catalogs are right: the walk. Printed by gen21.py. -/
import Derived.Test.YtfogbbnfedcldaaSch8
namespace Go.Proofs.Ytfogbbnfedcldaa
open Go.RowKit

def lastT (c : GCatalog) : Nat → Int
  | 0 => 0
  | j + 1 => match c.fTables[j]? with
    | some t => t.fID
    | none => 0
def tabOk (c : GCatalog) (i : Nat) (t : GTable) : Bool := decide (lastT c i < t.fID) && (decide (t.fID < c.fNext) && (tableB t && decide (findB (fun o => decide (o.fName = t.fName)) c.fTables = (i : Int))))
def tabQ (c : GCatalog) (i : Nat) : Bool := match c.fTables[i]? with
  | some t => tabOk c i t
  | none => true
theorem tabQ_at {c : GCatalog} {i : Nat} (h : i < c.fTables.length) : tabQ c i = tabOk c i c.fTables[i] := by unfold tabQ; rw [List.getElem?_eq_getElem h]
theorem lastT_succ {c : GCatalog} {i : Nat} (h : i < c.fTables.length) : lastT c (i + 1) = c.fTables[i].fID := by show (match c.fTables[i]? with | some t => t.fID | none => 0) = _; rw [List.getElem?_eq_getElem h]
def lastX (c : GCatalog) : Nat → Int
  | 0 => 0
  | j + 1 => match c.fIndexes[j]? with
    | some t => t.fID
    | none => 0
def idxOk (c : GCatalog) (i : Nat) (x : GIndex) : Bool := decide (lastX c i < x.fID) && (decide (x.fID < c.fNext) && (!(tabOf c x.fID).2 && (indexB c x && decide (findB (fun o => decide (o.fName = x.fName)) c.fIndexes = (i : Int)))))
def idxQ (c : GCatalog) (i : Nat) : Bool := match c.fIndexes[i]? with
  | some x => idxOk c i x
  | none => true
theorem idxQ_at {c : GCatalog} {i : Nat} (h : i < c.fIndexes.length) : idxQ c i = idxOk c i c.fIndexes[i] := by unfold idxQ; rw [List.getElem?_eq_getElem h]
theorem lastX_succ {c : GCatalog} {i : Nat} (h : i < c.fIndexes.length) : lastX c (i + 1) = c.fIndexes[i].fID := by show (match c.fIndexes[i]? with | some t => t.fID | none => 0) = _; rw [List.getElem?_eq_getElem h]
def headB (c : GCatalog) : Bool := decide (0 ≤ c.fVersion ∧ 1 ≤ c.fNext ∧ c.fNext ≤ 1073741824 ∧ c.fTables.length ≤ 6 ∧ c.fIndexes.length ≤ 10)
def rightB (c : GCatalog) : Bool := headB c && (allB c.fTables.length (tabQ c) && allB c.fIndexes.length (idxQ c))
section
attribute [local go_sem ↓] ldz_Table stz_Table ldz_Catalog ldz_Index stz_Index
set_option maxRecDepth 100000 in
set_option maxHeartbeats 8000000 in
theorem sRight_c {p : Nat → Prop} (c : GCatalog) (csc : List Value) (w : World) (hc : rGCatalog w p csc c) (hp : ∀ b, p b → b < w.heap.size) :
    Calls Try.prog 12 #[.agg csc.toArray] w fun e w' => e = .returned (.bool (rightB c)) ∧ Keep Nix w w' := by
  have gc := hc
  obtain ⟨aT, cT, aX, cX, rfl, -, -, hT, hX, -⟩ := rGCatalog_open hc
  have nT := (rList_len hT).2.2
  have mT : c.fTables.length ≤ 140737488351232 := by have := far_len; omega
  have nX := (rList_len hX).2.2
  have mX : c.fIndexes.length ≤ 140737488351232 := by have := far_len; omega
  have row0 : RowIs (w.alloc (.cells #[.int .i64 c.fVersion, .int .i64 c.fNext, .slice aT c.fTables.length cT, .slice aX c.fIndexes.length cX] 25)) w.heap.size 25 [.int .i64 c.fVersion, .int .i64 c.fNext, .slice aT c.fTables.length cT, .slice aX c.fIndexes.length cX] := RowIs.alloc w _ _
  have kk : Keep Nix w (w.alloc (.cells #[.int .i64 c.fVersion, .int .i64 c.fNext, .slice aT c.fTables.length cT, .slice aX c.fIndexes.length cX] 25)) := (Keep.refl Nix w).alloc _
  clear nT nX hc
  have x0 := row0.cell 0
  have x1 := row0.cell 1
  have x2 := row0.cell 2
  have x3 := row0.cell 3
  simp only [List.getElem?_cons_succ, List.getElem?_cons_zero] at x0 x1 x2 x3
  by_cases hh : headB c = false
  · have HR : Hid (rightB c = false) := by show _ = _; unfold rightB; rw [hh]; rfl
    have hd := of_decide_eq_false hh
    clear hh
    go_enter Try.func12, Try.ntmps12
    rcases Int.lt_or_le c.fVersion 0 with h1 | h1
    · go_wp2_with fail
      go_ret
      exact ⟨ret_bool HR.out.symm, kk⟩
    rcases Int.lt_or_le c.fNext 1 with h2 | h2
    · go_wp2_with fail
      go_ret
      exact ⟨ret_bool HR.out.symm, kk⟩
    rcases Int.lt_or_le 1073741824 c.fNext with h3 | h3
    · go_wp2_with fail
      go_ret
      exact ⟨ret_bool HR.out.symm, kk⟩
    rcases Int.lt_or_le 6 (c.fTables.length : Int) with h4 | h4
    · go_wp2_with fail
      go_ret
      exact ⟨ret_bool HR.out.symm, kk⟩
    have h5 : (10 : Int) < (c.fIndexes.length : Int) := by omega
    go_wp2_with fail
    go_ret
    exact ⟨ret_bool HR.out.symm, kk⟩
  have hh' : headB c = true := by simpa using hh
  clear hh
  have hd := of_decide_eq_true hh'
  have HH := Lib.hid hh'
  clear hh'
  obtain ⟨g1, g2, g3, g4, g5⟩ := hd
  have fin : allB c.fTables.length (tabQ c) = false → rightB c = false := fun h => by unfold rightB; rw [h]; simp
  have FIN := Lib.hid fin
  have fin2 : allB c.fIndexes.length (idxQ c) = false → rightB c = false := fun h => by unfold rightB; rw [h]; simp
  have FIN2 := Lib.hid fin2
  clear fin fin2
  go_enter Try.func12, Try.ntmps12
  go_wp2_with fail
  clear x0 x1 x2 x3
  go_loopw [3, 40] (fun l i wr => ∃ k : Nat, k ≤ c.fTables.length ∧ i = .int .i64 k ∧ l = .int .i64 (lastT c k) ∧ Hid (∀ j, j < k → tabQ c j = true) ∧ RowIs wr w.heap.size 25 [.int .i64 c.fVersion, .int .i64 c.fNext, .slice aT c.fTables.length cT, .slice aX c.fIndexes.length cX] ∧ Keep Nix w wr) (fun _ i _ => c.fTables.length - (intOf i).toNat)
  case atStart => exact ⟨0, by omega, rfl, rfl, fun j hj => by omega, row0, kk⟩
  case round =>
    clear row0 kk
    obtain ⟨k, hk, rfl, rfl, hg, row0, kk⟩ := hrel
    by_cases hlt : k < c.fTables.length
    · have hi0 : (0 : Int) ≤ (k : Int) := by omega
      have hi1 : (k : Int) < (c.fTables.length : Int) := by omega
      obtain ⟨b, o, cc, cs, e1, -, hb, r, hcl⟩ := rList_at rGTable_lawful (by decide) ((rList_lawful rGTable_lawful).nix hT kk) k hlt
      simp only [List.cons.injEq, Value.slice.injEq, and_true] at e1
      obtain ⟨rfl, -, -⟩ := e1
      have HQ := Lib.hid (tabQ_at hlt)
      have HL := Lib.hid (lastT_succ hlt)
      have HB : Hid (tabQ c k = false → allB c.fTables.length (tabQ c) = false) := fun h => allB_bad k hlt h
      generalize c.fTables[k] = x at r HQ HL
      have rx := r
      obtain ⟨aC, cC, aK, cK, rfl, hx0, hx1, -, -, -⟩ := rGTable_open r
      have ld := Whole.at (P := Try.prog) S_Table rfl hcl
      unfold Whole at ld
      have hst := store_run (P := Try.prog) (cs := [.int .i64 x.fID, .string (strB x.fName), .slice aC x.fColumns.length cC, .slice aK x.fKey.length cK]) S_Table (RowIs.alloc wr #[.int .i64 0, .string { data := #[] }, .slice none 0 0, .slice none 0 0] 33) rfl rfl rfl
      have rowC := (RowIs.alloc wr #[.int .i64 0, .string { data := #[] }, .slice none 0 0, .slice none 0 0] 33).setRow [.int .i64 x.fID, .string (strB x.fName), .slice aC x.fColumns.length cC, .slice aK x.fKey.length cK]
      have kV : Keep Nix wr ((wr.alloc (.cells #[.int .i64 0, .string { data := #[] }, .slice none 0 0, .slice none 0 0] 33)).setRow wr.heap.size [.int .i64 x.fID, .string (strB x.fName), .slice aC x.fColumns.length cC, .slice aK x.fKey.length cK].toArray) := ((Keep.refl Nix wr).alloc (.cells #[.int .i64 0, .string { data := #[] }, .slice none 0 0, .slice none 0 0] 33)).setRow (fun h => absurd h (Nat.lt_irrefl _)) _
      replace row0 := row0.keep kV id
      replace kk := kk.trans kV
      replace rx := rGTable_lawful.nix rx kV
      clear kV r hcl
      have y0 := rowC.cell 0
      have x1 := row0.cell 1
      have x2 := row0.cell 2
      simp only [List.getElem?_cons_succ, List.getElem?_cons_zero] at y0 x1 x2
      have ld2 := Whole.row (P := Try.prog) S_Table rfl rowC
      unfold Whole at ld2
      replace HQ : Hid (tabQ c k = (decide (lastT c k < x.fID) && (decide (x.fID < c.fNext) && (tableB x && decide (findB (fun o => decide (o.fName = x.fName)) c.fTables = (k : Int)))))) := HQ
      generalize lastT c k = la at HQ ⊢
      rcases Int.lt_or_le la x.fID with t1 | t1
      rotate_left
      · have HF := Lib.hid (FIN.out (HB.out (by rw [HQ.out]; rw [decide_eq_false (by omega)]; rfl)))
        go_wp2_with fail
        go_ret
        exact ⟨ret_bool HF.out.symm, kk⟩
      rcases Int.lt_or_le x.fID c.fNext with t2 | t2
      rotate_left
      · have HF := Lib.hid (FIN.out (HB.out (by rw [HQ.out]; rw [decide_eq_false (by omega : ¬ x.fID < c.fNext)]; simp)))
        go_wp2_with fail
        go_ret
        exact ⟨ret_bool HF.out.symm, kk⟩
      have HQ1 : Hid (tabQ c k = (tableB x && decide (findB (fun o => decide (o.fName = x.fName)) c.fTables = (k : Int)))) := by show _ = _; rw [HQ.out]; rw [decide_eq_true t1, decide_eq_true t2]; rfl
      clear HQ
      obtain ⟨bt, hbt⟩ : ∃ b, Hid (tableB x = b) := ⟨_, rfl⟩
      have HT := Lib.hid (srightTable_c x _ _ rx)
      rw [hbt.out] at HT HQ1
      cases bt with
      | false =>
        have HF := Lib.hid (FIN.out (HB.out (by rw [HQ1.out]; rfl)))
        go_wp2_with fail
        clear ld ld2 hst
        go_fit HT.out
        rintro e w2 ⟨rfl, k2⟩
        replace kk := kk.trans k2
        clear k2 y0 x1 x2
        go_wp2_with fail
        go_ret
        exact ⟨ret_bool HF.out.symm, kk⟩
      | true =>
      go_wp2_with fail
      clear ld ld2 hst
      go_fit HT.out
      rintro e w2 ⟨rfl, k2⟩
      replace kk := kk.trans k2
      replace row0 := row0.keep k2 id
      replace rowC := rowC.keep k2 id
      clear k2 y0 x1 x2 HT rx
      have y0 := rowC.cell 0
      have x2 := row0.cell 2
      simp only [List.getElem?_cons_succ, List.getElem?_cons_zero] at y0 x2
      have hF := Lib.hid (ifTable_c (p := p) (some ⟨b, o, none⟩) c.fTables.length cT c.fTables 42 (.pointer (some ⟨wr.heap.size, 0, none⟩)) (fun o => decide (o.fName = x.fName)) _
        ((rList_lawful rGTable_lawful).nix hT kk) Try.call42 (fun w' z cs' k' _ hz => f_Right1 z cs' wr.heap.size x.fName w' hz (Nat.lt_of_lt_of_le rowC.lt k'.size) ((rowC.keep k' id).cell 1)))
      obtain ⟨fi, hfi⟩ : ∃ f, Hid (findB (fun o => decide (o.fName = x.fName)) c.fTables = f) := ⟨_, rfl⟩
      rw [hfi.out] at hF HQ1
      go_wp2_with fail
      go_fit hF.out
      rintro e w3 ⟨rfl, k2⟩
      replace row0 := row0.keep k2 id
      replace kk := kk.trans k2
      replace rowC := rowC.keep k2 id
      clear k2 y0 x2 hF
      have y0 := rowC.cell 0
      simp only [List.getElem?_cons_zero] at y0
      rcases test_eq fi (k : Int) with ⟨t, e⟩ | ⟨t, e⟩
      · have t' : (fi != (k : Int)) = false := by simp [e.out]
        go_wp2_with fail
        go_roundw
        case rel => exact ⟨k + 1, by omega, by go_num, by rw [HL.out], fun j hj => by
          rcases Nat.lt_succ_iff_lt_or_eq.1 hj with h | rfl
          · exact hg.out j h
          · rw [HQ1.out, e.out]; simp, row0, kk⟩
        case measure => simp [intOf]; omega
      · have t' : (fi != (k : Int)) = true := by simp [e]
        have E := Lib.hid e
        clear e
        go_wp2_with fail
        go_ret
        exact ⟨ret_bool (FIN.out (HB.out (by rw [HQ1.out]; exact decide_eq_false E.out))).symm, kk⟩
    · obtain rfl : k = c.fTables.length := by omega
      have HA : Hid (allB c.fTables.length (tabQ c) = true) := allB_good hg.out
      clear hg hlt hk
      have x3 := row0.cell 3
      simp only [List.getElem?_cons_succ, List.getElem?_cons_zero] at x3
      go_wp2_with fail
      clear x3
      go_loopw [3, 76] (fun l i wr => ∃ k : Nat, k ≤ c.fIndexes.length ∧ i = .int .i64 k ∧ l = .int .i64 (lastX c k) ∧ Hid (∀ j, j < k → idxQ c j = true) ∧ RowIs wr w.heap.size 25 [.int .i64 c.fVersion, .int .i64 c.fNext, .slice aT c.fTables.length cT, .slice aX c.fIndexes.length cX] ∧ Keep Nix w wr) (fun _ i _ => c.fIndexes.length - (intOf i).toNat)
      case atStart => exact ⟨0, by omega, rfl, rfl, fun j hj => by omega, row0, kk⟩
      case round =>
        clear row0 kk
        obtain ⟨k, hk, rfl, rfl, hg, row0, kk⟩ := hrel
        by_cases hlt : k < c.fIndexes.length
        · have hi0 : (0 : Int) ≤ (k : Int) := by omega
          have hi1 : (k : Int) < (c.fIndexes.length : Int) := by omega
          obtain ⟨b, o, cc, cs, e1, -, hb, r, hcl⟩ := rList_at rGIndex_lawful (by decide) ((rList_lawful rGIndex_lawful).nix hX kk) k hlt
          simp only [List.cons.injEq, Value.slice.injEq, and_true] at e1
          obtain ⟨rfl, -, -⟩ := e1
          have HQ := Lib.hid (idxQ_at hlt)
          have HL := Lib.hid (lastX_succ hlt)
          have HB : Hid (idxQ c k = false → allB c.fIndexes.length (idxQ c) = false) := fun h => allB_bad k hlt h
          generalize c.fIndexes[k] = x at r HQ HL
          replace HQ : Hid (idxQ c k = (decide (lastX c k < x.fID) && (decide (x.fID < c.fNext) && (!(tabOf c x.fID).2 && (indexB c x && decide (findB (fun o => decide (o.fName = x.fName)) c.fIndexes = (k : Int))))))) := HQ
          have rx := r
          obtain ⟨aI, cI, rfl, hx0, -, hx1, -, -, -⟩ := rGIndex_open r
          have ld := Whole.at (P := Try.prog) S_Index rfl hcl
          unfold Whole at ld
          have hst := store_run (P := Try.prog) (cs := [.int .i64 x.fID, .int .i64 x.fTable, .string (strB x.fName), .slice aI x.fColumns.length cI, .bool x.fUnique, .int .i64 x.fState, .bool x.fBad]) S_Index (RowIs.alloc wr #[.int .i64 0, .int .i64 0, .string { data := #[] }, .slice none 0 0, .bool false, .int .i64 0, .bool false] 37) rfl rfl rfl
          have rowC := (RowIs.alloc wr #[.int .i64 0, .int .i64 0, .string { data := #[] }, .slice none 0 0, .bool false, .int .i64 0, .bool false] 37).setRow [.int .i64 x.fID, .int .i64 x.fTable, .string (strB x.fName), .slice aI x.fColumns.length cI, .bool x.fUnique, .int .i64 x.fState, .bool x.fBad]
          have kV : Keep Nix wr ((wr.alloc (.cells #[.int .i64 0, .int .i64 0, .string { data := #[] }, .slice none 0 0, .bool false, .int .i64 0, .bool false] 37)).setRow wr.heap.size [.int .i64 x.fID, .int .i64 x.fTable, .string (strB x.fName), .slice aI x.fColumns.length cI, .bool x.fUnique, .int .i64 x.fState, .bool x.fBad].toArray) := ((Keep.refl Nix wr).alloc (.cells #[.int .i64 0, .int .i64 0, .string { data := #[] }, .slice none 0 0, .bool false, .int .i64 0, .bool false] 37)).setRow (fun h => absurd h (Nat.lt_irrefl _)) _
          replace row0 := row0.keep kV id
          replace kk := kk.trans kV
          replace rx := rGIndex_lawful.nix rx kV
          clear kV r hcl
          have ld0 := Whole.row (P := Try.prog) S_Catalog rfl row0
          unfold Whole at ld0
          have y0 := rowC.cell 0
          simp only [List.getElem?_cons_zero] at y0
          obtain ⟨tb, htb⟩ : ∃ y, Hid (tabOf c x.fID = y) := ⟨_, rfl⟩
          have HBY := Lib.hid (byID_c c _ x.fID _ (rGCatalog_lawful.nix gc kk) (fun b hb => Nat.lt_of_lt_of_le (hp b hb) kk.size))
          change Hid (Calls _ _ _ _ (FoundIn rGTable p _ (tabOf c x.fID))) at HBY
          rw [htb.out] at HBY HQ
          obtain ⟨tt, is⟩ := tb
          generalize lastX c k = la at HQ ⊢
          go_wp2_with fail
          clear ld0 ld hst y0
          go_fit HBY.out
          rintro e w2 ⟨cst, rfl, hT2, k2⟩
          replace hT2 : rGTable w2 p cst tt := hT2
          replace row0 := row0.keep k2 id
          replace kk := kk.trans k2
          replace rowC := rowC.keep k2 id
          have hl4 := rGTable_lawful.len hT2
          have hst := store_run (P := Try.prog) (cs := cst) S_Table (RowIs.alloc w2 #[.int .i64 0, .string { data := #[] }, .slice none 0 0, .slice none 0 0] 33) rfl hl4 (rGTable_ones hT2)
          have kV : Keep Nix w2 ((w2.alloc (.cells #[.int .i64 0, .string { data := #[] }, .slice none 0 0, .slice none 0 0] 33)).setRow w2.heap.size cst.toArray) := ((Keep.refl Nix w2).alloc (.cells #[.int .i64 0, .string { data := #[] }, .slice none 0 0, .slice none 0 0] 33)).setRow (fun h => absurd h (Nat.lt_irrefl _)) _
          replace row0 := row0.keep kV id
          replace kk := kk.trans kV
          replace rowC := rowC.keep kV id
          replace rx := rGIndex_lawful.nix rx (k2.trans kV)
          clear k2 kV hl4 hT2 HBY
          have ld0 := Whole.row (P := Try.prog) S_Catalog rfl row0
          unfold Whole at ld0
          have ld1 := Whole.row (P := Try.prog) S_Index rfl rowC
          unfold Whole at ld1
          have y0 := rowC.cell 0
          have x1 := row0.cell 1
          simp only [List.getElem?_cons_succ, List.getElem?_cons_zero] at y0 x1

          rcases Int.lt_or_le la x.fID with t1 | t1
          rotate_left
          · have HF := Lib.hid (FIN2.out (HB.out (by rw [HQ.out]; rw [decide_eq_false (by omega)]; rfl)))
            go_wp2_with fail
            go_ret
            exact ⟨ret_bool HF.out.symm, kk⟩
          rcases Int.lt_or_le x.fID c.fNext with t2 | t2
          rotate_left
          · have HF := Lib.hid (FIN2.out (HB.out (by rw [HQ.out]; rw [decide_eq_false (by omega : ¬ x.fID < c.fNext)]; simp)))
            go_wp2_with fail
            go_ret
            exact ⟨ret_bool HF.out.symm, kk⟩
          have HQ1 : Hid (idxQ c k = (!is && (indexB c x && decide (findB (fun o => decide (o.fName = x.fName)) c.fIndexes = (k : Int))))) := by show _ = _; rw [HQ.out]; rw [decide_eq_true t1, decide_eq_true t2]; rfl
          clear HQ
          cases is with
          | true =>
            have HF := Lib.hid (FIN2.out (HB.out (by rw [HQ1.out]; rfl)))
            go_wp2_with fail
            go_ret
            exact ⟨ret_bool HF.out.symm, kk⟩
          | false =>
          obtain ⟨bt, hbt⟩ : ∃ b, Hid (indexB c x = b) := ⟨_, rfl⟩
          have HT := Lib.hid (srightIndex_c c _ x _ _ (rGCatalog_lawful.nix gc kk) rx (fun b hb => Nat.lt_of_lt_of_le (hp b hb) kk.size))
          rw [hbt.out] at HT HQ1
          cases bt with
          | false =>
            have HF := Lib.hid (FIN2.out (HB.out (by rw [HQ1.out]; rfl)))
            go_wp2_with fail
            clear ld0 ld1 hst
            go_fit HT.out
            rintro e w3 ⟨rfl, k2⟩
            replace kk := kk.trans k2
            clear k2 y0 x1
            go_wp2_with fail
            go_ret
            exact ⟨ret_bool HF.out.symm, kk⟩
          | true =>
          go_wp2_with fail
          clear ld0 ld1 hst
          go_fit HT.out
          rintro e w3 ⟨rfl, k2⟩
          replace kk := kk.trans k2
          replace row0 := row0.keep k2 id
          replace rowC := rowC.keep k2 id
          clear k2 y0 x1 HT rx
          have y0 := rowC.cell 0
          have x3 := row0.cell 3
          simp only [List.getElem?_cons_succ, List.getElem?_cons_zero] at y0 x3
          have hF := Lib.hid (ifIndex_c (p := p) (some ⟨b, o, none⟩) c.fIndexes.length cX c.fIndexes 45 (.pointer (some ⟨wr.heap.size, 0, none⟩)) (fun o => decide (o.fName = x.fName)) _
            ((rList_lawful rGIndex_lawful).nix hX kk) Try.call45 (fun w' z cs' k' _ hz => f_Right2 z cs' wr.heap.size x.fName w' hz (Nat.lt_of_lt_of_le rowC.lt k'.size) ((rowC.keep k' id).cell 2)))
          obtain ⟨fi, hfi⟩ : ∃ f, Hid (findB (fun o => decide (o.fName = x.fName)) c.fIndexes = f) := ⟨_, rfl⟩
          rw [hfi.out] at hF HQ1
          go_wp2_with fail
          go_fit hF.out
          rintro e w4 ⟨rfl, k2⟩
          replace row0 := row0.keep k2 id
          replace kk := kk.trans k2
          replace rowC := rowC.keep k2 id
          clear k2 y0 x3 hF
          have y0 := rowC.cell 0
          simp only [List.getElem?_cons_zero] at y0
          rcases test_eq fi (k : Int) with ⟨t, e⟩ | ⟨t, e⟩
          · have t' : (fi != (k : Int)) = false := by simp [e.out]
            go_wp2_with fail
            go_roundw
            case rel => exact ⟨k + 1, by omega, by go_num, by rw [HL.out], fun j hj => by
              rcases Nat.lt_succ_iff_lt_or_eq.1 hj with h | rfl
              · exact hg.out j h
              · rw [HQ1.out, e.out]; simp, row0, kk⟩
            case measure => simp [intOf]; omega
          · have t' : (fi != (k : Int)) = true := by simp [e]
            have E := Lib.hid e
            clear e
            go_wp2_with fail
            go_ret
            exact ⟨ret_bool (FIN2.out (HB.out (by rw [HQ1.out]; simp [E.out]))).symm, kk⟩
        · obtain rfl : k = c.fIndexes.length := by omega
          have HA2 : Hid (allB c.fIndexes.length (idxQ c) = true) := allB_good hg.out
          clear hg
          go_wp2_with fail
          go_ret
          exact ⟨ret_bool (by unfold rightB; rw [HH.out, HA.out, HA2.out]; rfl), kk⟩
end
end Go.Proofs.Ytfogbbnfedcldaa
