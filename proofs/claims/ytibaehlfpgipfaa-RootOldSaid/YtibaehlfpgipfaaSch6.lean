/- SCHEMA: which tables are right. -/
import Derived.Test.YtibaehlfpgipfaaSch5
namespace Go.Proofs.Ytibaehlfpgipfaa
open Go.RowKit

/-! ### plainly -/
def allB (n : Nat) (Q : Nat → Bool) : Bool := decide (∀ j, j < n → Q j = true)
theorem allB_bad {n : Nat} {Q : Nat → Bool} (k : Nat) (h : k < n) (hq : Q k = false) : allB n Q = false := by
  unfold allB; rw [decide_eq_false_iff_not]; intro ha; rw [ha k h] at hq; cases hq
theorem allB_good {n : Nat} {Q : Nat → Bool} (h : ∀ j, j < n → Q j = true) : allB n Q = true := decide_eq_true h
def colOk (C : List GColumn) (i : Nat) (c : GColumn) : Bool := nameB c.fName && (decide (c.fKind = 1 ∨ c.fKind = 2) && decide (findB (fun o => decide (o.fName = c.fName)) C = (i : Int)))
def colQ (C : List GColumn) (i : Nat) : Bool := match C[i]? with
  | some c => colOk C i c
  | none => true
theorem colQ_at {C : List GColumn} {i : Nat} (h : i < C.length) : colQ C i = colOk C i C[i] := by unfold colQ; rw [List.getElem?_eq_getElem h]
def nullAt (C : List GColumn) (k : Int) : Bool := match C[k.toNat]? with
  | some c => c.fNull
  | none => false
theorem nullAt_at {C : List GColumn} {k : Int} (h0 : 0 ≤ k) (h1 : k < C.length) : nullAt C k = (C[k.toNat]'(by omega)).fNull := by unfold nullAt; rw [List.getElem?_eq_getElem (by omega)]
def tableB (t : GTable) : Bool := nameB t.fName && (decide (1 ≤ t.fColumns.length ∧ t.fColumns.length ≤ 6) && (placesB t.fColumns.length t.fKey && (allB t.fColumns.length (colQ t.fColumns) && !(t.fKey.any (nullAt t.fColumns)))))

/-! ### the program's -/
section
attribute [local go_sem ↓] ldz_Column stz_Column
set_option maxRecDepth 100000 in
set_option maxHeartbeats 8000000 in
theorem srightTable_c {p : Nat → Prop} (t : GTable) (cs : List Value) (w : World) (ht : rGTable w p cs t) : Calls Try.prog 34 #[.agg cs.toArray] w fun e w' => e = .returned (.bool (tableB t)) ∧ Keep Nix w w' := by
  obtain ⟨aC, cC, aK, cK, rfl, -, hn, hC, hK, -⟩ := rGTable_open ht
  have kk : Keep Nix w (w.alloc (.cells #[.int .i64 t.fID, .string (strB t.fName), .slice aC t.fColumns.length cC, .slice aK t.fKey.length cK] 49)) := (Keep.refl Nix w).alloc _
  have row0 : RowIs (w.alloc (.cells #[.int .i64 t.fID, .string (strB t.fName), .slice aC t.fColumns.length cC, .slice aK t.fKey.length cK] 49)) w.heap.size 49 [.int .i64 t.fID, .string (strB t.fName), .slice aC t.fColumns.length cC, .slice aK t.fKey.length cK] := RowIs.alloc w _ _
  clear ht
  have hnC := (rList_len hC).2.2
  have hmC : t.fColumns.length ≤ 140737488351232 := by have := far_len; omega
  clear hnC
  cases h1 : nameB t.fName with
  | false =>
    have HR : Hid (tableB t = false) := by show _ = _; unfold tableB; rw [h1]; rfl
    have HC := Lib.hid (fun w' => named_s t.fName w' hn)
    rw [h1] at HC
    clear h1
    go_enter Try.func34, Try.ntmps34
    go_wp2_with fail
    go_fit (HC.out _)
    rintro e w1 ⟨rfl, rfl⟩
    go_wp2_with fail
    go_ret
    exact ⟨ret_bool HR.out.symm, kk⟩
  | true =>
  have HC := Lib.hid (fun w' => named_s t.fName w' hn)
  rw [h1] at HC
  have HT := Lib.hid h1
  clear h1
  rcases Nat.lt_or_ge t.fColumns.length 1 with h2 | h2
  · have HR : Hid (tableB t = false) := by show _ = _; unfold tableB; rw [decide_eq_false (by omega : ¬ (1 ≤ t.fColumns.length ∧ t.fColumns.length ≤ 6))]; simp
    go_enter Try.func34, Try.ntmps34
    go_wp2_with fail
    go_fit (HC.out _)
    rintro e w1 ⟨rfl, rfl⟩
    go_wp2_with fail
    go_ret
    exact ⟨ret_bool HR.out.symm, kk⟩
  rcases Nat.lt_or_ge 6 t.fColumns.length with h3 | h3
  · have HR : Hid (tableB t = false) := by show _ = _; unfold tableB; rw [decide_eq_false (by omega : ¬ (1 ≤ t.fColumns.length ∧ t.fColumns.length ≤ 6))]; simp
    go_enter Try.func34, Try.ntmps34
    go_wp2_with fail
    go_fit (HC.out _)
    rintro e w1 ⟨rfl, rfl⟩
    go_wp2_with fail
    go_ret
    exact ⟨ret_bool HR.out.symm, kk⟩
  have HL := Lib.hid (decide_eq_true (by omega : 1 ≤ t.fColumns.length ∧ t.fColumns.length ≤ 6))
  have hP := splaces_c aK t.fKey.length cK t.fKey t.fColumns.length _ ((rList_lawful (rInt_lawful _)).nix hK kk)
  cases h4 : placesB t.fColumns.length t.fKey with
  | false =>
    have HR : Hid (tableB t = false) := by show _ = _; unfold tableB; rw [h4]; simp
    rw [h4] at hP
    have HP := Lib.hid hP
    clear h4 hP
    go_enter Try.func34, Try.ntmps34
    go_wp2_with fail
    go_fit (HC.out _)
    rintro e w1 ⟨rfl, rfl⟩
    go_wp2_with fail
    go_fit HP.out
    rintro e w1 ⟨rfl, k1⟩
    go_wp2_with fail
    go_ret
    exact ⟨ret_bool HR.out.symm, kk.trans k1⟩
  | true =>
  rw [h4] at hP
  have HP := Lib.hid hP
  have H4 := Lib.hid h4
  clear h4 hP
  go_enter Try.func34, Try.ntmps34
  go_wp2_with fail
  go_fit (HC.out _)
  rintro e w1 ⟨rfl, rfl⟩
  go_wp2_with fail
  go_fit HP.out
  clear HP HC
  rintro e w1 ⟨rfl, k1⟩
  replace row0 := row0.keep k1 id
  replace kk := kk.trans k1
  clear k1
  have fin : allB t.fColumns.length (colQ t.fColumns) = false → tableB t = false := fun h => by unfold tableB; rw [h]; simp
  have FIN := Lib.hid fin
  clear fin
  have x2 := row0.cell 2
  simp only [List.getElem?_cons_succ, List.getElem?_cons_zero] at x2
  go_wp2_with fail
  clear x2
  go_loopw [34] (fun i wr => ∃ k : Nat, k ≤ t.fColumns.length ∧ i = .int .i64 k ∧ Hid (∀ j, j < k → colQ t.fColumns j = true) ∧ RowIs wr w.heap.size 49 [.int .i64 t.fID, .string (strB t.fName), .slice aC t.fColumns.length cC, .slice aK t.fKey.length cK] ∧ Keep Nix w wr) (fun i _ => t.fColumns.length - (intOf i).toNat)
  case atStart => exact ⟨0, by omega, rfl, fun j hj => by omega, row0, kk⟩
  case round =>
    clear row0 kk
    obtain ⟨k, hk, rfl, hg, row0, kk⟩ := hrel
    by_cases hlt : k < t.fColumns.length
    · have hi0 : (0 : Int) ≤ (k : Int) := by omega
      have hi1 : (k : Int) < (t.fColumns.length : Int) := by omega
      obtain ⟨b, o, c, cs, e1, -, hb, r, hc⟩ := rList_at rGColumn_lawful (by decide) ((rList_lawful rGColumn_lawful).nix hC kk) k hlt
      simp only [List.cons.injEq, Value.slice.injEq, and_true] at e1
      obtain ⟨rfl, -, -⟩ := e1
      have HQ := Lib.hid (colQ_at hlt)
      have HB : Hid (colQ t.fColumns k = false → allB t.fColumns.length (colQ t.fColumns) = false) := fun h => allB_bad k hlt h
      generalize t.fColumns[k] = x at r HQ
      obtain ⟨rfl, hx0, hx1, -⟩ := rGColumn_open r
      have ld := Whole.at (P := Try.prog) S_Column rfl hc
      unfold Whole at ld
      have hst := store_run (P := Try.prog) (cs := [.string (strB x.fName), .int .i64 x.fKind, .bool x.fNull]) S_Column (RowIs.alloc wr #[.string { data := #[] }, .int .i64 0, .bool false] 55) rfl rfl rfl
      have rowC := (RowIs.alloc wr #[.string { data := #[] }, .int .i64 0, .bool false] 55).setRow [.string (strB x.fName), .int .i64 x.fKind, .bool x.fNull]
      have kV : Keep Nix wr ((wr.alloc (.cells #[.string { data := #[] }, .int .i64 0, .bool false] 55)).setRow wr.heap.size [.string (strB x.fName), .int .i64 x.fKind, .bool x.fNull].toArray) := ((Keep.refl Nix wr).alloc (.cells #[.string { data := #[] }, .int .i64 0, .bool false] 55)).setRow (fun h => absurd h (Nat.lt_irrefl _)) _
      replace row0 := row0.keep kV id
      replace kk := kk.trans kV
      clear kV r hc
      have y0 := rowC.cell 0
      simp only [List.getElem?_cons_zero] at y0
      go_wp2_with fail
      clear ld hst y0
      go_fit (named_s x.fName _ hx0)
      rintro e w1 ⟨rfl, rfl⟩
      obtain ⟨bn, hbn⟩ : ∃ b, Hid (nameB x.fName = b) := ⟨_, rfl⟩
      rw [hbn.out]
      cases bn with
      | false =>
        go_wp2_with fail
        go_ret
        exact ⟨ret_bool (FIN.out (HB.out (by rw [HQ.out]; unfold colOk; rw [hbn.out]; rfl))).symm, kk⟩
      | true =>
      have y1 := rowC.cell 1
      simp only [List.getElem?_cons_succ, List.getElem?_cons_zero] at y1
      by_cases hkd : x.fKind = 1 ∨ x.fKind = 2
      rotate_left
      · have t1 : (x.fKind != 1) = true := by simp; omega
        have t2 : (x.fKind != 2) = true := by simp; omega
        have HK := Lib.hid (decide_eq_false hkd)
        clear hkd
        go_wp2_with fail
        go_ret
        exact ⟨ret_bool (FIN.out (HB.out (by rw [HQ.out]; unfold colOk; rw [HK.out]; simp))).symm, kk⟩
      have HK := Lib.hid (decide_eq_true hkd)
      have x2 := row0.cell 2
      simp only [List.getElem?_cons_succ, List.getElem?_cons_zero] at x2
      have hF := Lib.hid (ifColumn_c (p := p) (some ⟨b, o, none⟩) t.fColumns.length cC t.fColumns 50 (.pointer (some ⟨wr.heap.size, 0, none⟩)) (fun o => decide (o.fName = x.fName)) _
        ((rList_lawful rGColumn_lawful).nix hC kk) Try.call50 (fun w' z cs' k' _ hz => f_rightTable1 z cs' wr.heap.size x.fName w' hz (Nat.lt_of_lt_of_le rowC.lt k'.size) ((rowC.keep k' id).cell 0)))
      obtain ⟨fi, hfi⟩ : ∃ f, Hid (findB (fun o => decide (o.fName = x.fName)) t.fColumns = f) := ⟨_, rfl⟩
      rw [hfi.out] at hF
      have HQ2 : Hid (colQ t.fColumns k = decide (fi = (k : Int))) := by show _ = _; rw [HQ.out]; unfold colOk; rw [hbn.out, HK.out, hfi.out]; rfl
      clear HQ HK
      have t3 : (x.fKind != 1) = false ∨ (x.fKind != 1) = true ∧ (x.fKind != 2) = false := by simp; omega
      clear hkd
      rcases t3 with t3 | ⟨t3, t4⟩
      all_goals
        go_wp2_with fail
        go_fit hF.out
        rintro e w2 ⟨rfl, k2⟩
        replace row0 := row0.keep k2 id
        replace kk := kk.trans k2
        clear k2 y1 x2 hF rowC
        rcases test_eq fi (k : Int) with ⟨t, e⟩ | ⟨t, e⟩
        · have t' : (fi != (k : Int)) = false := by simp [e.out]
          go_wp2_with fail
          go_roundw
          case rel => exact ⟨k + 1, by omega, by go_num, fun j hj => by
            rcases Nat.lt_succ_iff_lt_or_eq.1 hj with h | rfl
            · exact hg.out j h
            · rw [HQ2.out, e.out]; exact decide_eq_true rfl, row0, kk⟩
          case measure => simp [intOf]; omega
        · have t' : (fi != (k : Int)) = true := by simp [e]
          have E := Lib.hid e
          clear e
          go_wp2_with fail
          go_ret
          exact ⟨ret_bool (FIN.out (HB.out (by rw [HQ2.out]; exact decide_eq_false E.out))).symm, kk⟩
    · obtain rfl : k = t.fColumns.length := by omega
      have HA : Hid (allB t.fColumns.length (colQ t.fColumns) = true) := allB_good hg.out
      have x2 := row0.cell 2
      have x3 := row0.cell 3
      simp only [List.getElem?_cons_succ, List.getElem?_cons_zero] at x2 x3
      have hgood : ∀ z ∈ t.fKey, 0 ≤ z ∧ z < (t.fColumns.length : Int) := fun z hz => by
        have := (of_decide_eq_true H4.out).1.1 z hz; omega
      have hF := Lib.hid (cfint_c (p := p) aK t.fKey.length cK t.fKey 53 (.pointer (some ⟨w.heap.size, 0, none⟩)) (nullAt t.fColumns) wr ((rList_lawful (rInt_lawful _)).nix hK kk) Try.call53
        (fun w' z k' hz => by
          have h2 := hgood z hz
          have := f_rightTable2 (p := p) t.fColumns aC t.fColumns.length cC w.heap.size z w' ((rList_lawful rGColumn_lawful).nix hC (kk.trans k')) ((row0.keep k' id).cell 2) h2.1 h2.2
          rw [← nullAt_at h2.1 h2.2] at this
          exact this))
      have HR : Hid (tableB t = !(t.fKey.any (nullAt t.fColumns))) := by
        show _ = _
        unfold tableB
        rw [HT.out, HL.out, H4.out, HA.out]; rfl
      clear hgood HA HL H4 HT
      go_wp2_with fail
      go_fit hF.out
      rintro e w2 ⟨rfl, k2⟩
      replace kk := kk.trans k2
      clear k2 hF x2 x3
      go_wp2_with fail
      go_ret
      exact ⟨ret_bool HR.out.symm, kk⟩
end
end Go.Proofs.Ytibaehlfpgipfaa
