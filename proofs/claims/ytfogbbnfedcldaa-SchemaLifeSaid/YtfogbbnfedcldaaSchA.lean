/- SCHEMA: which tables are right, by the reference. Printed by gen22.py. -/
import Derived.Test.YtfogbbnfedcldaaSch9
namespace Go.Proofs.Ytfogbbnfedcldaa
open Go.RowKit

theorem findB_le {α : Type} {P : α → Bool} {l : List α} (k : Nat) (h : k < l.length) (hp : P l[k] = true) : findB P l ≤ (k : Int) := by
  rcases findB_cases P l with ⟨h1, h2⟩ | ⟨j, hj, h1, h2, h3⟩
  · rw [h1]; omega
  · rw [h1]
    have : ¬ k < j := fun hk => by rw [h3 k hk] at hp; cases hp
    omega
theorem findB_here {C : List GColumn} {i : Nat} (h : i < C.length) (hn : ∀ j (hj : j < i), (C[j]'(by omega)).fName ≠ C[i].fName) : findB (fun o => decide (o.fName = C[i].fName)) C = (i : Int) :=
  findB_at i h (fun j hj x hx => by rw [List.getElem?_eq_getElem (by omega)] at hx; cases hx; exact decide_eq_false (hn j hj)) (decide_eq_true rfl)
theorem findB_not {C : List GColumn} {i k : Nat} (h : i < C.length) (hk : k < i) (he : (C[k]'(by omega)).fName = C[i].fName) : findB (fun o => decide (o.fName = C[i].fName)) C ≠ (i : Int) := by
  have := findB_le (P := fun o : GColumn => decide (o.fName = C[i].fName)) k (by omega : k < C.length) (decide_eq_true he)
  omega
section
attribute [local go_sem ↓] ldz_Column stz_Column
set_option maxRecDepth 100000 in
set_option maxHeartbeats 8000000 in
theorem rTableRight_c {p : Nat → Prop} (t : GTable) (cs : List Value) (w : World) (ht : rGTable w p cs t) : Calls Try.prog 50 #[.agg cs.toArray] w fun e w' => e = .returned (.bool (tableB t)) ∧ Keep Nix w w' := by
  obtain ⟨aC, cC, aK, cK, rfl, -, hn, hC, hK, -⟩ := rGTable_open ht
  have kk : Keep Nix w (w.alloc (.cells #[.int .i64 t.fID, .string (strB t.fName), .slice aC t.fColumns.length cC, .slice aK t.fKey.length cK] 33)) := (Keep.refl Nix w).alloc _
  have row0 : RowIs (w.alloc (.cells #[.int .i64 t.fID, .string (strB t.fName), .slice aC t.fColumns.length cC, .slice aK t.fKey.length cK] 33)) w.heap.size 33 [.int .i64 t.fID, .string (strB t.fName), .slice aC t.fColumns.length cC, .slice aK t.fKey.length cK] := RowIs.alloc w _ _
  clear ht
  have hnC := (rList_len hC).2.2
  have hmC : t.fColumns.length ≤ 140737488351232 := by have := far_len; omega
  clear hnC
  cases h1 : nameB t.fName with
  | false =>
    have HR : Hid (tableB t = false) := by show _ = _; unfold tableB; rw [h1]; rfl
    have HC := Lib.hid (fun w' => Name_s t.fName w' hn)
    rw [h1] at HC
    clear h1
    go_enter Try.func50, Try.ntmps50
    go_wp2_with fail
    go_fit (HC.out _)
    rintro e w1 ⟨rfl, rfl⟩
    go_wp2_with fail
    go_ret
    exact ⟨ret_bool HR.out.symm, kk⟩
  | true =>
  have HC := Lib.hid (fun w' => Name_s t.fName w' hn)
  rw [h1] at HC
  have HT := Lib.hid h1
  clear h1
  rcases Nat.lt_or_ge t.fColumns.length 1 with h2 | h2
  · have HR : Hid (tableB t = false) := by show _ = _; unfold tableB; rw [decide_eq_false (by omega : ¬ (1 ≤ t.fColumns.length ∧ t.fColumns.length ≤ 6))]; simp
    go_enter Try.func50, Try.ntmps50
    go_wp2_with fail
    go_fit (HC.out _)
    rintro e w1 ⟨rfl, rfl⟩
    go_wp2_with fail
    go_ret
    exact ⟨ret_bool HR.out.symm, kk⟩
  rcases Nat.lt_or_ge 6 t.fColumns.length with h3 | h3
  · have HR : Hid (tableB t = false) := by show _ = _; unfold tableB; rw [decide_eq_false (by omega : ¬ (1 ≤ t.fColumns.length ∧ t.fColumns.length ≤ 6))]; simp
    go_enter Try.func50, Try.ntmps50
    go_wp2_with fail
    go_fit (HC.out _)
    rintro e w1 ⟨rfl, rfl⟩
    go_wp2_with fail
    go_ret
    exact ⟨ret_bool HR.out.symm, kk⟩
  have HL := Lib.hid (decide_eq_true (by omega : 1 ≤ t.fColumns.length ∧ t.fColumns.length ≤ 6))
  have hP := rplaces_c aK t.fKey.length cK t.fKey t.fColumns.length _ ((rList_lawful (rInt_lawful _)).nix hK kk)
  rw [← places_eq (by omega) (by omega)] at hP
  cases h4 : placesB t.fColumns.length t.fKey with
  | false =>
    have HR : Hid (tableB t = false) := by show _ = _; unfold tableB; rw [h4]; simp
    rw [h4] at hP
    have HP := Lib.hid hP
    clear h4 hP
    go_enter Try.func50, Try.ntmps50
    go_wp2_with fail
    go_fit (HC.out _)
    rintro e w1 ⟨rfl, rfl⟩
    go_wp2_with fail
    go_fit HP.out
    rintro e w1 ⟨rfl, k1⟩
    go_wp2_with fail
    go_ret
    exact ⟨ret_bool HR.out.symm, kk.trans k1⟩
  | true =>
  rw [h4] at hP
  have HP := Lib.hid hP
  have H4 := Lib.hid h4
  clear h4 hP
  go_enter Try.func50, Try.ntmps50
  go_wp2_with fail
  go_fit (HC.out _)
  rintro e w1 ⟨rfl, rfl⟩
  go_wp2_with fail
  go_fit HP.out
  clear HP HC
  rintro e w1 ⟨rfl, k1⟩
  replace row0 := row0.keep k1 id
  replace kk := kk.trans k1
  clear k1
  have fin : allB t.fColumns.length (colQ t.fColumns) = false → tableB t = false := fun h => by unfold tableB; rw [h]; simp
  have FIN := Lib.hid fin
  clear fin
  go_wp2_with fail
  go_loopw [3] (fun i wr => ∃ k : Nat, k ≤ t.fColumns.length ∧ i = .int .i64 k ∧ Hid (∀ j, j < k → colQ t.fColumns j = true) ∧ RowIs wr w.heap.size 33 [.int .i64 t.fID, .string (strB t.fName), .slice aC t.fColumns.length cC, .slice aK t.fKey.length cK] ∧ Keep Nix w wr) (fun i _ => t.fColumns.length - (intOf i).toNat)
  case atStart => exact ⟨0, by omega, rfl, fun j hj => by omega, row0, kk⟩
  case round =>
    clear row0 kk
    obtain ⟨k, hk, rfl, hg, row0, kk⟩ := hrel
    have x2 := row0.cell 2
    simp only [List.getElem?_cons_succ, List.getElem?_cons_zero] at x2
    by_cases hlt : k < t.fColumns.length
    · have hi0 : (0 : Int) ≤ (k : Int) := by omega
      have hi1 : (k : Int) < (t.fColumns.length : Int) := by omega
      obtain ⟨b, o, c, cs, e1, -, hb, r, hc⟩ := rList_at rGColumn_lawful (by decide) ((rList_lawful rGColumn_lawful).nix hC kk) k hlt
      simp only [List.cons.injEq, Value.slice.injEq, and_true] at e1
      obtain ⟨rfl, -, -⟩ := e1
      have HQ := Lib.hid (colQ_at hlt)
      have HB : Hid (colQ t.fColumns k = false → allB t.fColumns.length (colQ t.fColumns) = false) := fun h => allB_bad k hlt h
      have HN := Lib.hid (findB_here hlt)
      have HM : Hid (∀ j, j < k → ∀ y, t.fColumns[j]? = some y → y.fName = (t.fColumns[k]).fName → findB (fun o => decide (o.fName = (t.fColumns[k]).fName)) t.fColumns ≠ (k : Int)) := fun j hj y hy he => findB_not hlt hj (by
        rw [List.getElem?_eq_getElem (by omega)] at hy; cases hy; exact he)
      generalize t.fColumns[k] = x at r HQ HN HM
      obtain ⟨rfl, hx0, hx1, -⟩ := rGColumn_open r
      have ld := Whole.at (P := Try.prog) S_Column rfl hc
      unfold Whole at ld
      have hst := store_run (P := Try.prog) (cs := [.string (strB x.fName), .int .i64 x.fKind, .bool x.fNull]) S_Column (RowIs.alloc wr #[.string { data := #[] }, .int .i64 0, .bool false] 64) rfl rfl rfl
      have rowC := (RowIs.alloc wr #[.string { data := #[] }, .int .i64 0, .bool false] 64).setRow [.string (strB x.fName), .int .i64 x.fKind, .bool x.fNull]
      have kV : Keep Nix wr ((wr.alloc (.cells #[.string { data := #[] }, .int .i64 0, .bool false] 64)).setRow wr.heap.size [.string (strB x.fName), .int .i64 x.fKind, .bool x.fNull].toArray) := ((Keep.refl Nix wr).alloc (.cells #[.string { data := #[] }, .int .i64 0, .bool false] 64)).setRow (fun h => absurd h (Nat.lt_irrefl _)) _
      replace row0 := row0.keep kV id
      replace kk := kk.trans kV
      clear kV r hc
      have y0 := rowC.cell 0
      have y1 := rowC.cell 1
      simp only [List.getElem?_cons_succ, List.getElem?_cons_zero] at y0 y1
      go_wp2_with fail
      clear ld hst x2
      go_fit (Name_s x.fName _ hx0)
      rintro e w1 ⟨rfl, rfl⟩
      obtain ⟨bn, hbn⟩ : ∃ b, Hid (nameB x.fName = b) := ⟨_, rfl⟩
      rw [hbn.out]
      cases bn with
      | false =>
        go_wp2_with fail
        go_ret
        exact ⟨ret_bool (FIN.out (HB.out (by rw [HQ.out]; unfold colOk; rw [hbn.out]; rfl))).symm, kk⟩
      | true =>
      by_cases hkd : x.fKind = 1 ∨ x.fKind = 2
      rotate_left
      · have t1 : (x.fKind != 1) = true := by simp; omega
        have t2 : (x.fKind != 2) = true := by simp; omega
        have HK := Lib.hid (decide_eq_false hkd)
        clear hkd
        go_wp2_with fail
        go_ret
        exact ⟨ret_bool (FIN.out (HB.out (by rw [HQ.out]; unfold colOk; rw [HK.out]; simp))).symm, kk⟩
      have HK := Lib.hid (decide_eq_true hkd)
      have HQ2 : Hid (colQ t.fColumns k = decide (findB (fun o => decide (o.fName = x.fName)) t.fColumns = (k : Int))) := by show _ = _; rw [HQ.out]; unfold colOk; rw [hbn.out, HK.out]; rfl
      clear HQ HK
      have t3 : (x.fKind != 1) = false ∨ (x.fKind != 1) = true ∧ (x.fKind != 2) = false := by simp; omega
      clear hkd
      rcases t3 with t3 | ⟨t3, t4⟩
      all_goals
        go_wp2_with fail
        clear y0 y1
        obtain ⟨wo, rfl⟩ : ∃ wo : World, wo = wr := ⟨_, rfl⟩
        go_loopw [5] (fun i wi => ∃ j : Nat, j ≤ k ∧ i = .int .i64 j ∧ Hid (∀ m, m < j → ∀ y, t.fColumns[m]? = some y → y.fName ≠ x.fName) ∧ RowIs wi w.heap.size 33 [.int .i64 t.fID, .string (strB t.fName), .slice (some ⟨b, o, none⟩) t.fColumns.length cC, .slice aK t.fKey.length cK] ∧ RowIs wi wo.heap.size 64 [.string (strB x.fName), .int .i64 x.fKind, .bool x.fNull] ∧ Keep Nix w wi) (fun i _ => k - (intOf i).toNat)
        case atStart => exact ⟨0, by omega, rfl, fun j hj => by omega, row0, rowC, kk⟩
        case round =>
          clear row0 kk rowC
          obtain ⟨j, hj, rfl, hgj, row0, rowC, kk⟩ := hrel
          by_cases hjk : j < k
          · have hj0 : (0 : Int) ≤ (j : Int) := by omega
            have hj1 : (j : Int) < (t.fColumns.length : Int) := by omega
            have hjl : j < t.fColumns.length := by omega
            obtain ⟨b', o', c', cs', e1, -, hb', r', hc'⟩ := rList_at rGColumn_lawful (by decide) ((rList_lawful rGColumn_lawful).nix hC kk) j hjl
            simp only [List.cons.injEq, Value.slice.injEq, Option.some.injEq, Addr.mk.injEq, and_true] at e1
            obtain ⟨⟨rfl, rfl⟩, -, -⟩ := e1
            have HY : Hid (t.fColumns[j]? = some t.fColumns[j]) := List.getElem?_eq_getElem hjl
            generalize t.fColumns[j] = y at r' HY
            obtain ⟨rfl, -⟩ := rGColumn_open r'
            have z0 := hc' 0 _ rfl
            rw [Nat.add_zero] at z0
            clear r' hc'
            have x2 := row0.cell 2
            simp only [List.getElem?_cons_succ, List.getElem?_cons_zero] at x2
            have y0 := rowC.cell 0
            simp only [List.getElem?_cons_zero] at y0
            have HE := Lib.hid (strB_eq y.fName x.fName)
            by_cases he : y.fName = x.fName
            · have hE : ((strB y.fName).toList == (strB x.fName).toList) = true := by rw [HE.out]; exact decide_eq_true he
              have HH := Lib.hid (HM.out j hjk y HY.out he)
              clear he
              go_wp2_with fail
              go_quiet (fail)
              go_wp2_with fail
              go_ret
              exact ⟨ret_bool (FIN.out (HB.out (by rw [HQ2.out]; exact decide_eq_false HH.out))).symm, kk.drewN _⟩
            · have hE : ((strB y.fName).toList == (strB x.fName).toList) = false := by rw [HE.out]; exact decide_eq_false he
              have HH := Lib.hid he
              clear he
              go_wp2_with fail
              go_quiet (fail)
              go_wp2_with fail
              go_roundw
              case rel => exact ⟨j + 1, by omega, by go_num, fun m hm z hz => by
                rcases Nat.lt_succ_iff_lt_or_eq.1 hm with h | rfl
                · exact hgj.out m h z hz
                · rw [HY.out] at hz; cases hz; exact HH.out, row0.same, rowC.same, kk.drewN _⟩
              case measure => simp [intOf]; omega
          · obtain rfl : j = k := by omega
            go_wp2_with fail
            go_roundw
            case rel => exact ⟨j + 1, by omega, by go_num, fun m hm => by
              rcases Nat.lt_succ_iff_lt_or_eq.1 hm with h | rfl
              · exact hg.out m h
              · rw [HQ2.out]; exact decide_eq_true (HN.out (fun q hq => hgj.out q hq _ (List.getElem?_eq_getElem (by omega)))), row0, kk⟩
            case measure => simp [intOf]; omega
    · obtain rfl : k = t.fColumns.length := by omega
      have HA : Hid (allB t.fColumns.length (colQ t.fColumns) = true) := allB_good hg.out
      have hgood : ∀ z ∈ t.fKey, 0 ≤ z ∧ z < (t.fColumns.length : Int) := fun z hz => by
        have := (of_decide_eq_true H4.out).1.1 z hz; omega
      have HG := Lib.hid hgood
      have HR : Hid (tableB t = !(t.fKey.any (nullAt t.fColumns))) := by
        show _ = _
        unfold tableB
        rw [HT.out, HL.out, H4.out, HA.out]; rfl
      have nK := (rList_len hK).2.2
      have mK : t.fKey.length ≤ 140737488351232 := by have := far_len; omega
      clear hgood HA HL H4 HT hg nK
      obtain ⟨wo, rfl⟩ : ∃ wo : World, wo = wr := ⟨_, rfl⟩
      go_wp2_with fail
      clear x2
      go_loopw [6] (fun i wi => ∃ k : Nat, k ≤ t.fKey.length ∧ i = .int .i64 k ∧ Hid (∀ m, m < k → ∀ y, t.fKey[m]? = some y → nullAt t.fColumns y = false) ∧ RowIs wi w.heap.size 33 [.int .i64 t.fID, .string (strB t.fName), .slice aC t.fColumns.length cC, .slice aK t.fKey.length cK] ∧ Keep Nix w wi) (fun i _ => t.fKey.length - (intOf i).toNat)
      case atStart => exact ⟨0, by omega, rfl, fun j hj => by omega, row0, kk⟩
      case round =>
        clear row0 kk
        obtain ⟨k, hk, rfl, hg, row0, kk⟩ := hrel
        have x2 := row0.cell 2
        have x3 := row0.cell 3
        simp only [List.getElem?_cons_succ, List.getElem?_cons_zero] at x2 x3
        by_cases hlt : k < t.fKey.length
        · have hi0 : (0 : Int) ≤ (k : Int) := by omega
          have hi1 : (k : Int) < (t.fKey.length : Int) := by omega
          obtain ⟨b, o, rfl, hb, z, -⟩ := rInt_at ((rList_lawful (rInt_lawful _)).nix hK kk) k hlt
          have hv := HG.out _ (List.getElem_mem hlt)
          have HV : Hid (t.fKey[k]? = some t.fKey[k]) := List.getElem?_eq_getElem hlt
          have HM : Hid (t.fKey[k] ∈ t.fKey) := List.getElem_mem hlt
          generalize t.fKey[k] = v at z hv HV HM
          obtain ⟨q, rfl⟩ : ∃ q : Nat, v = (q : Int) := ⟨v.toNat, by omega⟩
          have hq : q < t.fColumns.length := by omega
          have hq0 : (0 : Int) ≤ (q : Int) := by omega
          have hq1 : (q : Int) < (t.fColumns.length : Int) := by omega
          obtain ⟨b', o', c', cs', e1, -, hb', r', hc'⟩ := rList_at rGColumn_lawful (by decide) ((rList_lawful rGColumn_lawful).nix hC kk) q hq
          simp only [List.cons.injEq, Value.slice.injEq, and_true] at e1
          obtain ⟨rfl, -, -⟩ := e1
          have HN : Hid (nullAt t.fColumns (q : Int) = (t.fColumns[q]).fNull) := nullAt_at (k := (q : Int)) hq0 hq1
          generalize t.fColumns[q] = y at r' HN
          obtain ⟨rfl, -⟩ := rGColumn_open r'
          have z2 := hc' 2 _ rfl
          clear r' hc' hv
          obtain ⟨bn, hbn⟩ : ∃ b, Hid (y.fNull = b) := ⟨_, rfl⟩
          rw [hbn.out] at z2 HN
          cases bn with
          | true =>
            have HF : Hid (tableB t = false) := by
              show _ = _
              rw [HR.out]
              have : t.fKey.any (nullAt t.fColumns) = true := List.any_eq_true.2 ⟨_, HM.out, HN.out⟩
              rw [this]; rfl
            go_wp2_with fail
            go_quiet (fail)
            go_wp2_with fail
            go_ret
            exact ⟨ret_bool HF.out.symm, kk.drewN _⟩
          | false =>
            go_wp2_with fail
            go_quiet (fail)
            go_wp2_with fail
            go_roundw
            case rel => exact ⟨k + 1, by omega, by go_num, fun m hm y hy => by
              rcases Nat.lt_succ_iff_lt_or_eq.1 hm with h | rfl
              · exact hg.out m h y hy
              · rw [HV.out] at hy; cases hy; exact HN.out, row0.same, kk.drewN _⟩
            case measure => simp [intOf]; omega
        · obtain rfl : k = t.fKey.length := by omega
          have HF : Hid (tableB t = true) := by
            show _ = _
            rw [HR.out]
            have : t.fKey.any (nullAt t.fColumns) = false := List.any_eq_false.2 (fun y hy => by
              obtain ⟨m, hm, rfl⟩ := List.mem_iff_getElem.1 hy
              rw [hg.out m hm _ (List.getElem?_eq_getElem hm)]; simp)
            rw [this]; rfl
          go_wp2_with fail
          go_ret
          exact ⟨ret_bool HF.out.symm, kk⟩
end
end Go.Proofs.Ytfogbbnfedcldaa
