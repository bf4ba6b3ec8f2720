/- SCHEMA: an index goes on, by the reference. Printed by mac.py. -/
import Derived.Test.YtfogbbnfedcldaaSchCb
namespace Go.Proofs.Ytfogbbnfedcldaa
open Go.RowKit

theorem stepF_at {c : GCatalog} {d frm to : Int} {bad : Bool} {k : Nat} (hk : k < c.fIndexes.length) (hg : NoneYet (fun x : GIndex => decide (x.fID = d)) c.fIndexes k) (hd : c.fIndexes[k].fID = d) : stepF c d frm to bad = stepAt frm to bad c k c.fIndexes[k] := by
  unfold stepF
  rw [findB_at k hk (fun j hj x hx => hg j hj x hx) (decide_eq_true hd), atI_nat hk]
theorem stepF_none {c : GCatalog} {d frm to : Int} {bad : Bool} (hg : NoneYet (fun x : GIndex => decide (x.fID = d)) c.fIndexes c.fIndexes.length) : stepF c d frm to bad = (c, 5) := by
  unfold stepF
  rw [findB_none (fun j hj x hx => hg j hj x hx), atI_neg]
theorem step_set {c : GCatalog} (h : RightP c) {k : Nat} (hk : k < c.fIndexes.length) {d frm to : Int} {bad : Bool} (hd : c.fIndexes[k].fID = d) (h1 : c.fIndexes[k].fState = frm) (h2 : (to = nextF c.fIndexes[k].fState ∧ to ≠ frm) ∨ (bad = true ∧ frm = 3 ∧ to = 6)) :
    stepAt frm to bad c k c.fIndexes[k] = (setF c d to (bad || c.fIndexes[k].fBad), 0) := by
  have e := setF_at h hk to (bad || c.fIndexes[k].fBad)
  rw [hd] at e
  rw [e]
  by_cases h0 : to = 0
  · rw [if_pos h0, stepAt_cut h1 h2 h0]
  · rw [if_neg h0, stepAt_set h1 h2 h0]
section
attribute [local go_sem ↓] ldz_Catalog stz_Catalog ldz_Index stz_Index
set_option maxRecDepth 100000 in
set_option maxHeartbeats 32000000 in
theorem rStep_c {p : Nat → Prop} (c : GCatalog) (csc : List Value) (d frm to : Int) (bad : Bool) (w : World) (hc : rGCatalog w p csc c) (hR : RightP c) (hs : smallC c) (hv : c.fVersion ≤ 4611686018427387904) (hto : isI64 to) (hp : ∀ b, p b → b < w.heap.size) :
    Calls Try.prog 40 #[.agg csc.toArray, .int .i64 d, .int .i64 frm, .int .i64 to, .bool bad] w (TookA rGCatalog p w (stepF c d frm to bad)) := by
  have gc := hc
  obtain ⟨aT, cT, aX, cX, rfl, -, -, hT, hX, -⟩ := rGCatalog_open hc
  obtain ⟨csc, hcsc⟩ : ∃ csc : List Value, csc = [.int .i64 c.fVersion, .int .i64 c.fNext, .slice aT c.fTables.length cT, .slice aX c.fIndexes.length cX] := ⟨_, rfl⟩
  have hlc : ([.int .i64 c.fVersion, .int .i64 c.fNext, .slice aT c.fTables.length cT, .slice aX c.fIndexes.length cX] : List Value).length = 4 := rfl
  clear hcsc csc hT
  have mX : c.fIndexes.length ≤ 140737488351232 := by have := hs.2.2.2; omega
  obtain ⟨csc, hcsc⟩ : ∃ csc : List Value, Hid (csc = [.int .i64 c.fVersion, .int .i64 c.fNext, .slice aT c.fTables.length cT, .slice aX c.fIndexes.length cX]) := ⟨_, Lib.hid rfl⟩
  clear hcsc csc
  have row0 : RowIs ((w.alloc (.cells #[.int .i64 c.fVersion, .int .i64 c.fNext, .slice aT c.fTables.length cT, .slice aX c.fIndexes.length cX] 25)).alloc (.cells #[.int .i64 0, .int .i64 0, .slice none 0 0, .slice none 0 0] 25)) w.heap.size 25 [.int .i64 c.fVersion, .int .i64 c.fNext, .slice aT c.fTables.length cT, .slice aX c.fIndexes.length cX] := (RowIs.alloc w _ _).keep ((Keep.refl Nix _).alloc _) id
  have rowR : RowIs ((w.alloc (.cells #[.int .i64 c.fVersion, .int .i64 c.fNext, .slice aT c.fTables.length cT, .slice aX c.fIndexes.length cX] 25)).alloc (.cells #[.int .i64 0, .int .i64 0, .slice none 0 0, .slice none 0 0] 25)) (w.heap.size + 1) 25 [.int .i64 0, .int .i64 0, .slice none 0 0, .slice none 0 0] := RowIs.alloc_at (w.alloc (.cells #[.int .i64 c.fVersion, .int .i64 c.fNext, .slice aT c.fTables.length cT, .slice aX c.fIndexes.length cX] 25)) _ (by simp) #[.int .i64 0, .int .i64 0, .slice none 0 0, .slice none 0 0] 25
  have kk : Keep Nix w ((w.alloc (.cells #[.int .i64 c.fVersion, .int .i64 c.fNext, .slice aT c.fTables.length cT, .slice aX c.fIndexes.length cX] 25)).alloc (.cells #[.int .i64 0, .int .i64 0, .slice none 0 0, .slice none 0 0] 25)) := ((Keep.refl Nix w).alloc _).alloc _
  replace gc := rGCatalog_lawful.nix gc kk
  clear hc hX
  have x3 := row0.cell 3
  (try simp only [List.getElem?_cons_succ] at x3); (try simp only [List.getElem?_cons_zero] at x3)
  go_enter Try.func40, Try.ntmps40
  go_wp2_with fail
  clear x3
  go_loopw [12] (fun i wr => ∃ k : Nat, k ≤ c.fIndexes.length ∧ i = .int .i64 k ∧ Hid (NoneYet (fun x => decide (x.fID = d)) c.fIndexes k) ∧ RowIs wr w.heap.size 25 [.int .i64 c.fVersion, .int .i64 c.fNext, .slice aT c.fTables.length cT, .slice aX c.fIndexes.length cX] ∧ RowIs wr (w.heap.size + 1) 25 [.int .i64 0, .int .i64 0, .slice none 0 0, .slice none 0 0] ∧ rGCatalog wr p [.int .i64 c.fVersion, .int .i64 c.fNext, .slice aT c.fTables.length cT, .slice aX c.fIndexes.length cX] c ∧ Keep Nix w wr) (fun i _ => c.fIndexes.length - (intOf i).toNat)
  case atStart => exact ⟨0, by omega, rfl, fun j hj => by omega, row0, rowR, gc, kk⟩
  case round =>
    clear row0 rowR gc kk
    obtain ⟨k, hk, rfl, hg, row0, rowR, gc, kk⟩ := hrel
    have x3 := row0.cell 3
    (try simp only [List.getElem?_cons_succ] at x3); (try simp only [List.getElem?_cons_zero] at x3)
    by_cases hlt : k < c.fIndexes.length
    · have hi0 : (0 : Int) ≤ (k : Int) := by omega
      have hi1 : (k : Int) < (c.fIndexes.length : Int) := by omega
      obtain ⟨b, o, cc, cs, e1, -, hb, r, hcl⟩ := rList_at rGIndex_lawful (by decide) (cat_idx gc) k hlt
      simp only [List.cons.injEq, Value.slice.injEq, and_true] at e1
      obtain ⟨rfl, -, -⟩ := e1
      have HS := Lib.hid (hg.out.succ (P := (fun x => decide (x.fID = d))) hlt)
      have HA : Hid (c.fIndexes[k].fID = d → stepF c d frm to bad = stepAt frm to bad c k c.fIndexes[k]) := fun h => stepF_at hlt hg.out h
      have HSS : Hid (c.fIndexes[k].fID = d → c.fIndexes[k].fState = frm → ((to = nextF c.fIndexes[k].fState ∧ to ≠ frm) ∨ (bad = true ∧ frm = 3 ∧ to = 6)) → stepAt frm to bad c k c.fIndexes[k] = (setF c d to (bad || c.fIndexes[k].fBad), 0)) := fun h1 h2 h3 => step_set hR hlt h1 h2 h3
      generalize c.fIndexes[k] = x at r HS HA HSS
      have gx := r
      obtain ⟨aK, cK, rfl, -⟩ := rGIndex_open r
      have ld := Whole.at (P := Try.prog) S_Index rfl hcl
      unfold Whole at ld
      obtain ⟨hst, rowX, kr⟩ := boxed (P := Try.prog) (zs := [.int .i64 0, .int .i64 0, .string { data := #[] }, .slice none 0 0, .bool false, .int .i64 0, .bool false]) (cs := [.int .i64 x.fID, .int .i64 x.fTable, .string (strB x.fName), .slice aK x.fColumns.length cK, .bool x.fUnique, .int .i64 x.fState, .bool x.fBad]) S_Index wr rfl rfl rfl
      have y0 := rowX.cell 0
      (try simp only [List.getElem?_cons_succ] at y0); (try simp only [List.getElem?_cons_zero] at y0)
      have hrl := rowR.lt
      (try replace row0 := row0.keep kr id)
      (try replace rowR := rowR.keep kr id)
      (try replace rowX := rowX.keep kr id)
      (try replace gc := rGCatalog_lawful.nix gc kr)
      (try replace gx := rGIndex_lawful.nix gx kr)
      replace kk := kk.trans kr
      have hX1 := Lib.hid rowR.lt
      clear hcl r kr
      rcases test_eq x.fID d with ⟨ht, hT⟩ | ⟨ht, hT⟩
      · have ht2 : (x.fID != d) = false := by rw [bne_eq_false_iff_eq]; exact hT.out
        have HR1 := Lib.hid (HA.out hT.out)
        have HSS := Lib.hid (HSS.out hT.out)
        clear HA HS hT hg
        have x5 := rowX.cell 5
        (try simp only [List.getElem?_cons_succ] at x5); (try simp only [List.getElem?_cons_zero] at x5)
        have x6 := rowX.cell 6
        (try simp only [List.getElem?_cons_succ] at x6); (try simp only [List.getElem?_cons_zero] at x6)
        obtain ⟨v1, a1, A1⟩ : ∃ v, (to != nextF x.fState) = !v ∧ Hid (v = true ↔ to = nextF x.fState) := ⟨to == nextF x.fState, rfl, Lib.hid (by simp)⟩
        obtain ⟨v2, a2, A2⟩ : ∃ v, (to == frm) = v ∧ Hid (v = true ↔ to = frm) := ⟨to == frm, rfl, Lib.hid (by simp)⟩
        obtain ⟨v4, a4, A4⟩ : ∃ v, (frm == 3) = v ∧ Hid (v = true ↔ frm = 3) := ⟨_, rfl, Lib.hid (by simp)⟩
        obtain ⟨v5, a5, A5⟩ : ∃ v, (to == 6) = v ∧ Hid (v = true ↔ to = 6) := ⟨_, rfl, Lib.hid (by simp)⟩
        obtain ⟨v6, a6, A6⟩ : ∃ v, (x.fState != frm) = !v ∧ Hid (v = true ↔ x.fState = frm) := ⟨x.fState == frm, rfl, Lib.hid (by simp)⟩
        cases v6 with
        | false =>
          clear HSS
          have HR : Hid (stepF c d frm to bad = (c, 7)) := by show _ = _; rw [HR1.out]; exact step_no A1.out A2.out A4.out A5.out A6.out rfl
          obtain ⟨hstR, rowF, HRES, HKF, HIN⟩ := same_back (w := w) rowR rfl (by omega) gc hp kk
          have ld0 := Whole.run (P := Try.prog) S_Catalog hlc row0
          go_wp2_with fail
          refine bodyPost_ret (results_cell_row2 (by rfl) _ _ _ _ _ _ _ (by rfl) rowF Try.underlying25 (by rfl) HIN.out) rfl ?_
          rw [HR.out]
          exact ⟨_, rfl, HRES.out, rGCatalog_ones HRES.out, HKF.out⟩
        | true =>
        cases bad with
        | false =>
          have HN1 : Hid (v1 = false → stepF c d frm to false = (c, 7)) := fun h => by subst h; rw [HR1.out]; exact step_no A1.out A2.out A4.out A5.out A6.out rfl
          have HN2 : Hid (v2 = true → stepF c d frm to false = (c, 7)) := fun h => by subst h; rw [HR1.out]; exact step_no A1.out A2.out A4.out A5.out A6.out (by cases v1 <;> rfl)
          have HY2 : Hid (v1 = true → v2 = false → stepF c d frm to false = (setF c d to x.fBad, 0)) := fun h1 h2 => by
            subst h1; subst h2; rw [HR1.out]
            obtain ⟨g1, g2⟩ := step_yes (bad := false) A1.out A2.out A4.out A5.out A6.out rfl
            exact HSS.out g1 g2
          have ldX := Whole.row (P := Try.prog) S_Index rfl rowX
          unfold Whole at ldX
          go_wp2_with fail
          clear ldX
          go_fit (rNext_c x _ _ gx)
          rintro e w9 ⟨rfl, k9⟩
          (try replace row0 := row0.keep k9 id)
          (try replace rowR := rowR.keep k9 id)
          (try replace rowX := rowX.keep k9 id)
          (try replace gc := rGCatalog_lawful.nix gc k9)
          (try replace gx := rGIndex_lawful.nix gx k9)
          replace kk := kk.trans k9
          have hX2 := Nat.lt_of_lt_of_le hX1.out k9.size
          have hX1 := Lib.hid hX2
          clear k9 hX2 x6 x5
          have x6 := rowX.cell 6
          (try simp only [List.getElem?_cons_succ] at x6); (try simp only [List.getElem?_cons_zero] at x6)
          cases v1 with
          | false =>
            have HR := Lib.hid (HN1.out rfl)
            obtain ⟨hstR, rowF, HRES, HKF, HIN⟩ := same_back (w := w) rowR rfl (by omega) gc hp kk
            have ld0 := Whole.run (P := Try.prog) S_Catalog hlc row0
            go_wp2_with fail
            refine bodyPost_ret (results_cell_row2 (by rfl) _ _ _ _ _ _ _ (by rfl) rowF Try.underlying25 (by rfl) HIN.out) rfl ?_
            rw [HR.out]
            exact ⟨_, rfl, HRES.out, rGCatalog_ones HRES.out, HKF.out⟩
          | true =>
            cases v2 with
            | false =>
              have HR := Lib.hid (HY2.out rfl rfl)
              clear HSS HR1
              have ld0 := Whole.run (P := Try.prog) S_Catalog hlc row0
              go_wp2_with fail
              clear ld0
              have HC := set_c c _ d to x.fBad _ gc hs hv hto
              go_fit HC
              clear HC
              rintro e w3 ⟨csn, rfl, gn, k3⟩
              replace gn := rGCatalog_lawful.mono gn (q := fun b => w.heap.size + 1 < b ∧ b < w3.heap.size) (fun b hb => ⟨by have := hb.1; have := hX1.out; omega, hb.2⟩)
              (try replace row0 := row0.keep k3 id)
              (try replace rowR := rowR.keep k3 id)
              (try replace rowX := rowX.keep k3 id)
              (try replace gc := rGCatalog_lawful.nix gc k3)
              (try replace gx := rGIndex_lawful.nix gx k3)
              replace kk := kk.trans k3
              clear k3
              obtain ⟨hstR, rowF, HRES, HKF, HIN⟩ := new_back (p := p) (w := w) rowR rfl (by omega) gn kk
              go_wp2_with fail
              refine bodyPost_ret (results_cell_row2 (by rfl) _ _ _ _ _ _ _ (by rfl) rowF Try.underlying25 (by rfl) HIN.out) rfl ?_
              rw [HR.out]
              exact ⟨_, rfl, HRES.out, rGCatalog_ones HRES.out, HKF.out⟩
            | true =>
              have HR := Lib.hid (HN2.out rfl)
              obtain ⟨hstR, rowF, HRES, HKF, HIN⟩ := same_back (w := w) rowR rfl (by omega) gc hp kk
              have ld0 := Whole.run (P := Try.prog) S_Catalog hlc row0
              go_wp2_with fail
              refine bodyPost_ret (results_cell_row2 (by rfl) _ _ _ _ _ _ _ (by rfl) rowF Try.underlying25 (by rfl) HIN.out) rfl ?_
              rw [HR.out]
              exact ⟨_, rfl, HRES.out, rGCatalog_ones HRES.out, HKF.out⟩
        | true =>
        cases v4 with
        | false =>
          have HN1 : Hid (v1 = false → stepF c d frm to true = (c, 7)) := fun h => by subst h; rw [HR1.out]; exact step_no A1.out A2.out A4.out A5.out A6.out rfl
          have HN2 : Hid (v2 = true → stepF c d frm to true = (c, 7)) := fun h => by subst h; rw [HR1.out]; exact step_no A1.out A2.out A4.out A5.out A6.out (by cases v1 <;> rfl)
          have HY2 : Hid (v1 = true → v2 = false → stepF c d frm to true = (setF c d to true, 0)) := fun h1 h2 => by
            subst h1; subst h2; rw [HR1.out]
            obtain ⟨g1, g2⟩ := step_yes (bad := true) A1.out A2.out A4.out A5.out A6.out rfl
            exact HSS.out g1 g2
          have ldX := Whole.row (P := Try.prog) S_Index rfl rowX
          unfold Whole at ldX
          go_wp2_with fail
          clear ldX
          go_fit (rNext_c x _ _ gx)
          rintro e w9 ⟨rfl, k9⟩
          (try replace row0 := row0.keep k9 id)
          (try replace rowR := rowR.keep k9 id)
          (try replace rowX := rowX.keep k9 id)
          (try replace gc := rGCatalog_lawful.nix gc k9)
          (try replace gx := rGIndex_lawful.nix gx k9)
          replace kk := kk.trans k9
          have hX2 := Nat.lt_of_lt_of_le hX1.out k9.size
          have hX1 := Lib.hid hX2
          clear k9 hX2 x6 x5
          have x6 := rowX.cell 6
          (try simp only [List.getElem?_cons_succ] at x6); (try simp only [List.getElem?_cons_zero] at x6)
          cases v1 with
          | false =>
            have HR := Lib.hid (HN1.out rfl)
            obtain ⟨hstR, rowF, HRES, HKF, HIN⟩ := same_back (w := w) rowR rfl (by omega) gc hp kk
            have ld0 := Whole.run (P := Try.prog) S_Catalog hlc row0
            go_wp2_with fail
            refine bodyPost_ret (results_cell_row2 (by rfl) _ _ _ _ _ _ _ (by rfl) rowF Try.underlying25 (by rfl) HIN.out) rfl ?_
            rw [HR.out]
            exact ⟨_, rfl, HRES.out, rGCatalog_ones HRES.out, HKF.out⟩
          | true =>
            cases v2 with
            | false =>
              have HR := Lib.hid (HY2.out rfl rfl)
              clear HSS HR1
              have ld0 := Whole.run (P := Try.prog) S_Catalog hlc row0
              go_wp2_with fail
              clear ld0
              have HC := set_c c _ d to true _ gc hs hv hto
              go_fit HC
              clear HC
              rintro e w3 ⟨csn, rfl, gn, k3⟩
              replace gn := rGCatalog_lawful.mono gn (q := fun b => w.heap.size + 1 < b ∧ b < w3.heap.size) (fun b hb => ⟨by have := hb.1; have := hX1.out; omega, hb.2⟩)
              (try replace row0 := row0.keep k3 id)
              (try replace rowR := rowR.keep k3 id)
              (try replace rowX := rowX.keep k3 id)
              (try replace gc := rGCatalog_lawful.nix gc k3)
              (try replace gx := rGIndex_lawful.nix gx k3)
              replace kk := kk.trans k3
              clear k3
              obtain ⟨hstR, rowF, HRES, HKF, HIN⟩ := new_back (p := p) (w := w) rowR rfl (by omega) gn kk
              go_wp2_with fail
              refine bodyPost_ret (results_cell_row2 (by rfl) _ _ _ _ _ _ _ (by rfl) rowF Try.underlying25 (by rfl) HIN.out) rfl ?_
              rw [HR.out]
              exact ⟨_, rfl, HRES.out, rGCatalog_ones HRES.out, HKF.out⟩
            | true =>
              have HR := Lib.hid (HN2.out rfl)
              obtain ⟨hstR, rowF, HRES, HKF, HIN⟩ := same_back (w := w) rowR rfl (by omega) gc hp kk
              have ld0 := Whole.run (P := Try.prog) S_Catalog hlc row0
              go_wp2_with fail
              refine bodyPost_ret (results_cell_row2 (by rfl) _ _ _ _ _ _ _ (by rfl) rowF Try.underlying25 (by rfl) HIN.out) rfl ?_
              rw [HR.out]
              exact ⟨_, rfl, HRES.out, rGCatalog_ones HRES.out, HKF.out⟩
        | true =>
        cases v5 with
        | false =>
          have HN1 : Hid (v1 = false → stepF c d frm to true = (c, 7)) := fun h => by subst h; rw [HR1.out]; exact step_no A1.out A2.out A4.out A5.out A6.out rfl
          have HN2 : Hid (v2 = true → stepF c d frm to true = (c, 7)) := fun h => by subst h; rw [HR1.out]; exact step_no A1.out A2.out A4.out A5.out A6.out (by cases v1 <;> rfl)
          have HY2 : Hid (v1 = true → v2 = false → stepF c d frm to true = (setF c d to true, 0)) := fun h1 h2 => by
            subst h1; subst h2; rw [HR1.out]
            obtain ⟨g1, g2⟩ := step_yes (bad := true) A1.out A2.out A4.out A5.out A6.out rfl
            exact HSS.out g1 g2
          have ldX := Whole.row (P := Try.prog) S_Index rfl rowX
          unfold Whole at ldX
          go_wp2_with fail
          clear ldX
          go_fit (rNext_c x _ _ gx)
          rintro e w9 ⟨rfl, k9⟩
          (try replace row0 := row0.keep k9 id)
          (try replace rowR := rowR.keep k9 id)
          (try replace rowX := rowX.keep k9 id)
          (try replace gc := rGCatalog_lawful.nix gc k9)
          (try replace gx := rGIndex_lawful.nix gx k9)
          replace kk := kk.trans k9
          have hX2 := Nat.lt_of_lt_of_le hX1.out k9.size
          have hX1 := Lib.hid hX2
          clear k9 hX2 x6 x5
          have x6 := rowX.cell 6
          (try simp only [List.getElem?_cons_succ] at x6); (try simp only [List.getElem?_cons_zero] at x6)
          cases v1 with
          | false =>
            have HR := Lib.hid (HN1.out rfl)
            obtain ⟨hstR, rowF, HRES, HKF, HIN⟩ := same_back (w := w) rowR rfl (by omega) gc hp kk
            have ld0 := Whole.run (P := Try.prog) S_Catalog hlc row0
            go_wp2_with fail
            refine bodyPost_ret (results_cell_row2 (by rfl) _ _ _ _ _ _ _ (by rfl) rowF Try.underlying25 (by rfl) HIN.out) rfl ?_
            rw [HR.out]
            exact ⟨_, rfl, HRES.out, rGCatalog_ones HRES.out, HKF.out⟩
          | true =>
            cases v2 with
            | false =>
              have HR := Lib.hid (HY2.out rfl rfl)
              clear HSS HR1
              have ld0 := Whole.run (P := Try.prog) S_Catalog hlc row0
              go_wp2_with fail
              clear ld0
              have HC := set_c c _ d to true _ gc hs hv hto
              go_fit HC
              clear HC
              rintro e w3 ⟨csn, rfl, gn, k3⟩
              replace gn := rGCatalog_lawful.mono gn (q := fun b => w.heap.size + 1 < b ∧ b < w3.heap.size) (fun b hb => ⟨by have := hb.1; have := hX1.out; omega, hb.2⟩)
              (try replace row0 := row0.keep k3 id)
              (try replace rowR := rowR.keep k3 id)
              (try replace rowX := rowX.keep k3 id)
              (try replace gc := rGCatalog_lawful.nix gc k3)
              (try replace gx := rGIndex_lawful.nix gx k3)
              replace kk := kk.trans k3
              clear k3
              obtain ⟨hstR, rowF, HRES, HKF, HIN⟩ := new_back (p := p) (w := w) rowR rfl (by omega) gn kk
              go_wp2_with fail
              refine bodyPost_ret (results_cell_row2 (by rfl) _ _ _ _ _ _ _ (by rfl) rowF Try.underlying25 (by rfl) HIN.out) rfl ?_
              rw [HR.out]
              exact ⟨_, rfl, HRES.out, rGCatalog_ones HRES.out, HKF.out⟩
            | true =>
              have HR := Lib.hid (HN2.out rfl)
              obtain ⟨hstR, rowF, HRES, HKF, HIN⟩ := same_back (w := w) rowR rfl (by omega) gc hp kk
              have ld0 := Whole.run (P := Try.prog) S_Catalog hlc row0
              go_wp2_with fail
              refine bodyPost_ret (results_cell_row2 (by rfl) _ _ _ _ _ _ _ (by rfl) rowF Try.underlying25 (by rfl) HIN.out) rfl ?_
              rw [HR.out]
              exact ⟨_, rfl, HRES.out, rGCatalog_ones HRES.out, HKF.out⟩
        | true =>
          obtain ⟨g1, g2⟩ := step_yes (bad := true) A1.out A2.out A4.out A5.out A6.out (by cases v1 <;> cases v2 <;> rfl)
          have HR : Hid (stepF c d frm to true = (setF c d to true, 0)) := by show _ = _; rw [HR1.out]; exact HSS.out g1 g2
          clear g1 g2
          clear HSS HR1
          have ld0 := Whole.run (P := Try.prog) S_Catalog hlc row0
          go_wp2_with fail
          clear ld0
          have HC := set_c c _ d to true _ gc hs hv hto
          go_fit HC
          clear HC
          rintro e w3 ⟨csn, rfl, gn, k3⟩
          replace gn := rGCatalog_lawful.mono gn (q := fun b => w.heap.size + 1 < b ∧ b < w3.heap.size) (fun b hb => ⟨by have := hb.1; have := hX1.out; omega, hb.2⟩)
          (try replace row0 := row0.keep k3 id)
          (try replace rowR := rowR.keep k3 id)
          (try replace rowX := rowX.keep k3 id)
          (try replace gc := rGCatalog_lawful.nix gc k3)
          (try replace gx := rGIndex_lawful.nix gx k3)
          replace kk := kk.trans k3
          clear k3
          obtain ⟨hstR, rowF, HRES, HKF, HIN⟩ := new_back (p := p) (w := w) rowR rfl (by omega) gn kk
          go_wp2_with fail
          refine bodyPost_ret (results_cell_row2 (by rfl) _ _ _ _ _ _ _ (by rfl) rowF Try.underlying25 (by rfl) HIN.out) rfl ?_
          rw [HR.out]
          exact ⟨_, rfl, HRES.out, rGCatalog_ones HRES.out, HKF.out⟩
      · have ht2 : (x.fID != d) = true := by rw [bne_iff_ne]; exact hT
        have HN := Lib.hid (HS.out (decide_eq_false hT))
        clear hT HA HSS HS rowX gx
        go_wp2_with fail
        clear ld hst x3 y0 ht ht2
        go_roundw
        case rel => exact ⟨k + 1, by omega, by go_num, HN.out, row0, rowR, gc, kk⟩
        case measure => simp [intOf]; omega
    · obtain rfl : k = c.fIndexes.length := by omega
      have HR : Hid (stepF c d frm to bad = (c, 5)) := stepF_none hg.out
      clear hg
      obtain ⟨hstR, rowF, HRES, HKF, HIN⟩ := same_back (w := w) rowR rfl (by omega) gc hp kk
      have ld0 := Whole.run (P := Try.prog) S_Catalog hlc row0
      go_wp2_with fail
      refine bodyPost_ret (results_cell_row2 (by rfl) _ _ _ _ _ _ _ (by rfl) rowF Try.underlying25 (by rfl) HIN.out) rfl ?_
      rw [HR.out]
      exact ⟨_, rfl, HRES.out, rGCatalog_ones HRES.out, HKF.out⟩
end
end Go.Proofs.Ytfogbbnfedcldaa
