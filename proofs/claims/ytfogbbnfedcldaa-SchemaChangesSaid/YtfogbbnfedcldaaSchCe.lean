/- SCHEMA: an index is added, by the reference. Printed by mac.py. -/
import Derived.Test.YtfogbbnfedcldaaSchCd
namespace Go.Proofs.Ytfogbbnfedcldaa
open Go.RowKit

theorem addIndexF_eq {c : GCatalog} (h : RightP c) {x : GIndex} {tn : List UInt8} {t : GTable} {tb : Bool} {u : GIndex} {ub : Bool} (h1 : firstB (fun t => decide (t.fName = tn)) c.fTables zTab = (t, tb)) (h2 : firstB (fun y => decide (y.fName = x.fName)) c.fIndexes zIdx = (u, ub)) :
    addIndexF c x tn = if tb = false then (c, 5) else if (nameB x.fName && placesR t.fColumns.length x.fColumns) = false then (c, 9) else if ub = true then (c, 6) else if 10 ≤ c.fIndexes.length ∨ 1073741824 ≤ c.fNext then (c, 4) else (putX c (newX c x t.fID), 0) := by
  unfold addIndexF
  rw [h1]
  show (if tb = false then (c, 5) else if indexB c (newX c x t.fID) = false then (c, 9) else if 0 ≤ findB (fun y => decide (y.fName = x.fName)) c.fIndexes then (c, 6) else if 10 ≤ c.fIndexes.length ∨ 1073741824 ≤ c.fNext then (c, 4) else (putX c (newX c x t.fID), 0)) = _
  cases tb with
  | false => rfl
  | true =>
    have hf := firstB_true (P := fun t : GTable => decide (t.fName = tn)) (l := c.fTables) (z := zTab) (by rw [h1])
    rw [h1] at hf
    have hid : tabOf c t.fID = (t, true) := first_mem (f := fun t : GTable => t.fID) (h.tid.imp fun hab e => by omega) hf.1 zTab
    have hi : indexB c (newX c x t.fID) = (nameB x.fName && placesR t.fColumns.length x.fColumns) := by
      unfold indexB
      show ((tabOf c t.fID).2 && (nameB x.fName && (placesB (tabOf c t.fID).1.fColumns.length x.fColumns && decide ((1 : Int) ≤ 1 ∧ (1 : Int) ≤ 7)))) = _
      rw [hid, places_eq (by have := tableB_cols (h.tok _ hf.1).2.2; omega) (by omega)]
      simp
    rw [hi]
    have hu : (0 ≤ findB (fun y => decide (y.fName = x.fName)) c.fIndexes) ↔ ub = true := by
      rcases findB_cases (fun y : GIndex => decide (y.fName = x.fName)) c.fIndexes with ⟨g1, g2⟩ | ⟨k, hk, g1, g2, g3⟩
      · rw [firstB_none (z := zIdx) g2] at h2
        obtain ⟨rfl, rfl⟩ := Prod.mk.inj h2
        rw [g1]; simp
      · rw [firstB_some (P := fun y : GIndex => decide (y.fName = x.fName)) (z := zIdx) k hk g2 g3] at h2
        obtain ⟨rfl, rfl⟩ := Prod.mk.inj h2
        rw [g1]; simp
    simp only [hu]
theorem idx_cols {w : World} {p : Nat → Prop} {v0 v1 v2 v4 v5 v6 : Value} {a : Option Addr} {n cap : Nat} {x : GIndex} (h : rGIndex w p [v0, v1, v2, .slice a n cap, v4, v5, v6] x) : rList (rInt .i64) w p [.slice a n cap] x.fColumns := by
  obtain ⟨_, _, e, -, -, -, h3, -, -⟩ := rGIndex_open h
  simp only [List.cons.injEq, Value.slice.injEq, and_true] at e
  obtain ⟨-, -, -, ⟨rfl, rfl, rfl⟩, -, -, -⟩ := e
  exact h3
section
attribute [local go_sem ↓] ldz_Catalog stz_Catalog ldz_Table stz_Table ldz_Index stz_Index lsz_Index
set_option maxRecDepth 100000 in
set_option maxHeartbeats 32000000 in
theorem rAddIndex_c {p : Nat → Prop} (c : GCatalog) (csc : List Value) (x : GIndex) (csx : List Value) (tn : List UInt8) (w : World) (hc : rGCatalog w p csc c) (hx : rGIndex w p csx x) (hR : RightP c) (hs : smallC c) (hsx : smallX x) (hv : c.fVersion ≤ 4611686018427387904) (hp : ∀ b, p b → b < w.heap.size) :
    Calls Try.prog 37 #[.agg csc.toArray, .agg csx.toArray, .string (strB tn)] w (TookA rGCatalog p w (addIndexF c x tn)) := by
  obtain ⟨hlc, hcv, hcn, nT, nX⟩ := cat_facts hc
  have row0 : RowIs (((w.alloc (.cells csc.toArray 25)).alloc (.cells csx.toArray 37)).alloc (.cells #[.int .i64 0, .int .i64 0, .slice none 0 0, .slice none 0 0] 25)) w.heap.size 25 csc := by have := ((RowIs.alloc w csc.toArray 25).keep ((Keep.refl Nix _).alloc (.cells csx.toArray 37)) id).keep ((Keep.refl Nix _).alloc (.cells #[.int .i64 0, .int .i64 0, .slice none 0 0, .slice none 0 0] 25)) id; simpa using this
  have rowX : RowIs (((w.alloc (.cells csc.toArray 25)).alloc (.cells csx.toArray 37)).alloc (.cells #[.int .i64 0, .int .i64 0, .slice none 0 0, .slice none 0 0] 25)) (w.heap.size + 1) 37 csx := by have := (RowIs.alloc_at (w.alloc (.cells csc.toArray 25)) (w.heap.size + 1) (by simp) csx.toArray 37).keep ((Keep.refl Nix _).alloc (.cells #[.int .i64 0, .int .i64 0, .slice none 0 0, .slice none 0 0] 25)) id; simpa using this
  have rowR : RowIs (((w.alloc (.cells csc.toArray 25)).alloc (.cells csx.toArray 37)).alloc (.cells #[.int .i64 0, .int .i64 0, .slice none 0 0, .slice none 0 0] 25)) (w.heap.size + 1 + 1) 25 [.int .i64 0, .int .i64 0, .slice none 0 0, .slice none 0 0] := RowIs.alloc_at ((w.alloc (.cells csc.toArray 25)).alloc (.cells csx.toArray 37)) _ (by simp) #[.int .i64 0, .int .i64 0, .slice none 0 0, .slice none 0 0] 25
  have kk : Keep Nix w (((w.alloc (.cells csc.toArray 25)).alloc (.cells csx.toArray 37)).alloc (.cells #[.int .i64 0, .int .i64 0, .slice none 0 0, .slice none 0 0] 25)) := (((Keep.refl Nix w).alloc _).alloc _).alloc _
  have gc := rGCatalog_lawful.nix hc kk
  have gx := rGIndex_lawful.nix hx kk
  clear hc
  obtain ⟨aI, cI, rfl, -, -, hq1, -, -, -⟩ := rGIndex_open hx
  clear hx
  have ld0 := Whole.run (P := Try.prog) S_Catalog hlc row0
  obtain ⟨y, HY⟩ : ∃ y, Hid (firstB (fun t => decide (t.fName = tn)) c.fTables zTab = y) := ⟨_, rfl⟩
  have HC := rTable_c c csc tn _ gc (fun b hb => Nat.lt_of_lt_of_le (hp b hb) kk.size)
  rw [HY.out] at HC
  have HCC := Lib.hid HC
  clear HC
  go_enter Try.func37, Try.ntmps37
  go_wp2_with fail
  clear ld0
  go_fit HCC.out
  obtain ⟨t, tb⟩ := y
  rintro e w1 ⟨cst, rfl, gu, k1⟩
  replace gu : rGTable w1 p cst t := gu
  (try replace row0 := row0.keep k1 id)
  (try replace rowR := rowR.keep k1 id)
  (try replace rowX := rowX.keep k1 id)
  (try replace rowT := rowT.keep k1 id)
  (try replace gc := rGCatalog_lawful.nix gc k1)
  (try replace gt := rGTable_lawful.nix gt k1)
  replace kk := kk.trans k1
  (try replace gx := rGIndex_lawful.nix gx k1)
  have hw1y : Hid (w.heap.size + 1 < w1.heap.size) := rowX.lt
  clear k1 HCC
  obtain ⟨hst, rowT, kV⟩ := boxed (P := Try.prog) (zs := [.int .i64 0, .string { data := #[] }, .slice none 0 0, .slice none 0 0]) S_Table w1 rfl (rGTable_lawful.len gu) (rGTable_ones gu)
  (try replace row0 := row0.keep kV id)
  (try replace rowR := rowR.keep kV id)
  (try replace rowX := rowX.keep kV id)
  (try replace rowT := rowT.keep kV id)
  (try replace gc := rGCatalog_lawful.nix gc kV)
  (try replace gt := rGTable_lawful.nix gt kV)
  replace kk := kk.trans kV
  (try replace gx := rGIndex_lawful.nix gx kV)
  have hsV := kV.size
  clear kV
  obtain ⟨aC, cC, aK, cK, rfl, ht0, -, hq2, -, -⟩ := rGTable_open gu
  have hq2l := (rList_len hq2).2.2
  clear gu hq2
  have hw1x : Hid (w.heap.size + 1 < w1.heap.size) := hw1y.out
  have ld0 := Whole.run (P := Try.prog) S_Catalog hlc row0
  have y2 := rowX.cell 2
  (try simp only [List.getElem?_cons_succ] at y2); (try simp only [List.getElem?_cons_zero] at y2)
  obtain ⟨z, HZ⟩ : ∃ z, Hid (firstB (fun y => decide (y.fName = x.fName)) c.fIndexes zIdx = z) := ⟨_, rfl⟩
  have HC := rIndex_c c csc x.fName _ gc (fun b hb => Nat.lt_of_lt_of_le (hp b hb) kk.size)
  rw [HZ.out] at HC
  have HCC := Lib.hid HC
  clear HC
  go_wp2_with fail
  clear ld0 y2 hst
  go_fit HCC.out
  obtain ⟨u, ub⟩ := z
  rintro e w2 ⟨csu, rfl, gu, k2⟩
  replace gu : rGIndex w2 p csu u := gu
  (try replace row0 := row0.keep k2 id)
  (try replace rowR := rowR.keep k2 id)
  (try replace rowX := rowX.keep k2 id)
  (try replace rowT := rowT.keep k2 id)
  (try replace gc := rGCatalog_lawful.nix gc k2)
  (try replace gt := rGTable_lawful.nix gt k2)
  replace kk := kk.trans k2
  (try replace gx := rGIndex_lawful.nix gx k2)
  have hs2 := k2.size
  clear k2 HCC
  obtain ⟨hst, rowU, kV⟩ := boxed (P := Try.prog) (zs := [.int .i64 0, .int .i64 0, .string { data := #[] }, .slice none 0 0, .bool false, .int .i64 0, .bool false]) S_Index w2 rfl (rGIndex_lawful.len gu) (rGIndex_ones gu)
  (try replace row0 := row0.keep kV id)
  (try replace rowR := rowR.keep kV id)
  (try replace rowX := rowX.keep kV id)
  (try replace rowT := rowT.keep kV id)
  (try replace gc := rGCatalog_lawful.nix gc kV)
  (try replace gt := rGTable_lawful.nix gt kV)
  replace kk := kk.trans kV
  (try replace gx := rGIndex_lawful.nix gx kV)
  have hsU := kV.size
  clear kV rowU gu
  have HF := Lib.hid (addIndexF_eq hR HY.out HZ.out)
  cases tb with
  | false =>
    have HR : Hid (addIndexF c x tn = (c, 5)) := by show _ = _; rw [HF.out]; rfl
    clear HF
    obtain ⟨hstR, rowF, HRES, HKF, HIN⟩ := same_back (w := w) rowR rfl (by omega) gc hp kk
    have ld0 := Whole.run (P := Try.prog) S_Catalog hlc row0
    go_wp2_with fail
    refine bodyPost_ret (results_cell_row2 (by rfl) _ _ _ _ _ _ _ (by rfl) rowF Try.underlying25 (by rfl) HIN.out) rfl ?_
    rw [HR.out]
    exact ⟨_, rfl, HRES.out, rGCatalog_ones HRES.out, HKF.out⟩
  | true =>
  obtain ⟨nb, HNB⟩ : ∃ b, Hid (nameB x.fName = b) := ⟨_, rfl⟩
  obtain ⟨pb, HPB⟩ : ∃ b, Hid (placesR t.fColumns.length x.fColumns = b) := ⟨_, rfl⟩
  have y2 := rowX.cell 2
  (try simp only [List.getElem?_cons_succ] at y2); (try simp only [List.getElem?_cons_zero] at y2)
  have y3 := rowX.cell 3
  (try simp only [List.getElem?_cons_succ] at y3); (try simp only [List.getElem?_cons_zero] at y3)
  have t2 := rowT.cell 2
  (try simp only [List.getElem?_cons_succ] at t2); (try simp only [List.getElem?_cons_zero] at t2)
  have hxl := idx_cols gx
  have hIl := (rList_len hxl).2.2
  have HPC := Lib.hid (rplaces_q aI x.fColumns.length cI x.fColumns t.fColumns.length _ hxl)
  have mC : t.fColumns.length ≤ 140737488351232 := by have := far_len; omega
  clear hxl
  go_wp2_with fail
  clear hst
  go_fit (Name_s x.fName _ hq1)
  rintro e wn ⟨rfl, rfl⟩
  rw [HNB.out]
  cases nb with
  | false =>
    have HR : Hid (addIndexF c x tn = (c, 9)) := by show _ = _; rw [HF.out, if_neg (by decide), HNB.out, if_pos (by rfl)]
    clear HF y2 y3 t2
    obtain ⟨hstR, rowF, HRES, HKF, HIN⟩ := same_back (w := w) rowR rfl (by omega) gc hp kk
    have ld0 := Whole.run (P := Try.prog) S_Catalog hlc row0
    go_wp2_with fail
    refine bodyPost_ret (results_cell_row2 (by rfl) _ _ _ _ _ _ _ (by rfl) rowF Try.underlying25 (by rfl) HIN.out) rfl ?_
    rw [HR.out]
    exact ⟨_, rfl, HRES.out, rGCatalog_ones HRES.out, HKF.out⟩
  | true =>
  go_wp2_with fail
  clear y2 y3 t2
  go_fit HPC.out
  rintro e wp ⟨rfl, q, rfl⟩
  rw [HPB.out]
  (try replace row0 := row0.keep ((Keep.refl Nix _).drewN q) id)
  (try replace rowR := rowR.keep ((Keep.refl Nix _).drewN q) id)
  (try replace rowX := rowX.keep ((Keep.refl Nix _).drewN q) id)
  (try replace rowT := rowT.keep ((Keep.refl Nix _).drewN q) id)
  (try replace gc := rGCatalog_lawful.nix gc ((Keep.refl Nix _).drewN q))
  (try replace gt := rGTable_lawful.nix gt ((Keep.refl Nix _).drewN q))
  replace kk := kk.trans ((Keep.refl Nix _).drewN q)
  (try replace gx := rGIndex_lawful.nix gx ((Keep.refl Nix _).drewN q))
  cases pb with
  | false =>
    have HR : Hid (addIndexF c x tn = (c, 9)) := by show _ = _; rw [HF.out, if_neg (by decide), HNB.out, HPB.out, if_pos (by rfl)]
    clear HF HPC
    obtain ⟨hstR, rowF, HRES, HKF, HIN⟩ := same_back (w := w) rowR rfl (by omega) gc hp kk
    have ld0 := Whole.run (P := Try.prog) S_Catalog hlc row0
    go_wp2_with fail
    refine bodyPost_ret (results_cell_row2 (by rfl) _ _ _ _ _ _ _ (by rfl) rowF Try.underlying25 (by rfl) HIN.out) rfl ?_
    rw [HR.out]
    exact ⟨_, rfl, HRES.out, rGCatalog_ones HRES.out, HKF.out⟩
  | true =>
  cases ub with
  | true =>
    have HR : Hid (addIndexF c x tn = (c, 6)) := by show _ = _; rw [HF.out, if_neg (by decide), HNB.out, HPB.out, if_neg (by decide), if_pos rfl]
    clear HF HPC
    obtain ⟨hstR, rowF, HRES, HKF, HIN⟩ := same_back (w := w) rowR rfl (by omega) gc hp kk
    have ld0 := Whole.run (P := Try.prog) S_Catalog hlc row0
    go_wp2_with fail
    refine bodyPost_ret (results_cell_row2 (by rfl) _ _ _ _ _ _ _ (by rfl) rowF Try.underlying25 (by rfl) HIN.out) rfl ?_
    rw [HR.out]
    exact ⟨_, rfl, HRES.out, rGCatalog_ones HRES.out, HKF.out⟩
  | false =>
  have HRR : Hid (addIndexF c x tn = if 10 ≤ c.fIndexes.length ∨ 1073741824 ≤ c.fNext then (c, 4) else (putX c (newX c x t.fID), 0)) := by show _ = _; rw [HF.out, if_neg (by decide), HNB.out, HPB.out, if_neg (by decide), if_neg (by decide)]
  have mX : c.fIndexes.length ≤ 140737488351232 := by have := hs.2.2.2; omega
  obtain ⟨aT0, cT0, aX0, cX0, rfl, -⟩ := rGCatalog_open gc
  clear HF HPC
  have x3 := row0.cell 3
  (try simp only [List.getElem?_cons_succ] at x3); (try simp only [List.getElem?_cons_zero] at x3)
  have x1 := row0.cell 1
  (try simp only [List.getElem?_cons_succ] at x1); (try simp only [List.getElem?_cons_zero] at x1)
  by_cases hfull : 10 ≤ c.fIndexes.length ∨ 1073741824 ≤ c.fNext
  · have HR : Hid (addIndexF c x tn = (c, 4)) := by show _ = _; rw [HRR.out, if_pos hfull]
    clear HRR
    rcases Nat.lt_or_ge c.fIndexes.length 10 with h6 | h6
    · have h7 : 1073741824 ≤ c.fNext := by omega
      clear hfull
      obtain ⟨hstR, rowF, HRES, HKF, HIN⟩ := same_back (w := w) rowR rfl (by omega) gc hp kk
      have ld0 := Whole.run (P := Try.prog) S_Catalog hlc row0
      go_wp2_with fail
      refine bodyPost_ret (results_cell_row2 (by rfl) _ _ _ _ _ _ _ (by rfl) rowF Try.underlying25 (by rfl) HIN.out) rfl ?_
      rw [HR.out]
      exact ⟨_, rfl, HRES.out, rGCatalog_ones HRES.out, HKF.out⟩
    · clear hfull
      obtain ⟨hstR, rowF, HRES, HKF, HIN⟩ := same_back (w := w) rowR rfl (by omega) gc hp kk
      have ld0 := Whole.run (P := Try.prog) S_Catalog hlc row0
      go_wp2_with fail
      refine bodyPost_ret (results_cell_row2 (by rfl) _ _ _ _ _ _ _ (by rfl) rowF Try.underlying25 (by rfl) HIN.out) rfl ?_
      rw [HR.out]
      exact ⟨_, rfl, HRES.out, rGCatalog_ones HRES.out, HKF.out⟩
  have HRp : Hid (addIndexF c x tn = (putX c (newX c x t.fID), 0)) := by show _ = _; rw [HRR.out, if_neg hfull]
  have h6 : c.fIndexes.length < 10 := by omega
  have h7 : c.fNext < 1073741824 := by omega
  clear hfull HRR
  have ld0 := Whole.run (P := Try.prog) S_Catalog hlc row0
  go_wp2_with fail
  clear ld0 x3 x1
  have kkB := Lib.hid rowR.lt
  have kkT := Lib.hid rowT.lt
  go_fit (Copy_o c _ _ gc hs)
  rintro e w3 ⟨csn, rfl, hOwn, k3⟩
  (try replace row0 := row0.keep k3 id)
  (try replace rowR := rowR.keep k3 id)
  (try replace rowX := rowX.keep k3 id)
  (try replace rowT := rowT.keep k3 id)
  (try replace gc := rGCatalog_lawful.nix gc k3)
  (try replace gt := rGTable_lawful.nix gt k3)
  replace kk := kk.trans k3
  (try replace gx := rGIndex_lawful.nix gx k3)
  have hsz3 := k3.size
  clear k3
  obtain ⟨aN, cN, aM, cM, cssT, cssX, m, rfl, hbm, hmw, ownT, hTlt, elsT, ownX, elsX⟩ := hOwn
  have hXl : Hid (∀ b, OwnB (.slice aM c.fIndexes.length cM) b → m ≤ b ∧ b < w3.heap.size) := fun b hb => ownX.lt b hb
  have hgR : Hid (w.heap.size + 1 + 1 < w3.heap.size) := rowR.lt
  have hgT : Hid (w1.heap.size < w3.heap.size) := rowT.lt
  have hgR' := hgR.out
  have hgT' := hgT.out
  obtain ⟨hst, rowN, kV⟩ := boxed (P := Try.prog) (zs := [.int .i64 0, .int .i64 0, .slice none 0 0, .slice none 0 0]) (cs := [.int .i64 c.fVersion, .int .i64 c.fNext, .slice aN c.fTables.length cN, .slice aM c.fIndexes.length cM]) S_Catalog w3 rfl rfl rfl
  (try replace row0 := row0.keep kV id)
  (try replace rowR := rowR.keep kV id)
  (try replace rowX := rowX.keep kV id)
  (try replace rowT := rowT.keep kV id)
  (try replace gc := rGCatalog_lawful.nix gc kV)
  (try replace gt := rGTable_lawful.nix gt kV)
  replace kk := kk.trans kV
  (try replace gx := rGIndex_lawful.nix gx kV)
  replace ownT := owned_keep ownT kV (fun _ _ h => h)
  replace ownX := owned_keep ownX kV (fun _ _ h => h)
  replace elsT := elsT.keep fGTable_lawful kV (fun _ _ h => h)
  replace elsX := elsX.keep fGIndex_lawful kV (fun _ _ h => h)
  clear kV
  have hw1 : Hid (w.heap.size + 1 < w1.heap.size) := hw1x.out
  have hw1' := hw1.out
  have hS : ∀ w', Keep (· = w.heap.size + 1) ((w3.alloc (.cells #[.int .i64 0, .int .i64 0, .slice none 0 0, .slice none 0 0] 25)).setRow w3.heap.size [.int .i64 c.fVersion, .int .i64 c.fNext, .slice aN c.fTables.length cN, .slice aM c.fIndexes.length cM].toArray) w' → w'.cell? ⟨w.heap.size, 1, none⟩ = some (.int .i64 c.fNext) ∧ w'.cell? ⟨w1.heap.size, 0, none⟩ = some (.int .i64 t.fID) := fun w' k => ⟨(row0.keep k (by omega)).cell 1, (rowT.keep k (by omega)).cell 0⟩
  have HS := Lib.hid hS
  have kZ : Keep (· = w.heap.size + 1) ((w3.alloc (.cells #[.int .i64 0, .int .i64 0, .slice none 0 0, .slice none 0 0] 25)).setRow w3.heap.size [.int .i64 c.fVersion, .int .i64 c.fNext, .slice aN c.fTables.length cN, .slice aM c.fIndexes.length cM].toArray) (((w3.alloc (.cells #[.int .i64 0, .int .i64 0, .slice none 0 0, .slice none 0 0] 25)).setRow w3.heap.size [.int .i64 c.fVersion, .int .i64 c.fNext, .slice aN c.fTables.length cN, .slice aM c.fIndexes.length cM].toArray)).drew := (Keep.refl _ _).drew
  have hVs : Hid (w3.heap.size < (((w3.alloc (.cells #[.int .i64 0, .int .i64 0, .slice none 0 0, .slice none 0 0] 25)).setRow w3.heap.size [.int .i64 c.fVersion, .int .i64 c.fNext, .slice aN c.fTables.length cN, .slice aM c.fIndexes.length cM].toArray)).heap.size) := rowN.lt
  clear hS
  go_wp2_with fail
  clear hst
  refine wp_region_held_drew (S := (fun w' => w'.cell? ⟨w.heap.size, 1, none⟩ = some (.int .i64 c.fNext) ∧ w'.cell? ⟨w1.heap.size, 0, none⟩ = some (.int .i64 t.fID))) (by kernel_rfl) ((HS.out _ kZ)) (fun hHeld => ?_)
  replace rowX := rowX.same (w' := (((w3.alloc (.cells #[.int .i64 0, .int .i64 0, .slice none 0 0, .slice none 0 0] 25)).setRow w3.heap.size [.int .i64 c.fVersion, .int .i64 c.fNext, .slice aN c.fTables.length cN, .slice aM c.fIndexes.length cM].toArray)).drew)
  generalize (((w3.alloc (.cells #[.int .i64 0, .int .i64 0, .slice none 0 0, .slice none 0 0] 25)).setRow w3.heap.size [.int .i64 c.fVersion, .int .i64 c.fNext, .slice aN c.fTables.length cN, .slice aM c.fIndexes.length cM].toArray)).drew = wS at kZ rowX hHeld ⊢
  refine wpAnyH_take (i := 0) (v := ?_) rfl (by kernel_rfl) (by kernel_rfl) (by kernel_rfl) (fun _ _ _ h => h) (Or.inl ⟨by kernel_rfl, ?_⟩) hHeld ?_
  rotate_left
  · intro w' hSw
    (try dsimp only at hSw)
    (try simp only [List.getElem_toArray]); (try simp only [List.getElem_cons_succ]); (try simp only [List.getElem_cons_zero])
    go_simp
    try with_reducible rfl
  (try simp only [Act.put]); (try simp only [List.getElem_toArray]); (try simp only [List.getElem_cons_succ]); (try simp only [List.getElem_cons_zero]); (try simp only [List.setIfInBounds_toArray]); (try simp only [List.set_cons_succ]); (try simp only [List.set_cons_zero])
  refine wpAnyH_take (i := 1) (v := ?_) rfl (by kernel_rfl) (by kernel_rfl) (by kernel_rfl) (fun _ _ _ h => h) (Or.inl ⟨by kernel_rfl, ?_⟩) hHeld ?_
  rotate_left
  · intro w' hSw
    (try dsimp only at hSw)
    (try simp only [List.getElem_toArray]); (try simp only [List.getElem_cons_succ]); (try simp only [List.getElem_cons_zero])
    go_simp
    try with_reducible rfl
  (try simp only [Act.put]); (try simp only [List.getElem_toArray]); (try simp only [List.getElem_cons_succ]); (try simp only [List.getElem_cons_zero]); (try simp only [List.setIfInBounds_toArray]); (try simp only [List.set_cons_succ]); (try simp only [List.set_cons_zero])
  refine wpAnyH_take (i := 2) (v := ?_) rfl (by kernel_rfl) (by kernel_rfl) (by kernel_rfl) (fun _ _ _ h => h) (Or.inl ⟨by kernel_rfl, ?_⟩) hHeld ?_
  rotate_left
  · intro w' hSw
    (try dsimp only at hSw)
    (try simp only [List.getElem_toArray]); (try simp only [List.getElem_cons_succ]); (try simp only [List.getElem_cons_zero])
    go_simp
    try with_reducible rfl
  (try simp only [Act.put]); (try simp only [List.getElem_toArray]); (try simp only [List.getElem_cons_succ]); (try simp only [List.getElem_cons_zero]); (try simp only [List.setIfInBounds_toArray]); (try simp only [List.set_cons_succ]); (try simp only [List.set_cons_zero])
  refine wpAnyH_take (i := 3) (v := ?_) rfl (by kernel_rfl) (by kernel_rfl) (by kernel_rfl) (fun _ _ _ h => h) (Or.inl ⟨by kernel_rfl, ?_⟩) hHeld ?_
  rotate_left
  · intro w' hSw
    (try dsimp only at hSw)
    (try simp only [List.getElem_toArray]); (try simp only [List.getElem_cons_succ]); (try simp only [List.getElem_cons_zero])
    go_simp
    try with_reducible rfl
  (try simp only [Act.put]); (try simp only [List.getElem_toArray]); (try simp only [List.getElem_cons_succ]); (try simp only [List.getElem_cons_zero]); (try simp only [List.setIfInBounds_toArray]); (try simp only [List.set_cons_succ]); (try simp only [List.set_cons_zero])
  refine wpAnyH_take (i := 4) (v := ?_) rfl (by kernel_rfl) (by kernel_rfl) (by kernel_rfl) (fun _ _ _ h => h) (Or.inl ⟨by kernel_rfl, ?_⟩) hHeld ?_
  rotate_left
  · intro w' hSw
    (try dsimp only at hSw)
    (try simp only [List.getElem_toArray]); (try simp only [List.getElem_cons_succ]); (try simp only [List.getElem_cons_zero])
    go_simp
    try with_reducible rfl
  (try simp only [Act.put]); (try simp only [List.getElem_toArray]); (try simp only [List.getElem_cons_succ]); (try simp only [List.getElem_cons_zero]); (try simp only [List.setIfInBounds_toArray]); (try simp only [List.set_cons_succ]); (try simp only [List.set_cons_zero])
  refine wpAnyH_ready (rs := [5]) (by kernel_rfl) (by simp) ?_
  refine AllReadyH.cons rfl (fun K hK => ?_) AllReadyH.nil
  have x2 := rowX.cell 0
  have f2 := rowX.frozen 0
  (try simp only [List.getElem?_cons_succ] at x2); (try simp only [List.getElem?_cons_zero] at x2)
  go_simp
  clear x2 f2
  replace rowX := rowX.set 0 (.int .i64 c.fNext)
  (try simp only [List.set_cons_succ] at rowX); (try simp only [List.set_cons_zero] at rowX)
  replace kZ := kZ.setCell (p := ⟨w.heap.size + 1, 0, none⟩) (fun _ => rfl) (.int .i64 c.fNext)
  refine hK.out _ _ ((HS.out _ kZ)) (fun hHeld => ?_)
  clear hK K
  (try simp only [Act.put]); (try simp only [List.getElem_toArray]); (try simp only [List.getElem_cons_succ]); (try simp only [List.getElem_cons_zero]); (try simp only [List.setIfInBounds_toArray]); (try simp only [List.set_cons_succ]); (try simp only [List.set_cons_zero])
  refine wpAnyH_take (i := 6) (v := ?_) rfl (by kernel_rfl) (by kernel_rfl) (by kernel_rfl) (fun _ _ _ h => h) (Or.inl ⟨by kernel_rfl, ?_⟩) hHeld ?_
  rotate_left
  · intro w' hSw
    (try dsimp only at hSw)
    (try simp only [List.getElem_toArray]); (try simp only [List.getElem_cons_succ]); (try simp only [List.getElem_cons_zero])
    go_simp
    try with_reducible rfl
  (try simp only [Act.put]); (try simp only [List.getElem_toArray]); (try simp only [List.getElem_cons_succ]); (try simp only [List.getElem_cons_zero]); (try simp only [List.setIfInBounds_toArray]); (try simp only [List.set_cons_succ]); (try simp only [List.set_cons_zero])
  refine wpAnyH_ready (rs := [7]) (by kernel_rfl) (by simp) ?_
  refine AllReadyH.cons rfl (fun K hK => ?_) AllReadyH.nil
  have x2 := rowX.cell 1
  have f2 := rowX.frozen 1
  (try simp only [List.getElem?_cons_succ] at x2); (try simp only [List.getElem?_cons_zero] at x2)
  go_simp
  clear x2 f2
  replace rowX := rowX.set 1 (.int .i64 t.fID)
  (try simp only [List.set_cons_succ] at rowX); (try simp only [List.set_cons_zero] at rowX)
  replace kZ := kZ.setCell (p := ⟨w.heap.size + 1, 1, none⟩) (fun _ => rfl) (.int .i64 t.fID)
  refine hK.out _ _ ((HS.out _ kZ)) (fun hHeld => ?_)
  clear hK K
  (try simp only [Act.put]); (try simp only [List.getElem_toArray]); (try simp only [List.getElem_cons_succ]); (try simp only [List.getElem_cons_zero]); (try simp only [List.setIfInBounds_toArray]); (try simp only [List.set_cons_succ]); (try simp only [List.set_cons_zero])
  refine wpAnyH_take (i := 8) (v := ?_) rfl (by kernel_rfl) (by kernel_rfl) (by kernel_rfl) (fun _ _ _ h => h) (Or.inl ⟨by kernel_rfl, ?_⟩) hHeld ?_
  rotate_left
  · intro w' hSw
    (try dsimp only at hSw)
    (try simp only [List.getElem_toArray]); (try simp only [List.getElem_cons_succ]); (try simp only [List.getElem_cons_zero])
    go_simp
    try with_reducible rfl
  (try simp only [Act.put]); (try simp only [List.getElem_toArray]); (try simp only [List.getElem_cons_succ]); (try simp only [List.getElem_cons_zero]); (try simp only [List.setIfInBounds_toArray]); (try simp only [List.set_cons_succ]); (try simp only [List.set_cons_zero])
  refine wpAnyH_ready (rs := [9]) (by kernel_rfl) (by simp) ?_
  refine AllReadyH.cons rfl (fun K hK => ?_) AllReadyH.nil
  have x2 := rowX.cell 5
  have f2 := rowX.frozen 5
  (try simp only [List.getElem?_cons_succ] at x2); (try simp only [List.getElem?_cons_zero] at x2)
  go_simp
  clear x2 f2
  replace rowX := rowX.set 5 (.int .i64 1)
  (try simp only [List.set_cons_succ] at rowX); (try simp only [List.set_cons_zero] at rowX)
  replace kZ := kZ.setCell (p := ⟨w.heap.size + 1, 5, none⟩) (fun _ => rfl) (.int .i64 1)
  refine hK.out _ _ ((HS.out _ kZ)) (fun hHeld => ?_)
  clear hK K
  (try simp only [Act.put]); (try simp only [List.getElem_toArray]); (try simp only [List.getElem_cons_succ]); (try simp only [List.getElem_cons_zero]); (try simp only [List.setIfInBounds_toArray]); (try simp only [List.set_cons_succ]); (try simp only [List.set_cons_zero])
  refine wpAnyH_take (i := 10) (v := ?_) rfl (by kernel_rfl) (by kernel_rfl) (by kernel_rfl) (fun _ _ _ h => h) (Or.inl ⟨by kernel_rfl, ?_⟩) hHeld ?_
  rotate_left
  · intro w' hSw
    (try dsimp only at hSw)
    (try simp only [List.getElem_toArray]); (try simp only [List.getElem_cons_succ]); (try simp only [List.getElem_cons_zero])
    go_simp
    try with_reducible rfl
  (try simp only [Act.put]); (try simp only [List.getElem_toArray]); (try simp only [List.getElem_cons_succ]); (try simp only [List.getElem_cons_zero]); (try simp only [List.setIfInBounds_toArray]); (try simp only [List.set_cons_succ]); (try simp only [List.set_cons_zero])
  refine wpAnyH_ready (rs := [11]) (by kernel_rfl) (by simp) ?_
  refine AllReadyH.cons rfl (fun K hK => ?_) AllReadyH.nil
  have x2 := rowX.cell 6
  have f2 := rowX.frozen 6
  (try simp only [List.getElem?_cons_succ] at x2); (try simp only [List.getElem?_cons_zero] at x2)
  go_simp
  clear x2 f2
  replace rowX := rowX.set 6 (.bool false)
  (try simp only [List.set_cons_succ] at rowX); (try simp only [List.set_cons_zero] at rowX)
  replace kZ := kZ.setCell (p := ⟨w.heap.size + 1, 6, none⟩) (fun _ => rfl) (.bool false)
  refine hK.out _ _ ((HS.out _ kZ)) (fun hHeld => ?_)
  clear hK K
  (try simp only [Act.put]); (try simp only [List.getElem_toArray]); (try simp only [List.getElem_cons_succ]); (try simp only [List.getElem_cons_zero]); (try simp only [List.setIfInBounds_toArray]); (try simp only [List.set_cons_succ]); (try simp only [List.set_cons_zero])
  refine wpAnyH_done (by kernel_rfl) ?_ _
  clear hHeld HS
  generalize (((wS.setCell ⟨w.heap.size + 1, 0, none⟩ (.int .i64 c.fNext)).setCell ⟨w.heap.size + 1, 1, none⟩ (.int .i64 t.fID)).setCell ⟨w.heap.size + 1, 5, none⟩ (.int .i64 1)).setCell ⟨w.heap.size + 1, 6, none⟩ (.bool false) = wA at *
  have hsA := kZ.size
  have hwA : w3.heap.size < wA.heap.size := Nat.lt_of_lt_of_le hVs.out hsA
  have hbm1 : w.heap.size + 1 + 1 < m := by have := kkB.out; omega
  have hTg : ∀ b, OwnB (.slice aN c.fTables.length cN) b → w.heap.size + 1 + 1 < b ∧ b < m := fun b hb => ⟨by have := (ownT.lt b hb).1; have := kkB.out; omega, hTlt b hb⟩
  have hXg : ∀ b, OwnB (.slice aM c.fIndexes.length cM) b → m ≤ b ∧ b < w3.heap.size := fun b hb => hXl.out b hb
  have rowN2 := rowN.keep kZ (by omega)
  have ownT2 := owned_keep ownT kZ (fun b hb e => by have := hTg b hb; omega)
  have ownX2 := owned_keep ownX kZ (fun b hb e => by have := hXg b hb; omega)
  have elsT2 := elsT.keep fGTable_lawful kZ (fun b hb e => by have := hb.1; have := kkB.out; omega)
  have elsX2 := elsX.keep fGIndex_lawful kZ (fun b hb e => by have := hb.1; omega)
  have gx2 := rGIndex_lawful.keep gx kZ (fun b hb e => by have := hp b hb; omega)
  have rowR2 := rowR.keep kZ (by omega)
  have kk2 := kk.then kZ (fun i hi e => by omega)
  have ldX := Whole.run (P := Try.prog) S_Index rfl rowX
  have hls := list_run (P := Try.prog) T_lIndex (by decide) [.int .i64 c.fNext, .int .i64 t.fID, .string (strB x.fName), .slice aI x.fColumns.length cI, .bool x.fUnique, .int .i64 1, .bool false] rfl wA
  have z3 := rowN2.cell 3
  (try simp only [List.getElem?_cons_succ] at z3); (try simp only [List.getElem?_cons_zero] at z3)
  have hmA : m ≤ wA.heap.size := by omega
  clear ownT ownX elsT elsX rowR kk rowT row0 gc
  go_wp2_with (at_builtin; refine wpl_append1_at (c := 1) T_lIndex ?hgd (.tmp 70) (.tmp 72) ?ho _ ?hs ownX2 ?hx ?c0 ?c1 ?c2 ?c3 ?c4 ?_)
  case hgd => rfl
  case ho => rfl
  case hs => rfl
  case hx => rfl
  case c0 => rfl
  case c1 => exact ⟨rfl, rfl, rfl, rfl, rfl, rfl, rfl⟩
  case c2 => unfold maxLen; omega
  case c3 => omega
  case c4 => exact hmA
  intro a7 c7 w7 own7 k7 hfresh
  have hs7 := k7.size
  have hw3 : w3.heap.size < w7.heap.size := by omega
  have h7g : ∀ b, OwnB (.slice a7 (c.fIndexes.length + 1) c7) b → b ≠ w3.heap.size := fun b hb => by
    rcases hfresh b hb with h | h
    · have := hXg b h; omega
    · omega
  have rowN7 := rowN2.keep k7 (fun hb => by have := hXg _ hb; omega)
  have rowR7 := rowR2.keep k7 (fun hb => by have := hXg _ hb; omega)
  have kk7 := kk2.then k7 (fun i hi hb => by have := hXg _ hb; omega)
  have gx7 := rGIndex_lawful.keep gx2 k7 (fun b hb e => by have := hXg _ e; have := hp b hb; omega)
  have ownT7 := owned_keep ownT2 k7 (fun b hb e => by have := hTg _ hb; have := hXg _ e; omega)
  have elsT7 := elsT2.keep fGTable_lawful k7 (fun b hb e => by have := hXg _ e; have := hb.2.1; omega)
  have elsX7 := elsX2.keep fGIndex_lawful k7 (fun b hb e => hb.2.2 e)
  have x3 := rowN7.cell 3
  (try simp only [List.getElem?_cons_succ] at x3); (try simp only [List.getElem?_cons_zero] at x3)
  have f3 := rowN7.frozen 3
  have kN : Keep (· = w3.heap.size) w7 (w7.setCell ⟨w3.heap.size, 3, none⟩ (.slice a7 (c.fIndexes.length + 1) c7)) := (Keep.refl (· = w3.heap.size) w7).setCell (p := ⟨w3.heap.size, 3, none⟩) (fun _ => rfl) _
  obtain ⟨x', hx'⟩ : ∃ x' : GIndex, x' = newX c x t.fID := ⟨_, rfl⟩
  obtain ⟨N1, hN1⟩ : ∃ N1 : GCatalog, N1 = { c with fIndexes := c.fIndexes ++ [x'] } := ⟨_, rfl⟩
  have hne : ∀ b, p b → b ≠ w3.heap.size := fun b hb => by have := hp b hb; omega
  have rI : rGIndex w7 (fun b => b ≠ w3.heap.size) [.int .i64 c.fNext, .int .i64 t.fID, .string (strB x.fName), .slice aI x.fColumns.length cI, .bool x.fUnique, .int .i64 1, .bool false] x' := by
    rw [hx']
    obtain ⟨_, _, e, -, -, z2, z3, -, -⟩ := rGIndex_open gx7
    simp only [List.cons.injEq, Value.slice.injEq, and_true, true_and] at e
    obtain ⟨rfl, rfl⟩ := e
    exact rGIndex_lawful.mono (rGIndex_mk w7 _ (x := newX c x t.fID) hcn ht0 z2 z3 (⟨by decide, by decide⟩ : isI64 1)) hne
  have elsN : Els rGIndex w7 (fun b => b ≠ w3.heap.size) (cssX ++ [[.int .i64 c.fNext, .int .i64 t.fID, .string (strB x.fName), .slice aI x.fColumns.length cI, .bool x.fUnique, .int .i64 1, .bool false]]) (c.fIndexes ++ [x']) :=
    Els.snoc ⟨elsX7.1, fun i cc x h1 h2 => rGIndex_lawful.mono (fGIndex_to (elsX7.2 i cc x h1 h2)) (fun b hb => by have h3 := hb.2.1; omega)⟩ rI
  have hln : (c.fIndexes ++ [x']).length = c.fIndexes.length + 1 := by simp
  have rL : rList rGIndex w7 (fun b => b ≠ w3.heap.size) [.slice a7 (c.fIndexes.length + 1) c7] (c.fIndexes ++ [x']) := by
    rw [← hln]
    exact list_owned (R := rGIndex) (css := cssX ++ [[.int .i64 c.fNext, .int .i64 t.fID, .string (strB x.fName), .slice aI x.fColumns.length cI, .bool x.fUnique, .int .i64 1, .bool false]]) (by rw [hln]; simpa using own7) elsN (by rw [hln]; unfold far; omega) (fun _ _ h => h) (fun b h1 h2 => by rw [hln] at h2; exact h7g b h2)
  have rX : rList rGTable w7 (fun b => b ≠ w3.heap.size) [.slice aN c.fTables.length cN] c.fTables :=
    list_owned (R := fGTable) ownT7 elsT7 (by unfold far; have := hs.2.2.1; omega) (fun _ _ h => rGTable_lawful.mono (fGTable_to h) (fun b hb => by have := hb.2.1; omega)) (fun b h1 h2 => by have := hTg b h2; omega)
  have rN1 : rGCatalog (w7.setCell ⟨w3.heap.size, 3, none⟩ (.slice a7 (c.fIndexes.length + 1) c7)) (fun b => b ≠ w3.heap.size) [.int .i64 c.fVersion, .int .i64 c.fNext, .slice aN c.fTables.length cN, .slice a7 (c.fIndexes.length + 1) c7] N1 := by
    have e : ([.int .i64 c.fVersion, .int .i64 c.fNext, .slice aN c.fTables.length cN, .slice a7 (c.fIndexes.length + 1) c7] : List Value) = [.int .i64 N1.fVersion, .int .i64 N1.fNext, .slice aN N1.fTables.length cN, .slice a7 N1.fIndexes.length c7] := by rw [hN1, hln]
    rw [e]
    refine rGCatalog_mk _ _ (x := N1) (by rw [hN1]; exact hcv) (by rw [hN1]; exact hcn) ?_ ?_
    · rw [hN1]; exact (rList_lawful rGTable_lawful).keep rX kN (fun b hb e => hb e)
    · rw [hN1]; show rList rGIndex _ _ [.slice a7 (c.fIndexes ++ [x']).length c7] (c.fIndexes ++ [x']); rw [hln]
      exact (rList_lawful rGIndex_lawful).keep rL kN (fun b hb e => hb e)
  replace rowN7 := rowN7.set 3 (.slice a7 (c.fIndexes.length + 1) c7)
  simp only [List.set_cons_succ, List.set_cons_zero] at rowN7
  replace rowR7 := rowR7.keep kN (by omega)
  replace kk7 := kk7.then kN (fun i hi e => by omega)
  have hsN : smallC N1 := by
    rw [hN1]
    refine ⟨hs.1, fun q hq => ?_, hs.2.2.1, by show (c.fIndexes ++ [x']).length ≤ 1000; rw [hln]; omega⟩
    rcases List.mem_append.1 hq with hq | hq
    · exact hs.2.1 q hq
    · rw [List.mem_singleton] at hq; subst hq; rw [hx']; exact hsx
  have hcvN : isI64 N1.fVersion := by rw [hN1]; exact hcv
  have hcnN : isI64 N1.fNext := by rw [hN1]; exact hcn
  have hvN : N1.fVersion ≤ 4611686018427387904 := by rw [hN1]; exact hv
  have hnN : N1.fNext < 1073741824 := by rw [hN1]; exact h7
  have hfT : N1.fTables.length ≤ far := by have := hsN.2.2.1; unfold far; omega
  have hfX : N1.fIndexes.length ≤ far := by have := hsN.2.2.2; unfold far; omega
  have HR : Hid (addIndexF c x tn = ({ N1 with fVersion := N1.fVersion + 1, fNext := N1.fNext + 1 }, 0)) := by show _ = _; rw [HRp.out, hN1, hx']; rfl
  clear hN1 hx' HRp rL rX elsN rI elsT7 elsX7 ownT7 own7 gx7 kN hfresh k7 kk2 rowN2 rowR2 gx2 elsT2 elsX2 ownT2 ownX2 rowN
  -- the second copy, stored, counted on, handed back
  have hlN := rGCatalog_lawful.len rN1
  have ldN := Whole.run (P := Try.prog) S_Catalog rfl rowN7
  go_wp2_with fail
  clear ldN
  go_fit (Copy_o N1 _ _ rN1 hsN)
  rintro e w9 ⟨cs9, rfl, hOwn, k9⟩
  have hs9 := k9.size
  have hN := hOwn.read hcvN hcnN hfT hfX
  replace hN := rGCatalog_lawful.mono hN (q := fun b => w3.heap.size < b ∧ b < w9.heap.size) (fun b hb => ⟨by have h1 := hb.1; have := rowN7.lt; simp at h1; omega, hb.2⟩)
  replace rowN7 := rowN7.keep k9 id
  replace rowR7 := rowR7.keep k9 id
  replace kk7 := kk7.trans k9
  clear hOwn k9 rN1 hlN
  obtain ⟨a9, c9, b9, d9, rfl, -⟩ := rGCatalog_open hN
  have hst := store_run (P := Try.prog) (cs := [.int .i64 N1.fVersion, .int .i64 N1.fNext, .slice a9 N1.fTables.length c9, .slice b9 N1.fIndexes.length d9]) S_Catalog rowN7 rfl rfl rfl
  have rowN8 := rowN7.setRow [.int .i64 N1.fVersion, .int .i64 N1.fNext, .slice a9 N1.fTables.length c9, .slice b9 N1.fIndexes.length d9]
  have x1 := rowN8.cell 1
  (try simp only [List.getElem?_cons_succ] at x1); (try simp only [List.getElem?_cons_zero] at x1)
  have f1 := rowN8.frozen 1
  have rowN9 := rowN8.set 1 (.int .i64 (N1.fNext + 1))
  simp only [List.set_cons_succ, List.set_cons_zero] at rowN9
  have x0 := rowN9.cell 0
  (try simp only [List.getElem?_cons_succ] at x0); (try simp only [List.getElem?_cons_zero] at x0)
  have f0 := rowN9.frozen 0
  have rowN10 := rowN9.set 0 (.int .i64 (N1.fVersion + 1))
  simp only [List.set_cons_zero] at rowN10
  have kB : Keep (· = w3.heap.size) w9 (((w9.setRow w3.heap.size #[.int .i64 N1.fVersion, .int .i64 N1.fNext, .slice a9 N1.fTables.length c9, .slice b9 N1.fIndexes.length d9]).setCell ⟨w3.heap.size, 1, none⟩ (.int .i64 (N1.fNext + 1))).setCell ⟨w3.heap.size, 0, none⟩ (.int .i64 (N1.fVersion + 1))) := (((Keep.refl (· = w3.heap.size) w9).setRow (fun _ => rfl) _).setCell (p := ⟨w3.heap.size, 1, none⟩) (fun _ => rfl) _).setCell (p := ⟨w3.heap.size, 0, none⟩) (fun _ => rfl) _
  have i1 : IntKind.i64.wrap (N1.fNext + 1) = N1.fNext + 1 := by have := hcnN.1; rw [IntKind.wrap_i64]; omega
  have i2 : IntKind.i64.wrap (N1.fVersion + 1) = N1.fVersion + 1 := by have := hcvN.1; rw [IntKind.wrap_i64]; omega
  have hsB := kB.size
  have gB := bump (rGCatalog_lawful.keep hN kB (fun b hb e => by have := hb.1; omega)) ⟨by have := hcvN.1; omega, by omega⟩ ⟨by have := hcnN.1; omega, by omega⟩
  have hgr : w.heap.size + 1 + 1 < w3.heap.size := hgR.out
  obtain ⟨hstR, rowF, HRES, HKF, HIN⟩ := new_back (p := p) (w := w) (rowR7.keep kB (by omega)) rfl (by omega) (rGCatalog_lawful.mono gB (fun b hb => ⟨by have := hb.1; omega, Nat.lt_of_lt_of_le hb.2 hsB⟩)) (kk7.then kB (fun i hi e => by omega))
  have ldO := Whole.run (P := Try.prog) S_Catalog rfl rowN10
  clear gB kB hN rowR7 kk7 rowN7 rowN8 rowN9 rowN10
  go_wp2_with fail
  refine bodyPost_ret (results_cell_row2 (by rfl) _ _ _ _ _ _ _ (by rfl) rowF Try.underlying25 (by rfl) HIN.out) rfl ?_
  rw [HR.out]
  exact ⟨_, rfl, HRES.out, rGCatalog_ones HRES.out, HKF.out⟩
end
end Go.Proofs.Ytfogbbnfedcldaa
