/- SCHEMA: the law SchemaLife. Printed by mac.py. -/
import Derived.Test.YtfogbbnfedcldaaSchFc
namespace Go.Proofs.Ytfogbbnfedcldaa
open Go.RowKit

theorem small_LC {c : GCatalog} {z1 : GIndex} (h : smallC c) (h1 : c.fIndexes.length ≤ 10) (h2 : z1.fColumns.length ≤ 1000) (s : Int) (b : Bool) (v : Int) : smallC (LC c z1 s b v) := by
  refine ⟨h.1, fun y hy => ?_, h.2.2.1, ?_⟩
  · rcases List.mem_append.1 (show y ∈ c.fIndexes ++ [endX z1 s b] from hy) with hy | hy
    · exact h.2.1 y hy
    · rw [List.mem_singleton] at hy; subst hy; exact h2
  · show (c.fIndexes ++ [endX z1 s b]).length ≤ 1000
    simp; omega
theorem small_CC {c : GCatalog} (h : smallC c) (v : Int) : smallC (CC c v) := h
theorem small_NC {c : GCatalog} {z1 : GIndex} (h : smallC c) (h1 : c.fIndexes.length ≤ 10) (h2 : z1.fColumns.length ≤ 1000) (bad : Bool) (k : Nat) : smallC (NC c z1 bad k) := by
  unfold NC; split
  · exact small_CC h _
  · exact small_LC h h1 h2 _ _ _
theorem small_MC {c : GCatalog} {z1 : GIndex} (h : smallC c) (h1 : c.fIndexes.length ≤ 10) (h2 : z1.fColumns.length ≤ 1000) (k : Nat) : smallC (MC c z1 k) := by
  unfold MC; split
  · exact small_LC h h1 h2 _ _ _
  · exact small_CC h _
theorem ver_MC (c : GCatalog) (z1 : GIndex) (k : Nat) : (MC c z1 k).fVersion = c.fVersion + 5 + k := by unfold MC; split <;> rfl
theorem add_life {c : GCatalog} {x : GIndex} {tn : List UInt8} (hR : RightP c) : (∃ e, 0 < e ∧ addIndexF c x tn = (c, e)) ∨ ∃ z1 : GIndex, addIndexF c x tn = (LC c z1 1 false (c.fVersion + 1), 0) ∧ z1.fName = x.fName ∧ z1.fColumns = x.fColumns ∧ (∀ y ∈ c.fIndexes, y.fID ≠ z1.fID) ∧ (∀ y ∈ c.fIndexes, y.fName ≠ z1.fName) ∧ isI64 z1.fID := by
  have := addIndexF_to c x tn
  generalize addIndexF c x tn = r at this
  cases this with
  | no e he => exact .inl ⟨e, he, rfl⟩
  | put t ht htn h1 h2 h3 h4 =>
    refine .inr ⟨newX c x t.fID, rfl, rfl, rfl, fun y hy e => ?_, h2, ?_⟩
    · have h5 := (hR.xok y hy).2.1
      have e' : y.fID = c.fNext := e
      omega
    · have := hR.n1
      show -9223372036854775808 ≤ c.fNext ∧ c.fNext ≤ 9223372036854775807
      omega
namespace schemaLife
section
attribute [local go_sem ↓] ldz_Catalog stz_Catalog ldz_Index stz_Index
set_option maxRecDepth 100000 in
set_option maxHeartbeats 32000000 in
theorem walk' (W : World) (c : GCatalog) (csc : List Value) (x : GIndex) (csx : List Value) (tn : List UInt8) (bad : Bool) (hc : rGCatalog W (· < W.heap.size) csc c) (hx : rGIndex W (· < W.heap.size) csx x) :
    Calls Try.prog 7 #[.agg csc.toArray, .agg csx.toArray, .string (strB tn), .bool bad] W fun e w' => e = .returned (.bool true) ∧ Keep Nix W w' := by
  have gc := hc
  have gx := hx
  obtain ⟨hlc, hcv, hcn, nT, nX⟩ := cat_facts hc
  obtain ⟨aT, cT, aX, cX, rfl, -⟩ := rGCatalog_open hc
  obtain ⟨aI, cI, rfl, -, -, -, hq4, -⟩ := rGIndex_open hx
  have mI := (rList_len hq4).2.2
  have hfar := far_len
  have row0 : RowIs ((W.alloc (.cells #[.int .i64 c.fVersion, .int .i64 c.fNext, .slice aT c.fTables.length cT, .slice aX c.fIndexes.length cX] 25)).alloc (.cells #[.int .i64 x.fID, .int .i64 x.fTable, .string (strB x.fName), .slice aI x.fColumns.length cI, .bool x.fUnique, .int .i64 x.fState, .bool x.fBad] 37)) W.heap.size 25 [.int .i64 c.fVersion, .int .i64 c.fNext, .slice aT c.fTables.length cT, .slice aX c.fIndexes.length cX] := (RowIs.alloc W _ _).keep ((Keep.refl Nix _).alloc _) id
  have rowX : RowIs ((W.alloc (.cells #[.int .i64 c.fVersion, .int .i64 c.fNext, .slice aT c.fTables.length cT, .slice aX c.fIndexes.length cX] 25)).alloc (.cells #[.int .i64 x.fID, .int .i64 x.fTable, .string (strB x.fName), .slice aI x.fColumns.length cI, .bool x.fUnique, .int .i64 x.fState, .bool x.fBad] 37)) (W.heap.size + 1) 37 [.int .i64 x.fID, .int .i64 x.fTable, .string (strB x.fName), .slice aI x.fColumns.length cI, .bool x.fUnique, .int .i64 x.fState, .bool x.fBad] := RowIs.alloc_at (W.alloc (.cells #[.int .i64 c.fVersion, .int .i64 c.fNext, .slice aT c.fTables.length cT, .slice aX c.fIndexes.length cX] 25)) _ (by simp) #[.int .i64 x.fID, .int .i64 x.fTable, .string (strB x.fName), .slice aI x.fColumns.length cI, .bool x.fUnique, .int .i64 x.fState, .bool x.fBad] 37
  have kk : Keep Nix W ((W.alloc (.cells #[.int .i64 c.fVersion, .int .i64 c.fNext, .slice aT c.fTables.length cT, .slice aX c.fIndexes.length cX] 25)).alloc (.cells #[.int .i64 x.fID, .int .i64 x.fTable, .string (strB x.fName), .slice aI x.fColumns.length cI, .bool x.fUnique, .int .i64 x.fState, .bool x.fBad] 37)) := ((Keep.refl Nix W).alloc _).alloc _
  replace gc := rGCatalog_lawful.nix gc kk
  replace gx := rGIndex_lawful.nix gx kk
  clear hc hx hq4
  obtain ⟨sb, HSB⟩ : ∃ b, Hid (decide (Small c) = b) := ⟨_, rfl⟩
  obtain ⟨rb, HRB⟩ : ∃ b, Hid (rightB c = b) := ⟨_, rfl⟩
  go_enter Try.func7, Try.ntmps7
  go_wp2_with fail
  go_fit (swake_c _)
  rintro e w1 ⟨rfl, k1⟩
  (try replace row0 := row0.keep k1 id)
  (try replace rowX := rowX.keep k1 id)
  (try replace rowN := rowN.keep k1 id)
  (try replace rowY := rowY.keep k1 id)
  (try replace gc := rGCatalog_lawful.nix gc k1)
  (try replace gx := rGIndex_lawful.nix gx k1)
  (try replace gn := rGCatalog_lawful.nix gn k1)
  replace kk := kk.trans k1
  clear k1
  have ld0 := Whole.run (P := Try.prog) S_Catalog rfl row0
  go_wp2_with fail
  clear ld0
  have HC := small_c c _ _ gc
  rw [HSB.out] at HC
  have HCC := Lib.hid HC
  clear HC
  go_fit HCC.out
  clear HCC
  rintro e w2 ⟨rfl, k2⟩
  (try replace row0 := row0.keep k2 id)
  (try replace rowX := rowX.keep k2 id)
  (try replace rowN := rowN.keep k2 id)
  (try replace rowY := rowY.keep k2 id)
  (try replace gc := rGCatalog_lawful.nix gc k2)
  (try replace gx := rGIndex_lawful.nix gx k2)
  (try replace gn := rGCatalog_lawful.nix gn k2)
  replace kk := kk.trans k2
  clear k2
  cases sb with
  | false =>
    go_wp2_with fail
    go_fit (swake_c _)
    rintro e wz ⟨rfl, kz⟩
    go_wp2_with fail
    go_ret
    exact ⟨rfl, kk.trans kz⟩
  | true =>
  have hsc := (of_decide_eq_true HSB.out).toC
  have HS := Lib.hid hsc
  clear hsc HSB
  have ld0 := Whole.run (P := Try.prog) S_Catalog rfl row0
  go_wp2_with fail
  clear ld0
  have HC := rRight_c c _ _ gc (fun b hb => Nat.lt_of_lt_of_le hb kk.size)
  rw [HRB.out] at HC
  have HCC := Lib.hid HC
  clear HC
  go_fit HCC.out
  clear HCC
  rintro e w3 ⟨rfl, k3⟩
  (try replace row0 := row0.keep k3 id)
  (try replace rowX := rowX.keep k3 id)
  (try replace rowN := rowN.keep k3 id)
  (try replace rowY := rowY.keep k3 id)
  (try replace gc := rGCatalog_lawful.nix gc k3)
  (try replace gx := rGIndex_lawful.nix gx k3)
  (try replace gn := rGCatalog_lawful.nix gn k3)
  replace kk := kk.trans k3
  clear k3
  cases rb with
  | false =>
    go_wp2_with fail
    go_fit (swake_c _)
    rintro e wz ⟨rfl, kz⟩
    go_wp2_with fail
    go_ret
    exact ⟨rfl, kk.trans kz⟩
  | true =>
  have HP := Lib.hid (rightB_iff.1 HRB.out)
  clear HRB
  have x0 := row0.cell 0
  (try simp only [List.getElem?_cons_succ] at x0); (try simp only [List.getElem?_cons_zero] at x0)
  have z3 := rowX.cell 3
  (try simp only [List.getElem?_cons_succ] at z3); (try simp only [List.getElem?_cons_zero] at z3)
  rcases Int.lt_or_le 1099511627776 c.fVersion with hv | hv
  · go_wp2_with fail
    go_fit (swake_c _)
    rintro e wz ⟨rfl, kz⟩
    go_wp2_with fail
    go_ret
    exact ⟨rfl, kk.trans kz⟩
  rcases Int.lt_or_le 20 (x.fColumns.length : Int) with hI | hI
  · go_wp2_with fail
    go_fit (swake_c _)
    rintro e wz ⟨rfl, kz⟩
    go_wp2_with fail
    go_ret
    exact ⟨rfl, kk.trans kz⟩
  have ld0 := Whole.run (P := Try.prog) S_Catalog rfl row0
  have ldX := Whole.run (P := Try.prog) S_Index rfl rowX
  obtain ⟨y, HY⟩ : ∃ y, Hid (addIndexF c x tn = y) := ⟨_, rfl⟩
  go_wp2_with fail
  have hx2 : W.heap.size + 1 < w3.heap.size := rowX.lt
  clear ld0 ldX x0 z3
  have HC := sAddIndex_c c _ x _ tn _ gc gx HS.out (by omega) (by omega) (fun b hb => Nat.lt_of_lt_of_le hb kk.size)
  rw [HY.out] at HC
  have HCC := Lib.hid HC
  clear HC
  go_fit HCC.out
  clear HCC
  rintro e w4 ⟨csn, rfl, gn, ho, k4⟩
  replace gn := rGCatalog_lawful.mono gn (q := fun b => W.heap.size + 1 < b ∧ b < w4.heap.size) (fun b hb => ⟨Nat.lt_of_lt_of_le hx2 hb.1, hb.2⟩)
  (try replace row0 := row0.keep k4 id)
  (try replace rowX := rowX.keep k4 id)
  (try replace rowN := rowN.keep k4 id)
  (try replace rowY := rowY.keep k4 id)
  (try replace gc := rGCatalog_lawful.nix gc k4)
  (try replace gx := rGIndex_lawful.nix gx k4)
  (try replace gn := rGCatalog_lawful.nix gn k4)
  replace kk := kk.trans k4
  have hx4 : W.heap.size + 1 < w4.heap.size := rowX.lt
  clear k4 gc gx
  obtain ⟨hst, rowN, kV⟩ := boxed (P := Try.prog) (zs := [.int .i64 0, .int .i64 0, .slice none 0 0, .slice none 0 0]) S_Catalog w4 rfl (rGCatalog_lawful.len gn) ho
  (try replace row0 := row0.keep kV id)
  (try replace rowX := rowX.keep kV id)
  (try replace rowN := rowN.keep kV id)
  (try replace rowY := rowY.keep kV id)
  (try replace gc := rGCatalog_lawful.nix gc kV)
  (try replace gx := rGIndex_lawful.nix gx kV)
  (try replace gn := rGCatalog_lawful.nix gn kV)
  replace kk := kk.trans kV
  clear kV
  rcases add_life (x := x) (tn := tn) HP.out with ⟨e, he, h⟩ | ⟨z1, h, hz1, hz2, hid, hnm, hi1⟩
  · obtain rfl : y = (c, e) := HY.out.symm.trans h
    clear HY h
    have hne : (e != 0) = true := by rw [bne_iff_ne]; omega
    obtain ⟨bT, dT, bX, dX, rfl, -⟩ := rGCatalog_open gn
    replace rowN : RowIs _ w4.heap.size 25 [.int .i64 c.fVersion, .int .i64 c.fNext, .slice bT c.fTables.length dT, .slice bX c.fIndexes.length dX] := rowN
    have x0 := row0.cell 0
    have n0 := rowN.cell 0
    simp only [List.getElem?_cons_zero] at x0 n0
    go_wp2_with fail
    go_ret
    exact ⟨rfl, kk⟩
  · obtain rfl : y = (LC c z1 1 false (c.fVersion + 1), 0) := HY.out.symm.trans h
    clear HY h
    replace gn : rGCatalog _ _ csn (LC c z1 1 false (c.fVersion + 1)) := gn
    have hsz : c.fIndexes.length ≤ 10 := HP.out.x10
    have hz3 : z1.fColumns.length ≤ 1000 := by rw [hz2]; omega
    have HSN := Lib.hid (fun k => small_NC (z1 := z1) HS.out hsz hz3 bad k)
    have HSM := Lib.hid (fun k => small_MC (z1 := z1) HS.out hsz hz3 k)
    have HSL := Lib.hid (fun s b v => small_LC (z1 := z1) HS.out hsz hz3 s b v)
    have HR1 := Lib.hid (life_round hid hnm bad)
    have HR2 := Lib.hid (fun k (hk : k < 3) => life_away hid hnm k hk)
    have HF1 := life_find hnm 1 false (c.fVersion + 1)
    have HDR : Hid (dropF (NC c z1 false 3) z1.fName = (LC c z1 5 false (c.fVersion + 1 + ((3 : Nat) : Int) + 1), 0)) := life_drop hnm false (c.fVersion + 1 + ((3 : Nat) : Int))
    have HDA := Lib.hid (life_again hnm false (c.fVersion + 1 + ((3 : Nat) : Int) + 1))
    have HGO : Hid (firstB (fun o => decide (o.fName = z1.fName)) (MC c z1 3).fIndexes zIdx = (zIdx, false)) := life_gone hnm (c.fVersion + 5 + ((3 : Nat) : Int))
    have HM0 : Hid (LC c z1 5 false (c.fVersion + 1 + ((3 : Nat) : Int) + 1) = MC c z1 0) := (by
      show LC c z1 5 false (c.fVersion + 1 + ((3 : Nat) : Int) + 1) = LC c z1 (5 + ((0 : Nat) : Int)) false (c.fVersion + 5 + ((0 : Nat) : Int))
      rw [show c.fVersion + 1 + ((3 : Nat) : Int) + 1 = c.fVersion + 5 + ((0 : Nat) : Int) by omega]; rfl)
    have HN0 : Hid (LC c z1 1 false (c.fVersion + 1) = NC c z1 bad 0) := (by
      cases bad
      all_goals
        show LC c z1 1 false (c.fVersion + 1) = LC c z1 1 false (c.fVersion + 1 + ((0 : Nat) : Int))
        rw [show c.fVersion + 1 + ((0 : Nat) : Int) = c.fVersion + 1 by omega])
    have HNM := Lib.hid hz1
    have hv0 := HP.out.v0
    have hn1 := HP.out.n1
    have hn2 := HP.out.n2
    have HNV : Hid ((LC c z1 1 false (c.fVersion + 1)).fVersion = c.fVersion + 1) := rfl
    have HS1 := Lib.hid (HSL.out 1 false (c.fVersion + 1))
    clear hz1 hz2 hid hnm hz3 hi1
    generalize LC c z1 1 false (c.fVersion + 1) = n at gn HF1 HNV HN0 HS1
    obtain ⟨bT, dT, bX, dX, rfl, -⟩ := rGCatalog_open gn
    have ldN := Whole.run (P := Try.prog) S_Catalog rfl rowN
    have x2 := rowX.cell 2
    (try simp only [List.getElem?_cons_succ] at x2); (try simp only [List.getElem?_cons_zero] at x2)
    have HC := sIndex_c n _ x.fName _ gn HS1.out.2.1
    rw [← HNM.out, HF1] at HC
    have HCC := Lib.hid HC
    clear HC HF1
    go_wp2_with fail
    clear ldN x2 hst
    rw [← HNM.out]
    go_fit HCC.out
    rintro e w5 ⟨csy, rfl, gy, k5⟩
    clear HCC
    obtain ⟨aY2, cY2, hcs, -⟩ := fGIndex_open gy
    replace hcs : csy = [.int .i64 z1.fID, .int .i64 z1.fTable, .string (strB z1.fName), .slice aY2 z1.fColumns.length cY2, .bool z1.fUnique, .int .i64 1, .bool false] := hcs
    subst hcs
    have hx9 : w4.heap.size < _ := rowN.lt
    have hx9b := Lib.hid (Nat.lt_of_lt_of_le hx9 k5.size)
    clear hx9
    (try replace row0 := row0.keep k5 id)
    (try replace rowX := rowX.keep k5 id)
    (try replace rowN := rowN.keep k5 id)
    (try replace rowY := rowY.keep k5 id)
    (try replace gc := rGCatalog_lawful.nix gc k5)
    (try replace gx := rGIndex_lawful.nix gx k5)
    (try replace gn := rGCatalog_lawful.nix gn k5)
    replace kk := kk.trans k5
    clear k5 gy
    obtain ⟨hst, rowY, kV⟩ := boxed (P := Try.prog) (zs := [.int .i64 0, .int .i64 0, .string { data := #[] }, .slice none 0 0, .bool false, .int .i64 0, .bool false]) S_Index w5 rfl (cs := [.int .i64 z1.fID, .int .i64 z1.fTable, .string (strB z1.fName), .slice aY2 z1.fColumns.length cY2, .bool z1.fUnique, .int .i64 1, .bool false]) rfl rfl
    (try replace row0 := row0.keep kV id)
    (try replace rowX := rowX.keep kV id)
    (try replace rowN := rowN.keep kV id)
    (try replace rowY := rowY.keep kV id)
    (try replace gc := rGCatalog_lawful.nix gc kV)
    (try replace gx := rGIndex_lawful.nix gx kV)
    (try replace gn := rGCatalog_lawful.nix gn kV)
    replace kk := kk.trans kV
    have hx11 := rowY.lt
    clear kV
    have hx10 := hx9b.out
    clear hx9b
    have x0 := row0.cell 0
    (try simp only [List.getElem?_cons_succ] at x0); (try simp only [List.getElem?_cons_zero] at x0)
    have n0 := rowN.cell 0
    (try simp only [List.getElem?_cons_succ] at n0); (try simp only [List.getElem?_cons_zero] at n0)
    have y5 := rowY.cell 5
    (try simp only [List.getElem?_cons_succ] at y5); (try simp only [List.getElem?_cons_zero] at y5)
    have hq : (n.fVersion != c.fVersion + 1) = false := by rw [bne_eq_false_iff_eq]; exact HNV.out
    cases bad with
    | false =>
      go_wp2_with fail
      clear hst x0 n0 y5 hq
      have hws : ((w5.alloc (.cells #[.int .i64 0, .int .i64 0, .string { data := #[] }, .slice none 0 0, .bool false, .int .i64 0, .bool false] 37)).setRow w5.heap.size ([.int .i64 z1.fID, .int .i64 z1.fTable, .string (strB z1.fName), .slice aY2 z1.fColumns.length cY2, .bool z1.fUnique, .int .i64 1, .bool false] : List Value).toArray).heap.size = w5.heap.size + 1 := by simp
      generalize (w5.alloc (.cells #[.int .i64 0, .int .i64 0, .string { data := #[] }, .slice none 0 0, .bool false, .int .i64 0, .bool false] 37)).setRow w5.heap.size ([.int .i64 z1.fID, .int .i64 z1.fTable, .string (strB z1.fName), .slice aY2 z1.fColumns.length cY2, .bool z1.fUnique, .int .i64 1, .bool false] : List Value).toArray = wb at *
      have rowS : RowIs (wb.alloc (.cells #[.int .i64 2, .int .i64 3, .int .i64 4] 3)) (w5.heap.size + 1) 3 (stV false) := by rw [← hws]; exact RowIs.alloc wb _ _
      have kA : Keep Nix wb (wb.alloc (.cells #[.int .i64 2, .int .i64 3, .int .i64 4] 3)) := (Keep.refl Nix wb).alloc _
      (try replace row0 := row0.keep kA id)
      (try replace rowX := rowX.keep kA id)
      (try replace rowN := rowN.keep kA id)
      (try replace rowY := rowY.keep kA id)
      (try replace gc := rGCatalog_lawful.nix gc kA)
      (try replace gx := rGIndex_lawful.nix gx kA)
      (try replace gn := rGCatalog_lawful.nix gn kA)
      replace kk := kk.trans kA
      have hz := kA.size
      clear kA
      refine LIFE1 _ W.heap.size (W.heap.size + 1) w4.heap.size w5.heap.size (w5.heap.size + 1) 3 c x z1 false aT aX aI cT cX cI _ _ _ _ _ _ _ _ _ _ _ _ _ _ _ _ _ _ _ _ _ _ _ _ _ _ _ _ _ _ _ _ _ _ _ _ _ _ _ _ _ _ _ _ _ _ _ _ _ _ _ _ _ _ _ _ _ _ _ _ _ _ _ _ _ _ _ _ _ _ _ _ _ _ _ _ _ _ _ _ _ _ _ _ _ _ _ _ _ _ _ _ _ _ _ _ _ _ _ _ _ _ _ _ _ _ _ _ _ _ _ _ _ _ _ _ _ _ _ _ _ _ _ _ _ _ _ _ _ _ _ _ _ _ _ _ _ _ _ _ _ _ _ _ _ _ _ _ _ _ _ _ _ _ _ _ _ _ _ _ _ _ _ _ _ _ _ _ _ _ _ _ _ _ _ _ _ _ _ _ _ _ _ _ _ _ _ _ _ _ _ _ _ _ _ _ _ _ _ _ _ _ _ _ _ _ _ _ _ _ _ _ _ _ _ _ _ _ _ _ _ _ _ _ _ _ _ _ _ _ _ _ _ _ _ _ _ _ row0 rowX rowS rowN (by rw [← HN0.out]; exact rGCatalog_lawful.mono gn (fun b hb => ⟨by have := hb.2; omega, by have := hb.2; omega, by have := hb.2; omega⟩)) rowY ⟨_, _, rfl⟩ (by omega) (by omega) (by omega) (by omega) (Lib.hid rfl) HNM hv0 hv (by omega) hn2 HR1 HSN _ (show Shut _ from fun _ u8 u12 u14 u15 u16 u87 u88 u89 u90 u91 u92 u93 u94 u95 u96 u97 u98 u99 u100 u101 u102 u103 u104 u105 u106 u107 u108 u109 u110 u111 u112 u113 u114 u115 u116 u117 u118 u119 u120 u121 u122 u123 u124 u125 u126 u127 u128 u129 u130 u131 u132 u133 u134 u135 u136 u137 u138 u139 u140 u141 u142 u143 u144 u145 u146 u147 u148 u149 u150 u151 u152 u153 u154 u155 u156 u157 u158 u159 u160 u161 u162 u163 u164 u165 u166 u167 u168 u169 u170 u171 u172 u173 u174 u175 u176 csn2 csy2 w6 rowN2 gn2 rowY2 hy2 k6 => ?_) (show Shut _ from fun u12 u14 u15 u16 u87 u88 u89 u90 u91 u92 u93 u94 u95 u96 u97 u98 u99 u100 u101 u102 u103 u104 u105 u106 u107 u108 u109 u110 u111 u112 u113 u114 u115 u116 u117 u118 u119 u120 u121 u122 u123 u124 u125 u126 u127 u128 u129 u130 u131 u132 u133 u134 u135 u136 u137 u138 u139 u140 u141 u142 u143 u144 u145 u146 u147 u148 u149 u150 u151 u152 u153 u154 u155 u156 u157 u158 u159 u160 u161 u162 u163 u164 u165 u166 u167 u168 u169 u170 u171 u172 u173 u174 u175 u176 w6 k6 => ?_)
      · replace row0 := row0.keep k6 (by omega)
        replace rowX := rowX.keep k6 (by omega)
        replace kk := kk.then k6 (fun i hi e => by omega)
        have hxx := rowX.lt
        have hx6 := rowY2.lt
        clear rowN rowY gn k6 rowS
        have hR9 : w4.heap.size < w6.heap.size := rowN2.lt
        have gA := rGCatalog_lawful.mono gn2 (q := fun b => b < w6.heap.size) (fun b hb => hb.1)
        have ldN := Whole.run (P := Try.prog) S_Catalog (rGCatalog_lawful.len gn2) rowN2
        have x2 := rowX.cell 2
        (try simp only [List.getElem?_cons_succ] at x2); (try simp only [List.getElem?_cons_zero] at x2)
        have HC := sDrop_c (NC c z1 false 3) csn2 z1.fName w6 gA (HSN.out 3) (by show c.fVersion + 1 + ((3 : Nat) : Int) ≤ 4611686018427387904; omega)
        rw [HDR.out] at HC
        have HCC := Lib.hid HC
        clear HC
        go_wp2_with fail
        clear ldN x2
        rw [← HNM.out]
        go_fit HCC.out
        rintro e w7 ⟨cs7, rfl, gm, on7, k7⟩
        clear HCC gA gn2 rowN2
        replace gm : rGCatalog w7 (NewIn w6 w7) cs7 (LC c z1 5 false (c.fVersion + 1 + ((3 : Nat) : Int) + 1)) := gm
        rw [HM0.out] at gm
        have hz7 := k7.size
        (try replace row0 := row0.keep k7 id)
        (try replace rowX := rowX.keep k7 id)
        (try replace rowN := rowN.keep k7 id)
        (try replace rowY := rowY.keep k7 id)
        (try replace gc := rGCatalog_lawful.nix gc k7)
        (try replace gx := rGIndex_lawful.nix gx k7)
        (try replace gn := rGCatalog_lawful.nix gn k7)
        replace kk := kk.trans k7
        replace rowY2 := rowY2.keep k7 id
        clear k7
        obtain ⟨hst, rowM, kV⟩ := boxed (P := Try.prog) (zs := [.int .i64 0, .int .i64 0, .slice none 0 0, .slice none 0 0]) S_Catalog w7 rfl (rGCatalog_lawful.len gm) on7
        (try replace row0 := row0.keep kV id)
        (try replace rowX := rowX.keep kV id)
        (try replace rowN := rowN.keep kV id)
        (try replace rowY := rowY.keep kV id)
        (try replace gc := rGCatalog_lawful.nix gc kV)
        (try replace gx := rGIndex_lawful.nix gx kV)
        (try replace gn := rGCatalog_lawful.nix gn kV)
        replace kk := kk.trans kV
        replace rowY2 := rowY2.keep kV id
        replace gm := rGCatalog_lawful.nix gm kV
        have hzM := rowM.lt
        clear kV
        have ldM := Whole.run (P := Try.prog) S_Catalog (rGCatalog_lawful.len gm) rowM
        have x2 := rowX.cell 2
        (try simp only [List.getElem?_cons_succ] at x2); (try simp only [List.getElem?_cons_zero] at x2)
        have HD2 : Hid (dropF (MC c z1 0) z1.fName = (MC c z1 0, 7)) := (by rw [← HM0.out]; exact HDA.out)
        have HC := sDrop_c (MC c z1 0) cs7 z1.fName _ gm (HSM.out 0) (by rw [ver_MC]; omega)
        rw [HD2.out] at HC
        have HCC := Lib.hid HC
        clear HC
        go_wp2_with fail
        clear ldM x2 hst
        rw [← HNM.out]
        go_fit HCC.out
        rintro e w8 ⟨cs8, rfl, gz, on8, k8⟩
        clear HCC
        (try replace row0 := row0.keep k8 id)
        (try replace rowX := rowX.keep k8 id)
        (try replace rowN := rowN.keep k8 id)
        (try replace rowY := rowY.keep k8 id)
        (try replace gc := rGCatalog_lawful.nix gc k8)
        (try replace gx := rGIndex_lawful.nix gx k8)
        (try replace gn := rGCatalog_lawful.nix gn k8)
        replace kk := kk.trans k8
        replace rowY2 := rowY2.keep k8 id
        replace rowM := rowM.keep k8 id
        replace gm := rGCatalog_lawful.nix gm k8
        have hz8 := k8.size
        clear k8
        obtain ⟨hst, rowZ, kV⟩ := boxed (P := Try.prog) (zs := [.int .i64 0, .int .i64 0, .slice none 0 0, .slice none 0 0]) S_Catalog w8 rfl (rGCatalog_lawful.len gz) on8
        (try replace row0 := row0.keep kV id)
        (try replace rowX := rowX.keep kV id)
        (try replace rowN := rowN.keep kV id)
        (try replace rowY := rowY.keep kV id)
        (try replace gc := rGCatalog_lawful.nix gc kV)
        (try replace gx := rGIndex_lawful.nix gx kV)
        (try replace gn := rGCatalog_lawful.nix gn kV)
        replace kk := kk.trans kV
        replace rowY2 := rowY2.keep kV id
        replace rowM := rowM.keep kV id
        replace gm := rGCatalog_lawful.nix gm kV
        have hzV := kV.size
        clear kV rowZ gz
        go_wp2_with fail
        clear hst
        refine LIFE2 _ (W.heap.size + 1) w5.heap.size w7.heap.size c x z1 aI cI _ _ _ _ _ _ _ _ _ _ _ _ _ _ _ _ _ _ _ _ _ _ _ _ _ _ _ _ _ _ _ _ _ _ _ _ _ _ _ _ _ _ _ _ _ _ _ _ _ _ _ _ _ _ _ _ _ _ _ _ _ _ _ _ _ _ _ _ _ _ _ _ _ _ _ _ _ _ _ _ _ _ _ _ _ _ _ _ _ _ _ _ _ _ _ _ _ _ _ _ _ _ _ _ _ _ _ _ _ _ _ _ _ _ _ _ _ _ _ _ _ _ _ _ _ _ _ _ _ _ _ _ _ _ _ _ _ _ _ _ _ _ _ _ _ _ _ _ _ _ _ _ _ _ _ _ _ _ _ _ _ _ _ _ _ _ _ _ _ _ _ _ _ _ _ _ _ _ _ _ _ _ _ _ _ _ _ _ _ _ _ _ _ _ _ _ _ _ _ _ _ _ _ _ _ _ _ _ _ _ _ _ _ _ _ _ _ _ _ _ _ _ _ _ _ _ _ _ _ _ _ _ _ _ _ _ _ _ _ _ _ rowX rowM (rGCatalog_lawful.mono gm (fun b hb => ⟨by have := hb.2; omega, by have := hb.1; omega, by have := hb.2; omega⟩)) rowY2 hy2 (by omega) (by omega) HNM (Lib.hid (fun k hk => by rw [ver_MC]; omega)) HR2 HSM _ (show Shut _ from fun u8 u12 u21 u22 u23 u197 u198 u199 u200 u201 u202 u203 u204 u205 u206 u207 u208 u209 u210 u211 u212 u213 u214 u215 u216 u217 u218 u219 u220 u221 u222 u223 u224 u225 csm w9 rowM2 gm2 k9 => ?_)
        replace row0 := row0.keep k9 (by omega)
        replace rowX := rowX.keep k9 (by omega)
        replace kk := kk.then k9 (fun i hi e => by omega)
        clear k9 rowM gm rowY2
        have HVM := Lib.hid (ver_MC c z1 3)
        have ldM := Whole.run (P := Try.prog) S_Catalog (rGCatalog_lawful.len gm2) rowM2
        have x2 := rowX.cell 2
        (try simp only [List.getElem?_cons_succ] at x2); (try simp only [List.getElem?_cons_zero] at x2)
        have HC := sIndex_c (MC c z1 3) csm z1.fName w9 gm2 (HSM.out 3).2.1
        rw [HGO.out] at HC
        have HCC := Lib.hid HC
        clear HC
        go_wp2_with fail
        clear ldM x2
        rw [← HNM.out]
        go_fit HCC.out
        rintro e wA ⟨csA, rfl, -, kA⟩
        clear HCC
        replace row0 := row0.keep kA id
        replace rowM2 := rowM2.keep kA id
        replace kk := kk.trans kA
        replace gm2 := rGCatalog_lawful.nix gm2 kA
        clear kA
        generalize MC c z1 3 = m at *
        obtain ⟨eT, fT, eX, fX, rfl, -⟩ := rGCatalog_open gm2
        have m0 := rowM2.cell 0
        (try simp only [List.getElem?_cons_succ] at m0); (try simp only [List.getElem?_cons_zero] at m0)
        have x0 := row0.cell 0
        (try simp only [List.getElem?_cons_succ] at x0); (try simp only [List.getElem?_cons_zero] at x0)
        have hq2 : (m.fVersion == c.fVersion + 8) = true := by rw [beq_iff_eq, HVM.out]; omega
        go_wp2_with fail
        go_ret
        exact ⟨rfl, kk⟩
      · go_ret
        exact ⟨rfl, kk.then k6 (fun i hi e => by omega)⟩
    | true =>
      go_wp2_with fail
      clear hst x0 n0 y5 hq
      have hws : ((w5.alloc (.cells #[.int .i64 0, .int .i64 0, .string { data := #[] }, .slice none 0 0, .bool false, .int .i64 0, .bool false] 37)).setRow w5.heap.size ([.int .i64 z1.fID, .int .i64 z1.fTable, .string (strB z1.fName), .slice aY2 z1.fColumns.length cY2, .bool z1.fUnique, .int .i64 1, .bool false] : List Value).toArray).heap.size = w5.heap.size + 1 := by simp
      generalize (w5.alloc (.cells #[.int .i64 0, .int .i64 0, .string { data := #[] }, .slice none 0 0, .bool false, .int .i64 0, .bool false] 37)).setRow w5.heap.size ([.int .i64 z1.fID, .int .i64 z1.fTable, .string (strB z1.fName), .slice aY2 z1.fColumns.length cY2, .bool z1.fUnique, .int .i64 1, .bool false] : List Value).toArray = wb at *
      have rowS : RowIs ((wb.alloc (.cells #[.int .i64 2, .int .i64 3, .int .i64 4] 3)).alloc (.cells #[.int .i64 2, .int .i64 3, .int .i64 6, .int .i64 7, .int .i64 0] 3)) (w5.heap.size + 1 + 1) 3 (stV true) := RowIs.alloc_at _ _ (by simp [hws]) _ _
      have kA : Keep Nix wb ((wb.alloc (.cells #[.int .i64 2, .int .i64 3, .int .i64 4] 3)).alloc (.cells #[.int .i64 2, .int .i64 3, .int .i64 6, .int .i64 7, .int .i64 0] 3)) := ((Keep.refl Nix wb).alloc _).alloc _
      (try replace row0 := row0.keep kA id)
      (try replace rowX := rowX.keep kA id)
      (try replace rowN := rowN.keep kA id)
      (try replace rowY := rowY.keep kA id)
      (try replace gc := rGCatalog_lawful.nix gc kA)
      (try replace gx := rGIndex_lawful.nix gx kA)
      (try replace gn := rGCatalog_lawful.nix gn kA)
      replace kk := kk.trans kA
      have hz := kA.size
      clear kA
      refine LIFE1 _ W.heap.size (W.heap.size + 1) w4.heap.size w5.heap.size (w5.heap.size + 1 + 1) 5 c x z1 true aT aX aI cT cX cI _ _ _ _ _ _ _ _ _ _ _ _ _ _ _ _ _ _ _ _ _ _ _ _ _ _ _ _ _ _ _ _ _ _ _ _ _ _ _ _ _ _ _ _ _ _ _ _ _ _ _ _ _ _ _ _ _ _ _ _ _ _ _ _ _ _ _ _ _ _ _ _ _ _ _ _ _ _ _ _ _ _ _ _ _ _ _ _ _ _ _ _ _ _ _ _ _ _ _ _ _ _ _ _ _ _ _ _ _ _ _ _ _ _ _ _ _ _ _ _ _ _ _ _ _ _ _ _ _ _ _ _ _ _ _ _ _ _ _ _ _ _ _ _ _ _ _ _ _ _ _ _ _ _ _ _ _ _ _ _ _ _ _ _ _ _ _ _ _ _ _ _ _ _ _ _ _ _ _ _ _ _ _ _ _ _ _ _ _ _ _ _ _ _ _ _ _ _ _ _ _ _ _ _ _ _ _ _ _ _ _ _ _ _ _ _ _ _ _ _ _ _ _ _ _ _ _ _ _ _ _ _ _ _ _ _ _ _ row0 rowX rowS rowN (by rw [← HN0.out]; exact rGCatalog_lawful.mono gn (fun b hb => ⟨by have := hb.2; omega, by have := hb.2; omega, by have := hb.2; omega⟩)) rowY ⟨_, _, rfl⟩ (by omega) (by omega) (by omega) (by omega) (Lib.hid rfl) HNM hv0 hv (by omega) hn2 HR1 HSN _ (show Shut _ from fun h => nomatch h) (show Shut _ from fun u12 u14 u15 u16 u87 u88 u89 u90 u91 u92 u93 u94 u95 u96 u97 u98 u99 u100 u101 u102 u103 u104 u105 u106 u107 u108 u109 u110 u111 u112 u113 u114 u115 u116 u117 u118 u119 u120 u121 u122 u123 u124 u125 u126 u127 u128 u129 u130 u131 u132 u133 u134 u135 u136 u137 u138 u139 u140 u141 u142 u143 u144 u145 u146 u147 u148 u149 u150 u151 u152 u153 u154 u155 u156 u157 u158 u159 u160 u161 u162 u163 u164 u165 u166 u167 u168 u169 u170 u171 u172 u173 u174 u175 u176 w6 k6 => ?_)
      go_ret
      exact ⟨rfl, kk.then k6 (fun i hi e => by omega)⟩
end
theorem walk {m0 m1 m2 m3 : Nat} (W : World) (v0 v1 v2 v3 : Value) (h0 : Arg Try.prog W m0 25 v0) (h1 : Arg Try.prog W m1 37 v1) (h2 : Arg Try.prog W m2 9 v2) (h3 : Arg Try.prog W m3 4 v3) :
    Calls Try.prog 7 #[v0, v1, v2, v3] W fun e w' => e = .returned (.bool true) ∧ Keep Nix W w' := by
  obtain ⟨cs0, rfl, r0⟩ := h0.struct Try.underlying25
  obtain ⟨cs1, rfl, r1⟩ := h1.struct Try.underlying37
  obtain ⟨s, rfl, -⟩ := h2.string Try.underlying9
  obtain ⟨b, rfl⟩ := h3.bool Try.underlying4
  obtain ⟨c, g0, -⟩ := redGCatalog r0
  obtain ⟨x, g1, -⟩ := redGIndex r1
  obtain ⟨l, rfl⟩ : ∃ l, s = strB l := ⟨s.data.toList, by cases s; simp [strB]⟩
  exact walk' W c cs0 x cs1 l b g0 g1
end schemaLife
end Go.Proofs.Ytfogbbnfedcldaa
