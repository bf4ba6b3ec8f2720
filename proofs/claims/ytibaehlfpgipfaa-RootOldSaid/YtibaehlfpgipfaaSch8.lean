/- SCHEMA: which catalogs are right. Printed by gen20.py. -/
import Derived.Test.YtibaehlfpgipfaaSch7
namespace Go.Proofs.Ytibaehlfpgipfaa
open Go.RowKit

def tabOf (c : GCatalog) (d : Int) : GTable × Bool := firstB (fun t => decide (t.fID = d)) c.fTables zTab
def indexB (c : GCatalog) (x : GIndex) : Bool := (tabOf c x.fTable).2 && (nameB x.fName && (placesB (tabOf c x.fTable).1.fColumns.length x.fColumns && decide (1 ≤ x.fState ∧ x.fState ≤ 7)))
section
attribute [local go_sem ↓] ldz_Table stz_Table ldz_Catalog
set_option maxRecDepth 100000 in
set_option maxHeartbeats 8000000 in
theorem srightIndex_c {p : Nat → Prop} (c : GCatalog) (csc : List Value) (x : GIndex) (csx : List Value) (w : World) (hc : rGCatalog w p csc c) (hx : rGIndex w p csx x) (hp : ∀ b, p b → b < w.heap.size) :
    Calls Try.prog 35 #[.agg csc.toArray, .agg csx.toArray] w fun e w' => e = .returned (.bool (indexB c x)) ∧ Keep Nix w w' := by
  obtain ⟨aI, cI, rfl, -, -, hxn, hxc, hxs, -⟩ := rGIndex_open hx
  have hlc := rGCatalog_lawful.len hc
  clear hx
  have row0 : RowIs ((w.alloc (.cells csc.toArray 34)).alloc (.cells #[.int .i64 x.fID, .int .i64 x.fTable, .string (strB x.fName), .slice aI x.fColumns.length cI, .bool x.fUnique, .int .i64 x.fState, .bool x.fBad] 51)) w.heap.size 34 csc := (RowIs.alloc w _ _).keep ((Keep.refl Nix _).alloc _) id
  have rowX : RowIs ((w.alloc (.cells csc.toArray 34)).alloc (.cells #[.int .i64 x.fID, .int .i64 x.fTable, .string (strB x.fName), .slice aI x.fColumns.length cI, .bool x.fUnique, .int .i64 x.fState, .bool x.fBad] 51)) (w.heap.size + 1) 51 [.int .i64 x.fID, .int .i64 x.fTable, .string (strB x.fName), .slice aI x.fColumns.length cI, .bool x.fUnique, .int .i64 x.fState, .bool x.fBad] := RowIs.alloc_at (w.alloc (.cells csc.toArray 34)) _ (by simp) #[.int .i64 x.fID, .int .i64 x.fTable, .string (strB x.fName), .slice aI x.fColumns.length cI, .bool x.fUnique, .int .i64 x.fState, .bool x.fBad] 51
  have kk : Keep Nix w ((w.alloc (.cells csc.toArray 34)).alloc (.cells #[.int .i64 x.fID, .int .i64 x.fTable, .string (strB x.fName), .slice aI x.fColumns.length cI, .bool x.fUnique, .int .i64 x.fState, .bool x.fBad] 51)) := ((Keep.refl Nix w).alloc _).alloc _
  have ld := Whole.row (P := Try.prog) S_Catalog hlc row0
  unfold Whole at ld
  have hB := byID_c c csc x.fTable _ (rGCatalog_lawful.nix hc kk) (fun b hb => Nat.lt_of_lt_of_le (hp b hb) kk.size)
  change Calls _ _ _ _ (FoundIn rGTable p _ (tabOf c x.fTable)) at hB
  have HB := Lib.hid hB
  obtain ⟨y, hy⟩ : ∃ y, Hid (tabOf c x.fTable = y) := ⟨_, rfl⟩
  rw [hy.out] at HB
  have HI : Hid (indexB c x = (y.2 && (nameB x.fName && (placesB y.1.fColumns.length x.fColumns && decide (1 ≤ x.fState ∧ x.fState ≤ 7))))) := by show _ = _; unfold indexB; rw [hy.out]
  clear hB hlc hc hy
  have x1 := rowX.cell 1
  simp only [List.getElem?_cons_succ, List.getElem?_cons_zero] at x1
  go_enter Try.func35, Try.ntmps35
  go_wp2_with fail
  clear ld x1
  go_fit HB.out
  clear HB
  obtain ⟨t, is⟩ := y
  rintro e w1 ⟨cst, rfl, hT, k1⟩
  replace hT : rGTable w1 p cst t := hT
  replace rowX := rowX.keep k1 id
  replace kk := kk.trans k1
  obtain ⟨aC, cC, aK, cK, rfl, -, htn, htC, -, -⟩ := rGTable_open hT
  have nC := (rList_len htC).2.2
  have mC : t.fColumns.length ≤ 140737488351232 := by have := far_len; omega
  have hst := store_run (P := Try.prog) (cs := [.int .i64 t.fID, .string (strB t.fName), .slice aC t.fColumns.length cC, .slice aK t.fKey.length cK]) S_Table (RowIs.alloc w1 #[.int .i64 0, .string { data := #[] }, .slice none 0 0, .slice none 0 0] 49) rfl rfl rfl
  have rowT := (RowIs.alloc w1 #[.int .i64 0, .string { data := #[] }, .slice none 0 0, .slice none 0 0] 49).setRow [.int .i64 t.fID, .string (strB t.fName), .slice aC t.fColumns.length cC, .slice aK t.fKey.length cK]
  have kV : Keep Nix w1 ((w1.alloc (.cells #[.int .i64 0, .string { data := #[] }, .slice none 0 0, .slice none 0 0] 49)).setRow w1.heap.size [.int .i64 t.fID, .string (strB t.fName), .slice aC t.fColumns.length cC, .slice aK t.fKey.length cK].toArray) := ((Keep.refl Nix w1).alloc _).setRow (fun h => absurd h (Nat.lt_irrefl _)) _
  replace rowX := rowX.keep kV id
  replace kk := kk.trans kV
  replace hxc := (rList_lawful (rInt_lawful _)).nix hxc kk
  clear kV k1 hT htC nC
  have x2 := rowX.cell 2
  have x3 := rowX.cell 3
  have x5 := rowX.cell 5
  have y2 := rowT.cell 2
  simp only [List.getElem?_cons_succ, List.getElem?_cons_zero] at x2 x3 x5 y2
  simp only at HI
  cases is with
  | false =>
    go_wp2_with fail
    go_ret
    exact ⟨ret_bool (by rw [HI.out]; rfl), kk⟩
  | true =>
  obtain ⟨bn, hbn⟩ : ∃ b, Hid (nameB x.fName = b) := ⟨_, rfl⟩
  have HN := Lib.hid (fun w' => named_s x.fName w' hxn)
  rw [hbn.out] at HN HI
  cases bn with
  | false =>
    go_wp2_with fail
    go_fit (HN.out _)
    rintro e w2 ⟨rfl, rfl⟩
    go_wp2_with fail
    go_ret
    exact ⟨ret_bool (by rw [HI.out]; rfl), kk⟩
  | true =>
  obtain ⟨bp, hbp⟩ : ∃ b, Hid (placesB t.fColumns.length x.fColumns = b) := ⟨_, rfl⟩
  have HP := Lib.hid (splaces_c aI x.fColumns.length cI x.fColumns t.fColumns.length _ hxc)
  rw [hbp.out] at HP HI
  cases bp with
  | false =>
    go_wp2_with fail
    go_fit (HN.out _)
    rintro e w2 ⟨rfl, rfl⟩
    go_wp2_with fail
    go_fit HP.out
    rintro e w2 ⟨rfl, k2⟩
    replace kk := kk.trans k2
    go_wp2_with fail
    go_ret
    exact ⟨ret_bool (by rw [HI.out]; rfl), kk⟩
  | true =>
  go_wp2_with fail
  go_fit (HN.out _)
  rintro e w2 ⟨rfl, rfl⟩
  go_wp2_with fail
  go_fit HP.out
  rintro e w2 ⟨rfl, k2⟩
  replace kk := kk.trans k2
  replace rowX := rowX.keep k2 id
  clear k2 HP HN hst x2 x3 x5 y2 rowT hxc
  have x5 := rowX.cell 5
  simp only [List.getElem?_cons_succ, List.getElem?_cons_zero] at x5
  go_wp2_with fail
  all_goals
    go_ret
    exact ⟨ret_bool (by rw [HI.out, Bool.true_and, Bool.true_and, Bool.true_and, Bool.eq_iff_iff]; simp only [decide_eq_true_eq, Bool.false_eq_true, false_iff]; omega), kk⟩
end
end Go.Proofs.Ytibaehlfpgipfaa
