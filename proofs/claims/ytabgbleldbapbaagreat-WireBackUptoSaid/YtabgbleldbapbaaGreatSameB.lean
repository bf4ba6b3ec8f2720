/- COMPARISONS of things that are alike. Printed by gen11.py. -/
import Derived.Test.YtabgbleldbapbaaGreatSameA
import Derived.Test.YtabgbleldbapbaaGreatGetE
import Derived.Deep.RegionHeld3
namespace Go.Proofs.YtabgbleldbapbaaGreat
open Go.RowKit

set_option maxRecDepth 100000 in
set_option maxHeartbeats 8000000 in
theorem sCatalog_c {p q : Nat → Prop} (w : World) (x : GCatalog) (ca cb : List Value) (ha : rGCatalog w p ca x) (hb : rGCatalog w q cb x) : Calls Tryz.prog 20 #[.agg ca.toArray, .agg cb.toArray] w fun e w' => e = .returned (.bool true) ∧ Keep Nix w w' := by
  obtain ⟨apTables, cpTables, apIndexes, cpIndexes, rfl, h0, h1, h2, h3, -⟩ := rGCatalog_open ha
  obtain ⟨aqTables, cqTables, aqIndexes, cqIndexes, rfl, g0, g1, g2, g3, -⟩ := rGCatalog_open hb
  have hsz : (w.alloc (.cells #[.int .i64 x.fVersion, .int .i64 x.fNext, .slice apTables x.fTables.length cpTables, .slice apIndexes x.fIndexes.length cpIndexes] 50)).heap.size = w.heap.size + 1 := by simp
  have rowA : RowIs ((w.alloc (.cells #[.int .i64 x.fVersion, .int .i64 x.fNext, .slice apTables x.fTables.length cpTables, .slice apIndexes x.fIndexes.length cpIndexes] 50)).alloc (.cells #[.int .i64 x.fVersion, .int .i64 x.fNext, .slice aqTables x.fTables.length cqTables, .slice aqIndexes x.fIndexes.length cqIndexes] 50)) w.heap.size 50 [.int .i64 x.fVersion, .int .i64 x.fNext, .slice apTables x.fTables.length cpTables, .slice apIndexes x.fIndexes.length cpIndexes] := (RowIs.alloc w _ _).keep ((Keep.refl Nix _).alloc _) id
  have rowB : RowIs ((w.alloc (.cells #[.int .i64 x.fVersion, .int .i64 x.fNext, .slice apTables x.fTables.length cpTables, .slice apIndexes x.fIndexes.length cpIndexes] 50)).alloc (.cells #[.int .i64 x.fVersion, .int .i64 x.fNext, .slice aqTables x.fTables.length cqTables, .slice aqIndexes x.fIndexes.length cqIndexes] 50)) (w.heap.size + 1) 50 [.int .i64 x.fVersion, .int .i64 x.fNext, .slice aqTables x.fTables.length cqTables, .slice aqIndexes x.fIndexes.length cqIndexes] := by
    rw [← hsz]
    exact RowIs.alloc (w.alloc (.cells #[.int .i64 x.fVersion, .int .i64 x.fNext, .slice apTables x.fTables.length cpTables, .slice apIndexes x.fIndexes.length cpIndexes] 50)) _ _
  have kk : Keep Nix w ((w.alloc (.cells #[.int .i64 x.fVersion, .int .i64 x.fNext, .slice apTables x.fTables.length cpTables, .slice apIndexes x.fIndexes.length cpIndexes] 50)).alloc (.cells #[.int .i64 x.fVersion, .int .i64 x.fNext, .slice aqTables x.fTables.length cqTables, .slice aqIndexes x.fIndexes.length cqIndexes] 50)) := ((Keep.refl Nix w).alloc _).alloc _
  clear hsz ha hb
  clear h0 g0
  clear h1 g1
  replace h2 := (rList_lawful rGTable_lawful).nix h2 kk
  replace g2 := (rList_lawful rGTable_lawful).nix g2 kk
  replace h3 := (rList_lawful rGIndex_lawful).nix h3 kk
  replace g3 := (rList_lawful rGIndex_lawful).nix g3 kk
  go_enter Tryz.func20, Tryz.ntmps20
  go_wp2_with fail
  go_fit (sm_Table _ x.fTables _ _ _ _ _ _ h2 g2)
  rintro e w1 ⟨rfl, k1⟩
  replace rowA := rowA.keep k1 id
  replace rowB := rowB.keep k1 id
  replace kk := kk.trans k1
  replace h3 := (rList_lawful rGIndex_lawful).nix h3 k1
  replace g3 := (rList_lawful rGIndex_lawful).nix g3 k1
  clear k1
  clear h2 g2
  have xa3 : w1.cell? ⟨w.heap.size, 3, none⟩ = some (.slice apIndexes x.fIndexes.length cpIndexes) := rowA.cell 3
  have xb3 : w1.cell? ⟨w.heap.size + 1, 3, none⟩ = some (.slice aqIndexes x.fIndexes.length cqIndexes) := rowB.cell 3
  go_wp2_with fail
  clear xa3 xb3
  go_fit (sm_Index _ x.fIndexes _ _ _ _ _ _ h3 g3)
  rintro e w2 ⟨rfl, k1⟩
  replace rowA := rowA.keep k1 id
  replace rowB := rowB.keep k1 id
  replace kk := kk.trans k1
  clear k1
  clear h3 g3
  go_wp2
  go_ret
  exact ⟨by first | rfl | simp, kk⟩
set_option maxRecDepth 100000 in
set_option maxHeartbeats 8000000 in
theorem sRoutes_c {p q : Nat → Prop} (w : World) (x : GRoutes) (ca cb : List Value) (ha : rGRoutes w p ca x) (hb : rGRoutes w q cb x) : Calls Tryz.prog 68 #[.agg ca.toArray, .agg cb.toArray] w fun e w' => e = .returned (.bool true) ∧ Keep Nix w w' := by
  obtain ⟨apSpans, cpSpans, apCut, cpCut, rfl, h0, h1, h2, h3, h4, -⟩ := rGRoutes_open ha
  obtain ⟨aqSpans, cqSpans, aqCut, cqCut, rfl, g0, g1, g2, g3, g4, -⟩ := rGRoutes_open hb
  have hsz : (w.alloc (.cells #[.int .i64 x.fEpoch, .int .i64 x.fBase, .slice apSpans x.fSpans.length cpSpans, .int .i64 x.fMoving, .slice apCut x.fCut.length cpCut] 53)).heap.size = w.heap.size + 1 := by simp
  have rowA : RowIs ((w.alloc (.cells #[.int .i64 x.fEpoch, .int .i64 x.fBase, .slice apSpans x.fSpans.length cpSpans, .int .i64 x.fMoving, .slice apCut x.fCut.length cpCut] 53)).alloc (.cells #[.int .i64 x.fEpoch, .int .i64 x.fBase, .slice aqSpans x.fSpans.length cqSpans, .int .i64 x.fMoving, .slice aqCut x.fCut.length cqCut] 53)) w.heap.size 53 [.int .i64 x.fEpoch, .int .i64 x.fBase, .slice apSpans x.fSpans.length cpSpans, .int .i64 x.fMoving, .slice apCut x.fCut.length cpCut] := (RowIs.alloc w _ _).keep ((Keep.refl Nix _).alloc _) id
  have rowB : RowIs ((w.alloc (.cells #[.int .i64 x.fEpoch, .int .i64 x.fBase, .slice apSpans x.fSpans.length cpSpans, .int .i64 x.fMoving, .slice apCut x.fCut.length cpCut] 53)).alloc (.cells #[.int .i64 x.fEpoch, .int .i64 x.fBase, .slice aqSpans x.fSpans.length cqSpans, .int .i64 x.fMoving, .slice aqCut x.fCut.length cqCut] 53)) (w.heap.size + 1) 53 [.int .i64 x.fEpoch, .int .i64 x.fBase, .slice aqSpans x.fSpans.length cqSpans, .int .i64 x.fMoving, .slice aqCut x.fCut.length cqCut] := by
    rw [← hsz]
    exact RowIs.alloc (w.alloc (.cells #[.int .i64 x.fEpoch, .int .i64 x.fBase, .slice apSpans x.fSpans.length cpSpans, .int .i64 x.fMoving, .slice apCut x.fCut.length cpCut] 53)) _ _
  have kk : Keep Nix w ((w.alloc (.cells #[.int .i64 x.fEpoch, .int .i64 x.fBase, .slice apSpans x.fSpans.length cpSpans, .int .i64 x.fMoving, .slice apCut x.fCut.length cpCut] 53)).alloc (.cells #[.int .i64 x.fEpoch, .int .i64 x.fBase, .slice aqSpans x.fSpans.length cqSpans, .int .i64 x.fMoving, .slice aqCut x.fCut.length cqCut] 53)) := ((Keep.refl Nix w).alloc _).alloc _
  clear hsz ha hb
  clear h0 g0
  clear h1 g1
  replace h2 := (rList_lawful rGOwner_lawful).nix h2 kk
  replace g2 := (rList_lawful rGOwner_lawful).nix g2 kk
  clear h3 g3
  replace h4 := h4.1.keep kk (fun _ _ h => h)
  replace g4 := g4.1.keep kk (fun _ _ h => h)
  go_enter Tryz.func68, Tryz.ntmps68
  go_wp2_with fail
  go_fit (sm_Owner _ x.fSpans _ _ _ _ _ _ h2 g2)
  rintro e w1 ⟨rfl, k1⟩
  replace rowA := rowA.keep k1 id
  replace rowB := rowB.keep k1 id
  replace kk := kk.trans k1
  replace h4 := h4.keep k1 (fun _ _ h => h)
  replace g4 := g4.keep k1 (fun _ _ h => h)
  clear k1
  clear h2 g2
  have xa3 : w1.cell? ⟨w.heap.size, 3, none⟩ = some (.int .i64 x.fMoving) := rowA.cell 3
  have xb3 : w1.cell? ⟨w.heap.size + 1, 3, none⟩ = some (.int .i64 x.fMoving) := rowB.cell 3
  have xa4 : w1.cell? ⟨w.heap.size, 4, none⟩ = some (.slice apCut x.fCut.length cpCut) := rowA.cell 4
  have xb4 : w1.cell? ⟨w.heap.size + 1, 4, none⟩ = some (.slice aqCut x.fCut.length cqCut) := rowB.cell 4
  go_wp2_with fail
  clear xa3 xb3 xa4 xb4
  go_fit (bytesT_c _ _ _ _ _ _ x.fCut _ rfl rfl h4 g4)
  rintro e w2' ⟨rfl, rfl⟩
  clear h4 g4
  go_wp2
  go_ret
  exact ⟨by first | rfl | simp, kk⟩
set_option maxRecDepth 100000 in
set_option maxHeartbeats 8000000 in
theorem sOp_c {p q : Nat → Prop} (w : World) (x : GOp) (ca cb : List Value) (ha : rGOp w p ca x) (hb : rGOp w q cb x) : Calls Tryz.prog 72 #[.agg ca.toArray, .agg cb.toArray] w fun e w' => e = .returned (.bool true) ∧ Keep Nix w w' := by
  obtain ⟨apRow, cpRow, apKey, cpKey, apSet, cpSet, apFrom, cpFrom, apTo, cpTo, apNames, cpNames, rfl, h0, h1, h2, h3, h4, h5, h6, h7, h8, h10, -⟩ := rGOp_open ha
  obtain ⟨aqRow, cqRow, aqKey, cqKey, aqSet, cqSet, aqFrom, cqFrom, aqTo, cqTo, aqNames, cqNames, rfl, g0, g1, g2, g3, g4, g5, g6, g7, g8, g10, -⟩ := rGOp_open hb
  have hsz : (w.alloc (.cells #[.int .i64 x.fKind, .string (strB x.fTable), .string (strB x.fIndex), .slice apRow x.fRow.length cpRow, .slice apKey x.fKey.length cpKey, .slice apSet x.fSet.length cpSet, .slice apFrom x.fFrom.length cpFrom, .slice apTo x.fTo.length cpTo, .int .i64 x.fLimit, .bool x.fReverse, .slice apNames x.fNames.length cpNames] 135)).heap.size = w.heap.size + 1 := by simp
  have rowA : RowIs ((w.alloc (.cells #[.int .i64 x.fKind, .string (strB x.fTable), .string (strB x.fIndex), .slice apRow x.fRow.length cpRow, .slice apKey x.fKey.length cpKey, .slice apSet x.fSet.length cpSet, .slice apFrom x.fFrom.length cpFrom, .slice apTo x.fTo.length cpTo, .int .i64 x.fLimit, .bool x.fReverse, .slice apNames x.fNames.length cpNames] 135)).alloc (.cells #[.int .i64 x.fKind, .string (strB x.fTable), .string (strB x.fIndex), .slice aqRow x.fRow.length cqRow, .slice aqKey x.fKey.length cqKey, .slice aqSet x.fSet.length cqSet, .slice aqFrom x.fFrom.length cqFrom, .slice aqTo x.fTo.length cqTo, .int .i64 x.fLimit, .bool x.fReverse, .slice aqNames x.fNames.length cqNames] 135)) w.heap.size 135 [.int .i64 x.fKind, .string (strB x.fTable), .string (strB x.fIndex), .slice apRow x.fRow.length cpRow, .slice apKey x.fKey.length cpKey, .slice apSet x.fSet.length cpSet, .slice apFrom x.fFrom.length cpFrom, .slice apTo x.fTo.length cpTo, .int .i64 x.fLimit, .bool x.fReverse, .slice apNames x.fNames.length cpNames] := (RowIs.alloc w _ _).keep ((Keep.refl Nix _).alloc _) id
  have rowB : RowIs ((w.alloc (.cells #[.int .i64 x.fKind, .string (strB x.fTable), .string (strB x.fIndex), .slice apRow x.fRow.length cpRow, .slice apKey x.fKey.length cpKey, .slice apSet x.fSet.length cpSet, .slice apFrom x.fFrom.length cpFrom, .slice apTo x.fTo.length cpTo, .int .i64 x.fLimit, .bool x.fReverse, .slice apNames x.fNames.length cpNames] 135)).alloc (.cells #[.int .i64 x.fKind, .string (strB x.fTable), .string (strB x.fIndex), .slice aqRow x.fRow.length cqRow, .slice aqKey x.fKey.length cqKey, .slice aqSet x.fSet.length cqSet, .slice aqFrom x.fFrom.length cqFrom, .slice aqTo x.fTo.length cqTo, .int .i64 x.fLimit, .bool x.fReverse, .slice aqNames x.fNames.length cqNames] 135)) (w.heap.size + 1) 135 [.int .i64 x.fKind, .string (strB x.fTable), .string (strB x.fIndex), .slice aqRow x.fRow.length cqRow, .slice aqKey x.fKey.length cqKey, .slice aqSet x.fSet.length cqSet, .slice aqFrom x.fFrom.length cqFrom, .slice aqTo x.fTo.length cqTo, .int .i64 x.fLimit, .bool x.fReverse, .slice aqNames x.fNames.length cqNames] := by
    rw [← hsz]
    exact RowIs.alloc (w.alloc (.cells #[.int .i64 x.fKind, .string (strB x.fTable), .string (strB x.fIndex), .slice apRow x.fRow.length cpRow, .slice apKey x.fKey.length cpKey, .slice apSet x.fSet.length cpSet, .slice apFrom x.fFrom.length cpFrom, .slice apTo x.fTo.length cpTo, .int .i64 x.fLimit, .bool x.fReverse, .slice apNames x.fNames.length cpNames] 135)) _ _
  have kk : Keep Nix w ((w.alloc (.cells #[.int .i64 x.fKind, .string (strB x.fTable), .string (strB x.fIndex), .slice apRow x.fRow.length cpRow, .slice apKey x.fKey.length cpKey, .slice apSet x.fSet.length cpSet, .slice apFrom x.fFrom.length cpFrom, .slice apTo x.fTo.length cpTo, .int .i64 x.fLimit, .bool x.fReverse, .slice apNames x.fNames.length cpNames] 135)).alloc (.cells #[.int .i64 x.fKind, .string (strB x.fTable), .string (strB x.fIndex), .slice aqRow x.fRow.length cqRow, .slice aqKey x.fKey.length cqKey, .slice aqSet x.fSet.length cqSet, .slice aqFrom x.fFrom.length cqFrom, .slice aqTo x.fTo.length cqTo, .int .i64 x.fLimit, .bool x.fReverse, .slice aqNames x.fNames.length cqNames] 135)) := ((Keep.refl Nix w).alloc _).alloc _
  clear hsz ha hb
  clear h0 g0
  clear h1 g1
  clear h2 g2
  replace h3 := (rList_lawful rGValue_lawful).nix h3 kk
  replace g3 := (rList_lawful rGValue_lawful).nix g3 kk
  replace h4 := (rList_lawful rGValue_lawful).nix h4 kk
  replace g4 := (rList_lawful rGValue_lawful).nix g4 kk
  replace h5 := (rList_lawful rGSet_lawful).nix h5 kk
  replace g5 := (rList_lawful rGSet_lawful).nix g5 kk
  replace h6 := (rList_lawful rGValue_lawful).nix h6 kk
  replace g6 := (rList_lawful rGValue_lawful).nix g6 kk
  replace h7 := (rList_lawful rGValue_lawful).nix h7 kk
  replace g7 := (rList_lawful rGValue_lawful).nix g7 kk
  clear h8 g8
  replace h10 := (rList_lawful rBytes_lawful).nix h10 kk
  replace g10 := (rList_lawful rBytes_lawful).nix g10 kk
  go_enter Tryz.func72, Tryz.ntmps72
  go_wp2_with fail
  go_fit (pl_Value _ x.fRow _ _ _ _ _ _ h3 g3)
  rintro e w1 ⟨rfl, k1⟩
  replace rowA := rowA.keep k1 id
  replace rowB := rowB.keep k1 id
  replace kk := kk.trans k1
  replace h4 := (rList_lawful rGValue_lawful).nix h4 k1
  replace g4 := (rList_lawful rGValue_lawful).nix g4 k1
  replace h5 := (rList_lawful rGSet_lawful).nix h5 k1
  replace g5 := (rList_lawful rGSet_lawful).nix g5 k1
  replace h6 := (rList_lawful rGValue_lawful).nix h6 k1
  replace g6 := (rList_lawful rGValue_lawful).nix g6 k1
  replace h7 := (rList_lawful rGValue_lawful).nix h7 k1
  replace g7 := (rList_lawful rGValue_lawful).nix g7 k1
  replace h10 := (rList_lawful rBytes_lawful).nix h10 k1
  replace g10 := (rList_lawful rBytes_lawful).nix g10 k1
  clear k1
  clear h3 g3
  have xa4 : w1.cell? ⟨w.heap.size, 4, none⟩ = some (.slice apKey x.fKey.length cpKey) := rowA.cell 4
  have xb4 : w1.cell? ⟨w.heap.size + 1, 4, none⟩ = some (.slice aqKey x.fKey.length cqKey) := rowB.cell 4
  go_wp2_with fail
  clear xa4 xb4
  go_fit (pl_Value _ x.fKey _ _ _ _ _ _ h4 g4)
  rintro e w2 ⟨rfl, k1⟩
  replace rowA := rowA.keep k1 id
  replace rowB := rowB.keep k1 id
  replace kk := kk.trans k1
  replace h5 := (rList_lawful rGSet_lawful).nix h5 k1
  replace g5 := (rList_lawful rGSet_lawful).nix g5 k1
  replace h6 := (rList_lawful rGValue_lawful).nix h6 k1
  replace g6 := (rList_lawful rGValue_lawful).nix g6 k1
  replace h7 := (rList_lawful rGValue_lawful).nix h7 k1
  replace g7 := (rList_lawful rGValue_lawful).nix g7 k1
  replace h10 := (rList_lawful rBytes_lawful).nix h10 k1
  replace g10 := (rList_lawful rBytes_lawful).nix g10 k1
  clear k1
  clear h4 g4
  have xa5 : w2.cell? ⟨w.heap.size, 5, none⟩ = some (.slice apSet x.fSet.length cpSet) := rowA.cell 5
  have xb5 : w2.cell? ⟨w.heap.size + 1, 5, none⟩ = some (.slice aqSet x.fSet.length cqSet) := rowB.cell 5
  go_wp2_with fail
  clear xa5 xb5
  go_fit (pl_Set _ x.fSet _ _ _ _ _ _ h5 g5)
  rintro e w3 ⟨rfl, k1⟩
  replace rowA := rowA.keep k1 id
  replace rowB := rowB.keep k1 id
  replace kk := kk.trans k1
  replace h6 := (rList_lawful rGValue_lawful).nix h6 k1
  replace g6 := (rList_lawful rGValue_lawful).nix g6 k1
  replace h7 := (rList_lawful rGValue_lawful).nix h7 k1
  replace g7 := (rList_lawful rGValue_lawful).nix g7 k1
  replace h10 := (rList_lawful rBytes_lawful).nix h10 k1
  replace g10 := (rList_lawful rBytes_lawful).nix g10 k1
  clear k1
  clear h5 g5
  have xa6 : w3.cell? ⟨w.heap.size, 6, none⟩ = some (.slice apFrom x.fFrom.length cpFrom) := rowA.cell 6
  have xb6 : w3.cell? ⟨w.heap.size + 1, 6, none⟩ = some (.slice aqFrom x.fFrom.length cqFrom) := rowB.cell 6
  go_wp2_with fail
  clear xa6 xb6
  go_fit (pl_Value _ x.fFrom _ _ _ _ _ _ h6 g6)
  rintro e w4 ⟨rfl, k1⟩
  replace rowA := rowA.keep k1 id
  replace rowB := rowB.keep k1 id
  replace kk := kk.trans k1
  replace h7 := (rList_lawful rGValue_lawful).nix h7 k1
  replace g7 := (rList_lawful rGValue_lawful).nix g7 k1
  replace h10 := (rList_lawful rBytes_lawful).nix h10 k1
  replace g10 := (rList_lawful rBytes_lawful).nix g10 k1
  clear k1
  clear h6 g6
  have xa7 : w4.cell? ⟨w.heap.size, 7, none⟩ = some (.slice apTo x.fTo.length cpTo) := rowA.cell 7
  have xb7 : w4.cell? ⟨w.heap.size + 1, 7, none⟩ = some (.slice aqTo x.fTo.length cqTo) := rowB.cell 7
  go_wp2_with fail
  clear xa7 xb7
  go_fit (pl_Value _ x.fTo _ _ _ _ _ _ h7 g7)
  rintro e w5 ⟨rfl, k1⟩
  replace rowA := rowA.keep k1 id
  replace rowB := rowB.keep k1 id
  replace kk := kk.trans k1
  replace h10 := (rList_lawful rBytes_lawful).nix h10 k1
  replace g10 := (rList_lawful rBytes_lawful).nix g10 k1
  clear k1
  clear h7 g7
  have xa8 : w5.cell? ⟨w.heap.size, 8, none⟩ = some (.int .i64 x.fLimit) := rowA.cell 8
  have xb8 : w5.cell? ⟨w.heap.size + 1, 8, none⟩ = some (.int .i64 x.fLimit) := rowB.cell 8
  have xa9 : w5.cell? ⟨w.heap.size, 9, none⟩ = some (.bool x.fReverse) := rowA.cell 9
  have xb9 : w5.cell? ⟨w.heap.size + 1, 9, none⟩ = some (.bool x.fReverse) := rowB.cell 9
  have xa10 : w5.cell? ⟨w.heap.size, 10, none⟩ = some (.slice apNames x.fNames.length cpNames) := rowA.cell 10
  have xb10 : w5.cell? ⟨w.heap.size + 1, 10, none⟩ = some (.slice aqNames x.fNames.length cqNames) := rowB.cell 10
  go_wp2_with fail
  clear xa8 xb8 xa9 xb9 xa10 xb10
  go_fit (sm_bytes _ x.fNames _ _ _ _ _ _ h10 g10)
  rintro e w6 ⟨rfl, k1⟩
  replace rowA := rowA.keep k1 id
  replace rowB := rowB.keep k1 id
  replace kk := kk.trans k1
  clear k1
  clear h10 g10
  go_wp2
  go_ret
  exact ⟨by first | rfl | simp, kk⟩
theorem lds_Op (a : Act) (dst : Option Tmp) (x : Operand) (ty : TypeId) (pos : String) (after : Array Edge) (guard : Option (Nat × Bool)) : execOp a.eval { dst := dst, op := .load 135 x, type := ty, pos := pos, after := after, guard := guard } = wholeSem 135 (a.eval x) := rfl
section
attribute [local go_sem ↓] lds_Op
set_option maxRecDepth 100000 in
set_option maxHeartbeats 4000000 in
theorem sm_Op {p q : Nat → Prop} (w : World) (l : List GOp) (a b : Option Addr) (n ca m cb : Nat) (ha : rList rGOp w p [.slice a n ca] l) (hb : rList rGOp w q [.slice b m cb] l) :
    Calls Tryz.prog 71 #[.slice a n ca, .slice b m cb, .func (.func 72) #[] #[]] w fun e w' => e = .returned (.bool true) ∧ Keep Nix w w' := by
  obtain ⟨hn, -, hf⟩ := rList_len ha
  obtain ⟨hm, -, -⟩ := rList_len hb
  subst hn hm
  have hfar : l.length ≤ 9223372036854775807 := by have := far_len; unfold maxLen at this; omega
  clear hf
  have kk0 : Keep Nix w w := Keep.refl _ _
  go_enter Tryz.func71, Tryz.ntmps71
  go_wp2_with fail
  go_loopw [6, 7] (fun r i wr => ∃ k : Nat, k ≤ l.length ∧ i = .int .i64 k ∧ r = .bool false ∧ Keep Nix w wr) (fun _ i _ => l.length - (intOf i).toNat)
  case atStart => exact ⟨0, by omega, rfl, rfl, kk0⟩
  case round =>
    clear kk0
    obtain ⟨k, hk, rfl, rfl, kk⟩ := hrel
    by_cases hlt : k < l.length
    · have hi0 : (0 : Int) ≤ (k : Int) := by omega
      have hi1 : (k : Int) < (l.length : Int) := by omega
      obtain ⟨b1, o1, c1, ca', e1, -, hb1, rA, hcA⟩ := rList_at rGOp_lawful (by decide) ((rList_lawful rGOp_lawful).nix ha kk) k hlt
      obtain ⟨b2, o2, c2, cb', e2, -, hb2, rB, hcB⟩ := rList_at rGOp_lawful (by decide) ((rList_lawful rGOp_lawful).nix hb kk) k hlt
      simp only [List.cons.injEq, Value.slice.injEq, and_true] at e1 e2
      obtain ⟨e1, -, -⟩ := e1
      obtain ⟨e2, -, -⟩ := e2
      subst e1 e2
      clear ha hb
      have hlA := Lib.hid (rGOp_lawful.len rA)
      have hlB := Lib.hid (rGOp_lawful.len rB)
      generalize hv : l[k] = v at rA rB
      clear hv
      go_wp2_with fail
      refine wp_region_held_drew (S := (fun w' => (wholeSem 135 (.pointer (some ⟨b1, o1 + k * 11, none⟩))).run Tryz.prog w' = .ok (.value (.agg ca'.toArray)) w' ∧ (wholeSem 135 (.pointer (some ⟨b2, o2 + k * 11, none⟩))).run Tryz.prog w' = .ok (.value (.agg cb'.toArray)) w')) (by kernel_rfl) ⟨Whole.at (w := wr.drew) S_Op hlA.out hcA, Whole.at (w := wr.drew) S_Op hlB.out hcB⟩ (fun hHeld => ?_)
      refine wpAnyH_take (i := 0) (v := ?_) rfl (by kernel_rfl) (by kernel_rfl) (by kernel_rfl) (fun _ _ _ h => h) (Or.inl ⟨by rfl, ?_⟩) hHeld ?_
      rotate_left
      · intro w' hSw
        (try dsimp only at hSw)
        go_simp
        try with_reducible rfl
      (try simp only [Act.put]); (try simp only [List.setIfInBounds_toArray]); (try simp only [List.set_cons_succ]); (try simp only [List.set_cons_zero])
      refine wpAnyH_take (i := 1) (v := ?_) rfl (by kernel_rfl) (by kernel_rfl) (by kernel_rfl) (fun _ _ _ h => h) (Or.inl ⟨by rfl, ?_⟩) hHeld ?_
      rotate_left
      · intro w' hSw
        (try dsimp only at hSw)
        go_simp
        try with_reducible rfl
      (try simp only [Act.put]); (try simp only [List.setIfInBounds_toArray]); (try simp only [List.set_cons_succ]); (try simp only [List.set_cons_zero])
      refine wpAnyH_take (i := 2) (v := ?_) rfl (by kernel_rfl) (by kernel_rfl) (by kernel_rfl) (fun _ _ _ h => h) (Or.inl ⟨by rfl, ?_⟩) hHeld ?_
      rotate_left
      · intro w' hSw
        (try dsimp only at hSw)
        go_simp
        try with_reducible rfl
      (try simp only [Act.put]); (try simp only [List.setIfInBounds_toArray]); (try simp only [List.set_cons_succ]); (try simp only [List.set_cons_zero])
      refine wpAnyH_take (i := 3) (v := ?_) rfl (by kernel_rfl) (by kernel_rfl) (by kernel_rfl) (fun _ _ _ h => h) (Or.inl ⟨by rfl, ?_⟩) hHeld ?_
      rotate_left
      · intro w' hSw
        (try dsimp only at hSw)
        go_simp
        try with_reducible rfl
      (try simp only [Act.put]); (try simp only [List.setIfInBounds_toArray]); (try simp only [List.set_cons_succ]); (try simp only [List.set_cons_zero])
      refine wpAnyH_take (i := 4) (v := ?_) rfl (by kernel_rfl) (by kernel_rfl) (by kernel_rfl) (fun _ _ _ h => h) (Or.inl ⟨by rfl, ?_⟩) hHeld ?_
      rotate_left
      · intro w' hSw
        (try dsimp only at hSw)
        (try simp only [List.getElem_toArray]); (try simp only [List.getElem_cons_succ]); (try simp only [List.getElem_cons_zero])
        go_simp
        try with_reducible rfl
      (try simp only [Act.put]); (try simp only [List.setIfInBounds_toArray]); (try simp only [List.set_cons_succ]); (try simp only [List.set_cons_zero])
      refine wpAnyH_take (i := 5) (v := ?_) rfl (by kernel_rfl) (by kernel_rfl) (by kernel_rfl) (fun _ _ _ h => h) (Or.inl ⟨by rfl, ?_⟩) hHeld ?_
      rotate_left
      · intro w' hSw
        (try dsimp only at hSw)
        go_simp
        try with_reducible rfl
      (try simp only [Act.put]); (try simp only [List.setIfInBounds_toArray]); (try simp only [List.set_cons_succ]); (try simp only [List.set_cons_zero])
      refine wpAnyH_take (i := 6) (v := ?_) rfl (by kernel_rfl) (by kernel_rfl) (by kernel_rfl) (fun _ _ _ h => h) (Or.inl ⟨by rfl, ?_⟩) hHeld ?_
      rotate_left
      · intro w' hSw
        (try dsimp only at hSw)
        go_simp
        try with_reducible rfl
      (try simp only [Act.put]); (try simp only [List.setIfInBounds_toArray]); (try simp only [List.set_cons_succ]); (try simp only [List.set_cons_zero])
      refine wpAnyH_take (i := 7) (v := ?_) rfl (by kernel_rfl) (by kernel_rfl) (by kernel_rfl) (fun _ _ _ h => h) (Or.inl ⟨by rfl, ?_⟩) hHeld ?_
      rotate_left
      · intro w' hSw
        (try dsimp only at hSw)
        go_simp
        try with_reducible rfl
      (try simp only [Act.put]); (try simp only [List.setIfInBounds_toArray]); (try simp only [List.set_cons_succ]); (try simp only [List.set_cons_zero])
      refine wpAnyH_take (i := 8) (v := ?_) rfl (by kernel_rfl) (by kernel_rfl) (by kernel_rfl) (fun _ _ _ h => h) (Or.inl ⟨by rfl, ?_⟩) hHeld ?_
      rotate_left
      · intro w' hSw
        (try dsimp only at hSw)
        (try simp only [List.getElem_toArray]); (try simp only [List.getElem_cons_succ]); (try simp only [List.getElem_cons_zero])
        go_simp
        try with_reducible rfl
      (try simp only [Act.put]); (try simp only [List.setIfInBounds_toArray]); (try simp only [List.set_cons_succ]); (try simp only [List.set_cons_zero])
      refine wpAnyH_ready (rs := [9]) (by kernel_rfl) (by simp) ?_
      refine AllReadyH.cons rfl (fun K hK => ?_) AllReadyH.nil
      go_simp
      go_fit (sOp_c _ v ca' cb' (rGOp_lawful.nix rA ((Keep.refl Nix wr).drew)) (rGOp_lawful.nix rB ((Keep.refl Nix wr).drew)))
      rintro e w2 ⟨rfl, k2⟩
      replace kk := kk.drew.trans k2
      replace hcA := fun j u hu => (k2.cell (p := ⟨b1, o1 + k * 11 + j, none⟩) hb1 id).trans (hcA j u hu)
      replace hcB := fun j u hu => (k2.cell (p := ⟨b2, o2 + k * 11 + j, none⟩) hb2 id).trans (hcB j u hu)
      clear k2 rA rB
      go_wp2_with fail
      refine hK.out _ _ ⟨Whole.at S_Op hlA.out hcA, Whole.at S_Op hlB.out hcB⟩ (fun hHeld => ?_)
      clear hK K
      (try simp only [Act.put]); (try simp only [List.setIfInBounds_toArray]); (try simp only [List.set_cons_succ]); (try simp only [List.set_cons_zero])
      refine wpAnyH_take (i := 10) (v := ?_) rfl (by kernel_rfl) (by kernel_rfl) (by kernel_rfl) (fun _ _ _ h => h) (Or.inl ⟨by rfl, ?_⟩) hHeld ?_
      rotate_left
      · intro w' hSw
        (try dsimp only at hSw)
        go_simp
        try with_reducible rfl
      (try simp only [Act.put]); (try simp only [List.setIfInBounds_toArray]); (try simp only [List.set_cons_succ]); (try simp only [List.set_cons_zero])
      refine wpAnyH_done (by kernel_rfl) ?_ _
      clear hHeld
      go_wp2
      go_roundw
      case rel => exact ⟨k + 1, by omega, by go_num, rfl, kk⟩
      case measure => simp [intOf]; omega
    · obtain rfl : k = l.length := by omega
      go_wp2_with fail
      go_ret
      exact ⟨rfl, kk⟩
end
set_option maxRecDepth 100000 in
set_option maxHeartbeats 8000000 in
theorem sCall_c {p q : Nat → Prop} (w : World) (x : GCall) (ca cb : List Value) (ha : rGCall w p ca x) (hb : rGCall w q cb x) : Calls Tryz.prog 17 #[.agg ca.toArray, .agg cb.toArray] w fun e w' => e = .returned (.bool true) ∧ Keep Nix w w' := by
  obtain ⟨apData, cpData, rfl, h0, h1, h2, -⟩ := rGCall_open ha
  obtain ⟨aqData, cqData, rfl, g0, g1, g2, -⟩ := rGCall_open hb
  have hsz : (w.alloc (.cells #[.int .u64 x.fClient, .int .u64 x.fSeq, .slice apData x.fData.length cpData] 27)).heap.size = w.heap.size + 1 := by simp
  have rowA : RowIs ((w.alloc (.cells #[.int .u64 x.fClient, .int .u64 x.fSeq, .slice apData x.fData.length cpData] 27)).alloc (.cells #[.int .u64 x.fClient, .int .u64 x.fSeq, .slice aqData x.fData.length cqData] 27)) w.heap.size 27 [.int .u64 x.fClient, .int .u64 x.fSeq, .slice apData x.fData.length cpData] := (RowIs.alloc w _ _).keep ((Keep.refl Nix _).alloc _) id
  have rowB : RowIs ((w.alloc (.cells #[.int .u64 x.fClient, .int .u64 x.fSeq, .slice apData x.fData.length cpData] 27)).alloc (.cells #[.int .u64 x.fClient, .int .u64 x.fSeq, .slice aqData x.fData.length cqData] 27)) (w.heap.size + 1) 27 [.int .u64 x.fClient, .int .u64 x.fSeq, .slice aqData x.fData.length cqData] := by
    rw [← hsz]
    exact RowIs.alloc (w.alloc (.cells #[.int .u64 x.fClient, .int .u64 x.fSeq, .slice apData x.fData.length cpData] 27)) _ _
  have kk : Keep Nix w ((w.alloc (.cells #[.int .u64 x.fClient, .int .u64 x.fSeq, .slice apData x.fData.length cpData] 27)).alloc (.cells #[.int .u64 x.fClient, .int .u64 x.fSeq, .slice aqData x.fData.length cqData] 27)) := ((Keep.refl Nix w).alloc _).alloc _
  clear hsz ha hb
  clear h0 g0
  clear h1 g1
  replace h2 := h2.1.keep kk (fun _ _ h => h)
  replace g2 := g2.1.keep kk (fun _ _ h => h)
  go_enter Tryz.func17, Tryz.ntmps17
  go_wp2_with fail
  go_fit (bytesT_c _ _ _ _ _ _ x.fData _ rfl rfl h2 g2)
  rintro e w1' ⟨rfl, rfl⟩
  clear h2 g2
  go_wp2
  go_ret
  exact ⟨by first | rfl | simp, kk⟩
set_option maxRecDepth 100000 in
set_option maxHeartbeats 8000000 in
theorem sCommand_c {p q : Nat → Prop} (w : World) (x : GCommand) (ca cb : List Value) (ha : rGCommand w p ca x) (hb : rGCommand w q cb x) : Calls Tryz.prog 18 #[.agg ca.toArray, .agg cb.toArray] w fun e w' => e = .returned (.bool true) ∧ Keep Nix w w' := by
  obtain ⟨apKey, cpKey, apSpanFrom, cpSpanFrom, apSpanTo, cpSpanTo, apPairs, cpPairs, apSeens, cpSeens, apWrites, cpWrites, apTableColumns, cpTableColumns, apTableKey, cpTableKey, apIndexColumns, cpIndexColumns, rfl, h0, h1, h2, h3, h4, h5, h7, h8, h9, h10, h11, h12, h13, h14, -⟩ := rGCommand_open ha
  obtain ⟨aqKey, cqKey, aqSpanFrom, cqSpanFrom, aqSpanTo, cqSpanTo, aqPairs, cqPairs, aqSeens, cqSeens, aqWrites, cqWrites, aqTableColumns, cqTableColumns, aqTableKey, cqTableKey, aqIndexColumns, cqIndexColumns, rfl, g0, g1, g2, g3, g4, g5, g7, g8, g9, g10, g11, g12, g13, g14, -⟩ := rGCommand_open hb
  have hsz : (w.alloc (.cells #[.int .i64 x.fKind, .int .i64 x.fEpoch, .int .u64 x.fTxn, .int .i64 x.fN, .int .i64 x.fFrom, .int .i64 x.fTo, .bool x.fFlag, .slice apKey x.fKey.length cpKey, .slice apSpanFrom x.fSpan.fFrom.length cpSpanFrom, .slice apSpanTo x.fSpan.fTo.length cpSpanTo, .slice apPairs x.fPairs.length cpPairs, .slice apSeens x.fSeens.length cpSeens, .slice apWrites x.fWrites.length cpWrites, .int .i64 x.fTable.fID, .string (strB x.fTable.fName), .slice apTableColumns x.fTable.fColumns.length cpTableColumns, .slice apTableKey x.fTable.fKey.length cpTableKey, .int .i64 x.fIndex.fID, .int .i64 x.fIndex.fTable, .string (strB x.fIndex.fName), .slice apIndexColumns x.fIndex.fColumns.length cpIndexColumns, .bool x.fIndex.fUnique, .int .i64 x.fIndex.fState, .bool x.fIndex.fBad, .string (strB x.fName)] 43)).heap.size = w.heap.size + 1 := by simp
  have rowA : RowIs ((w.alloc (.cells #[.int .i64 x.fKind, .int .i64 x.fEpoch, .int .u64 x.fTxn, .int .i64 x.fN, .int .i64 x.fFrom, .int .i64 x.fTo, .bool x.fFlag, .slice apKey x.fKey.length cpKey, .slice apSpanFrom x.fSpan.fFrom.length cpSpanFrom, .slice apSpanTo x.fSpan.fTo.length cpSpanTo, .slice apPairs x.fPairs.length cpPairs, .slice apSeens x.fSeens.length cpSeens, .slice apWrites x.fWrites.length cpWrites, .int .i64 x.fTable.fID, .string (strB x.fTable.fName), .slice apTableColumns x.fTable.fColumns.length cpTableColumns, .slice apTableKey x.fTable.fKey.length cpTableKey, .int .i64 x.fIndex.fID, .int .i64 x.fIndex.fTable, .string (strB x.fIndex.fName), .slice apIndexColumns x.fIndex.fColumns.length cpIndexColumns, .bool x.fIndex.fUnique, .int .i64 x.fIndex.fState, .bool x.fIndex.fBad, .string (strB x.fName)] 43)).alloc (.cells #[.int .i64 x.fKind, .int .i64 x.fEpoch, .int .u64 x.fTxn, .int .i64 x.fN, .int .i64 x.fFrom, .int .i64 x.fTo, .bool x.fFlag, .slice aqKey x.fKey.length cqKey, .slice aqSpanFrom x.fSpan.fFrom.length cqSpanFrom, .slice aqSpanTo x.fSpan.fTo.length cqSpanTo, .slice aqPairs x.fPairs.length cqPairs, .slice aqSeens x.fSeens.length cqSeens, .slice aqWrites x.fWrites.length cqWrites, .int .i64 x.fTable.fID, .string (strB x.fTable.fName), .slice aqTableColumns x.fTable.fColumns.length cqTableColumns, .slice aqTableKey x.fTable.fKey.length cqTableKey, .int .i64 x.fIndex.fID, .int .i64 x.fIndex.fTable, .string (strB x.fIndex.fName), .slice aqIndexColumns x.fIndex.fColumns.length cqIndexColumns, .bool x.fIndex.fUnique, .int .i64 x.fIndex.fState, .bool x.fIndex.fBad, .string (strB x.fName)] 43)) w.heap.size 43 [.int .i64 x.fKind, .int .i64 x.fEpoch, .int .u64 x.fTxn, .int .i64 x.fN, .int .i64 x.fFrom, .int .i64 x.fTo, .bool x.fFlag, .slice apKey x.fKey.length cpKey, .slice apSpanFrom x.fSpan.fFrom.length cpSpanFrom, .slice apSpanTo x.fSpan.fTo.length cpSpanTo, .slice apPairs x.fPairs.length cpPairs, .slice apSeens x.fSeens.length cpSeens, .slice apWrites x.fWrites.length cpWrites, .int .i64 x.fTable.fID, .string (strB x.fTable.fName), .slice apTableColumns x.fTable.fColumns.length cpTableColumns, .slice apTableKey x.fTable.fKey.length cpTableKey, .int .i64 x.fIndex.fID, .int .i64 x.fIndex.fTable, .string (strB x.fIndex.fName), .slice apIndexColumns x.fIndex.fColumns.length cpIndexColumns, .bool x.fIndex.fUnique, .int .i64 x.fIndex.fState, .bool x.fIndex.fBad, .string (strB x.fName)] := (RowIs.alloc w _ _).keep ((Keep.refl Nix _).alloc _) id
  have rowB : RowIs ((w.alloc (.cells #[.int .i64 x.fKind, .int .i64 x.fEpoch, .int .u64 x.fTxn, .int .i64 x.fN, .int .i64 x.fFrom, .int .i64 x.fTo, .bool x.fFlag, .slice apKey x.fKey.length cpKey, .slice apSpanFrom x.fSpan.fFrom.length cpSpanFrom, .slice apSpanTo x.fSpan.fTo.length cpSpanTo, .slice apPairs x.fPairs.length cpPairs, .slice apSeens x.fSeens.length cpSeens, .slice apWrites x.fWrites.length cpWrites, .int .i64 x.fTable.fID, .string (strB x.fTable.fName), .slice apTableColumns x.fTable.fColumns.length cpTableColumns, .slice apTableKey x.fTable.fKey.length cpTableKey, .int .i64 x.fIndex.fID, .int .i64 x.fIndex.fTable, .string (strB x.fIndex.fName), .slice apIndexColumns x.fIndex.fColumns.length cpIndexColumns, .bool x.fIndex.fUnique, .int .i64 x.fIndex.fState, .bool x.fIndex.fBad, .string (strB x.fName)] 43)).alloc (.cells #[.int .i64 x.fKind, .int .i64 x.fEpoch, .int .u64 x.fTxn, .int .i64 x.fN, .int .i64 x.fFrom, .int .i64 x.fTo, .bool x.fFlag, .slice aqKey x.fKey.length cqKey, .slice aqSpanFrom x.fSpan.fFrom.length cqSpanFrom, .slice aqSpanTo x.fSpan.fTo.length cqSpanTo, .slice aqPairs x.fPairs.length cqPairs, .slice aqSeens x.fSeens.length cqSeens, .slice aqWrites x.fWrites.length cqWrites, .int .i64 x.fTable.fID, .string (strB x.fTable.fName), .slice aqTableColumns x.fTable.fColumns.length cqTableColumns, .slice aqTableKey x.fTable.fKey.length cqTableKey, .int .i64 x.fIndex.fID, .int .i64 x.fIndex.fTable, .string (strB x.fIndex.fName), .slice aqIndexColumns x.fIndex.fColumns.length cqIndexColumns, .bool x.fIndex.fUnique, .int .i64 x.fIndex.fState, .bool x.fIndex.fBad, .string (strB x.fName)] 43)) (w.heap.size + 1) 43 [.int .i64 x.fKind, .int .i64 x.fEpoch, .int .u64 x.fTxn, .int .i64 x.fN, .int .i64 x.fFrom, .int .i64 x.fTo, .bool x.fFlag, .slice aqKey x.fKey.length cqKey, .slice aqSpanFrom x.fSpan.fFrom.length cqSpanFrom, .slice aqSpanTo x.fSpan.fTo.length cqSpanTo, .slice aqPairs x.fPairs.length cqPairs, .slice aqSeens x.fSeens.length cqSeens, .slice aqWrites x.fWrites.length cqWrites, .int .i64 x.fTable.fID, .string (strB x.fTable.fName), .slice aqTableColumns x.fTable.fColumns.length cqTableColumns, .slice aqTableKey x.fTable.fKey.length cqTableKey, .int .i64 x.fIndex.fID, .int .i64 x.fIndex.fTable, .string (strB x.fIndex.fName), .slice aqIndexColumns x.fIndex.fColumns.length cqIndexColumns, .bool x.fIndex.fUnique, .int .i64 x.fIndex.fState, .bool x.fIndex.fBad, .string (strB x.fName)] := by
    rw [← hsz]
    exact RowIs.alloc (w.alloc (.cells #[.int .i64 x.fKind, .int .i64 x.fEpoch, .int .u64 x.fTxn, .int .i64 x.fN, .int .i64 x.fFrom, .int .i64 x.fTo, .bool x.fFlag, .slice apKey x.fKey.length cpKey, .slice apSpanFrom x.fSpan.fFrom.length cpSpanFrom, .slice apSpanTo x.fSpan.fTo.length cpSpanTo, .slice apPairs x.fPairs.length cpPairs, .slice apSeens x.fSeens.length cpSeens, .slice apWrites x.fWrites.length cpWrites, .int .i64 x.fTable.fID, .string (strB x.fTable.fName), .slice apTableColumns x.fTable.fColumns.length cpTableColumns, .slice apTableKey x.fTable.fKey.length cpTableKey, .int .i64 x.fIndex.fID, .int .i64 x.fIndex.fTable, .string (strB x.fIndex.fName), .slice apIndexColumns x.fIndex.fColumns.length cpIndexColumns, .bool x.fIndex.fUnique, .int .i64 x.fIndex.fState, .bool x.fIndex.fBad, .string (strB x.fName)] 43)) _ _
  have kk : Keep Nix w ((w.alloc (.cells #[.int .i64 x.fKind, .int .i64 x.fEpoch, .int .u64 x.fTxn, .int .i64 x.fN, .int .i64 x.fFrom, .int .i64 x.fTo, .bool x.fFlag, .slice apKey x.fKey.length cpKey, .slice apSpanFrom x.fSpan.fFrom.length cpSpanFrom, .slice apSpanTo x.fSpan.fTo.length cpSpanTo, .slice apPairs x.fPairs.length cpPairs, .slice apSeens x.fSeens.length cpSeens, .slice apWrites x.fWrites.length cpWrites, .int .i64 x.fTable.fID, .string (strB x.fTable.fName), .slice apTableColumns x.fTable.fColumns.length cpTableColumns, .slice apTableKey x.fTable.fKey.length cpTableKey, .int .i64 x.fIndex.fID, .int .i64 x.fIndex.fTable, .string (strB x.fIndex.fName), .slice apIndexColumns x.fIndex.fColumns.length cpIndexColumns, .bool x.fIndex.fUnique, .int .i64 x.fIndex.fState, .bool x.fIndex.fBad, .string (strB x.fName)] 43)).alloc (.cells #[.int .i64 x.fKind, .int .i64 x.fEpoch, .int .u64 x.fTxn, .int .i64 x.fN, .int .i64 x.fFrom, .int .i64 x.fTo, .bool x.fFlag, .slice aqKey x.fKey.length cqKey, .slice aqSpanFrom x.fSpan.fFrom.length cqSpanFrom, .slice aqSpanTo x.fSpan.fTo.length cqSpanTo, .slice aqPairs x.fPairs.length cqPairs, .slice aqSeens x.fSeens.length cqSeens, .slice aqWrites x.fWrites.length cqWrites, .int .i64 x.fTable.fID, .string (strB x.fTable.fName), .slice aqTableColumns x.fTable.fColumns.length cqTableColumns, .slice aqTableKey x.fTable.fKey.length cqTableKey, .int .i64 x.fIndex.fID, .int .i64 x.fIndex.fTable, .string (strB x.fIndex.fName), .slice aqIndexColumns x.fIndex.fColumns.length cqIndexColumns, .bool x.fIndex.fUnique, .int .i64 x.fIndex.fState, .bool x.fIndex.fBad, .string (strB x.fName)] 43)) := ((Keep.refl Nix w).alloc _).alloc _
  clear hsz ha hb
  clear h0 g0
  clear h1 g1
  clear h2 g2
  clear h3 g3
  clear h4 g4
  clear h5 g5
  replace h7 := h7.1.keep kk (fun _ _ h => h)
  replace g7 := g7.1.keep kk (fun _ _ h => h)
  replace h8 := rGSpan_lawful.nix h8 kk
  replace g8 := rGSpan_lawful.nix g8 kk
  replace h9 := (rList_lawful rGPair_lawful).nix h9 kk
  replace g9 := (rList_lawful rGPair_lawful).nix g9 kk
  replace h10 := (rList_lawful rGSeen_lawful).nix h10 kk
  replace g10 := (rList_lawful rGSeen_lawful).nix g10 kk
  replace h11 := (rList_lawful rGWrite_lawful).nix h11 kk
  replace g11 := (rList_lawful rGWrite_lawful).nix g11 kk
  replace h12 := rGTable_lawful.nix h12 kk
  replace g12 := rGTable_lawful.nix g12 kk
  replace h13 := rGIndex_lawful.nix h13 kk
  replace g13 := rGIndex_lawful.nix g13 kk
  clear h14 g14
  go_enter Tryz.func18, Tryz.ntmps18
  go_wp2_with fail
  go_fit (bytesT_c _ _ _ _ _ _ x.fKey _ rfl rfl h7 g7)
  rintro e w1' ⟨rfl, rfl⟩
  clear h7 g7
  have xa8 : ((w.alloc (.cells #[.int .i64 x.fKind, .int .i64 x.fEpoch, .int .u64 x.fTxn, .int .i64 x.fN, .int .i64 x.fFrom, .int .i64 x.fTo, .bool x.fFlag, .slice apKey x.fKey.length cpKey, .slice apSpanFrom x.fSpan.fFrom.length cpSpanFrom, .slice apSpanTo x.fSpan.fTo.length cpSpanTo, .slice apPairs x.fPairs.length cpPairs, .slice apSeens x.fSeens.length cpSeens, .slice apWrites x.fWrites.length cpWrites, .int .i64 x.fTable.fID, .string (strB x.fTable.fName), .slice apTableColumns x.fTable.fColumns.length cpTableColumns, .slice apTableKey x.fTable.fKey.length cpTableKey, .int .i64 x.fIndex.fID, .int .i64 x.fIndex.fTable, .string (strB x.fIndex.fName), .slice apIndexColumns x.fIndex.fColumns.length cpIndexColumns, .bool x.fIndex.fUnique, .int .i64 x.fIndex.fState, .bool x.fIndex.fBad, .string (strB x.fName)] 43)).alloc (.cells #[.int .i64 x.fKind, .int .i64 x.fEpoch, .int .u64 x.fTxn, .int .i64 x.fN, .int .i64 x.fFrom, .int .i64 x.fTo, .bool x.fFlag, .slice aqKey x.fKey.length cqKey, .slice aqSpanFrom x.fSpan.fFrom.length cqSpanFrom, .slice aqSpanTo x.fSpan.fTo.length cqSpanTo, .slice aqPairs x.fPairs.length cqPairs, .slice aqSeens x.fSeens.length cqSeens, .slice aqWrites x.fWrites.length cqWrites, .int .i64 x.fTable.fID, .string (strB x.fTable.fName), .slice aqTableColumns x.fTable.fColumns.length cqTableColumns, .slice aqTableKey x.fTable.fKey.length cqTableKey, .int .i64 x.fIndex.fID, .int .i64 x.fIndex.fTable, .string (strB x.fIndex.fName), .slice aqIndexColumns x.fIndex.fColumns.length cqIndexColumns, .bool x.fIndex.fUnique, .int .i64 x.fIndex.fState, .bool x.fIndex.fBad, .string (strB x.fName)] 43)).cell? ⟨w.heap.size, 8, none⟩ = some (.slice apSpanFrom x.fSpan.fFrom.length cpSpanFrom) := rowA.cell 8
  have xb8 : ((w.alloc (.cells #[.int .i64 x.fKind, .int .i64 x.fEpoch, .int .u64 x.fTxn, .int .i64 x.fN, .int .i64 x.fFrom, .int .i64 x.fTo, .bool x.fFlag, .slice apKey x.fKey.length cpKey, .slice apSpanFrom x.fSpan.fFrom.length cpSpanFrom, .slice apSpanTo x.fSpan.fTo.length cpSpanTo, .slice apPairs x.fPairs.length cpPairs, .slice apSeens x.fSeens.length cpSeens, .slice apWrites x.fWrites.length cpWrites, .int .i64 x.fTable.fID, .string (strB x.fTable.fName), .slice apTableColumns x.fTable.fColumns.length cpTableColumns, .slice apTableKey x.fTable.fKey.length cpTableKey, .int .i64 x.fIndex.fID, .int .i64 x.fIndex.fTable, .string (strB x.fIndex.fName), .slice apIndexColumns x.fIndex.fColumns.length cpIndexColumns, .bool x.fIndex.fUnique, .int .i64 x.fIndex.fState, .bool x.fIndex.fBad, .string (strB x.fName)] 43)).alloc (.cells #[.int .i64 x.fKind, .int .i64 x.fEpoch, .int .u64 x.fTxn, .int .i64 x.fN, .int .i64 x.fFrom, .int .i64 x.fTo, .bool x.fFlag, .slice aqKey x.fKey.length cqKey, .slice aqSpanFrom x.fSpan.fFrom.length cqSpanFrom, .slice aqSpanTo x.fSpan.fTo.length cqSpanTo, .slice aqPairs x.fPairs.length cqPairs, .slice aqSeens x.fSeens.length cqSeens, .slice aqWrites x.fWrites.length cqWrites, .int .i64 x.fTable.fID, .string (strB x.fTable.fName), .slice aqTableColumns x.fTable.fColumns.length cqTableColumns, .slice aqTableKey x.fTable.fKey.length cqTableKey, .int .i64 x.fIndex.fID, .int .i64 x.fIndex.fTable, .string (strB x.fIndex.fName), .slice aqIndexColumns x.fIndex.fColumns.length cqIndexColumns, .bool x.fIndex.fUnique, .int .i64 x.fIndex.fState, .bool x.fIndex.fBad, .string (strB x.fName)] 43)).cell? ⟨w.heap.size + 1, 8, none⟩ = some (.slice aqSpanFrom x.fSpan.fFrom.length cqSpanFrom) := rowB.cell 8
  have xa9 : ((w.alloc (.cells #[.int .i64 x.fKind, .int .i64 x.fEpoch, .int .u64 x.fTxn, .int .i64 x.fN, .int .i64 x.fFrom, .int .i64 x.fTo, .bool x.fFlag, .slice apKey x.fKey.length cpKey, .slice apSpanFrom x.fSpan.fFrom.length cpSpanFrom, .slice apSpanTo x.fSpan.fTo.length cpSpanTo, .slice apPairs x.fPairs.length cpPairs, .slice apSeens x.fSeens.length cpSeens, .slice apWrites x.fWrites.length cpWrites, .int .i64 x.fTable.fID, .string (strB x.fTable.fName), .slice apTableColumns x.fTable.fColumns.length cpTableColumns, .slice apTableKey x.fTable.fKey.length cpTableKey, .int .i64 x.fIndex.fID, .int .i64 x.fIndex.fTable, .string (strB x.fIndex.fName), .slice apIndexColumns x.fIndex.fColumns.length cpIndexColumns, .bool x.fIndex.fUnique, .int .i64 x.fIndex.fState, .bool x.fIndex.fBad, .string (strB x.fName)] 43)).alloc (.cells #[.int .i64 x.fKind, .int .i64 x.fEpoch, .int .u64 x.fTxn, .int .i64 x.fN, .int .i64 x.fFrom, .int .i64 x.fTo, .bool x.fFlag, .slice aqKey x.fKey.length cqKey, .slice aqSpanFrom x.fSpan.fFrom.length cqSpanFrom, .slice aqSpanTo x.fSpan.fTo.length cqSpanTo, .slice aqPairs x.fPairs.length cqPairs, .slice aqSeens x.fSeens.length cqSeens, .slice aqWrites x.fWrites.length cqWrites, .int .i64 x.fTable.fID, .string (strB x.fTable.fName), .slice aqTableColumns x.fTable.fColumns.length cqTableColumns, .slice aqTableKey x.fTable.fKey.length cqTableKey, .int .i64 x.fIndex.fID, .int .i64 x.fIndex.fTable, .string (strB x.fIndex.fName), .slice aqIndexColumns x.fIndex.fColumns.length cqIndexColumns, .bool x.fIndex.fUnique, .int .i64 x.fIndex.fState, .bool x.fIndex.fBad, .string (strB x.fName)] 43)).cell? ⟨w.heap.size, 9, none⟩ = some (.slice apSpanTo x.fSpan.fTo.length cpSpanTo) := rowA.cell 9
  have xb9 : ((w.alloc (.cells #[.int .i64 x.fKind, .int .i64 x.fEpoch, .int .u64 x.fTxn, .int .i64 x.fN, .int .i64 x.fFrom, .int .i64 x.fTo, .bool x.fFlag, .slice apKey x.fKey.length cpKey, .slice apSpanFrom x.fSpan.fFrom.length cpSpanFrom, .slice apSpanTo x.fSpan.fTo.length cpSpanTo, .slice apPairs x.fPairs.length cpPairs, .slice apSeens x.fSeens.length cpSeens, .slice apWrites x.fWrites.length cpWrites, .int .i64 x.fTable.fID, .string (strB x.fTable.fName), .slice apTableColumns x.fTable.fColumns.length cpTableColumns, .slice apTableKey x.fTable.fKey.length cpTableKey, .int .i64 x.fIndex.fID, .int .i64 x.fIndex.fTable, .string (strB x.fIndex.fName), .slice apIndexColumns x.fIndex.fColumns.length cpIndexColumns, .bool x.fIndex.fUnique, .int .i64 x.fIndex.fState, .bool x.fIndex.fBad, .string (strB x.fName)] 43)).alloc (.cells #[.int .i64 x.fKind, .int .i64 x.fEpoch, .int .u64 x.fTxn, .int .i64 x.fN, .int .i64 x.fFrom, .int .i64 x.fTo, .bool x.fFlag, .slice aqKey x.fKey.length cqKey, .slice aqSpanFrom x.fSpan.fFrom.length cqSpanFrom, .slice aqSpanTo x.fSpan.fTo.length cqSpanTo, .slice aqPairs x.fPairs.length cqPairs, .slice aqSeens x.fSeens.length cqSeens, .slice aqWrites x.fWrites.length cqWrites, .int .i64 x.fTable.fID, .string (strB x.fTable.fName), .slice aqTableColumns x.fTable.fColumns.length cqTableColumns, .slice aqTableKey x.fTable.fKey.length cqTableKey, .int .i64 x.fIndex.fID, .int .i64 x.fIndex.fTable, .string (strB x.fIndex.fName), .slice aqIndexColumns x.fIndex.fColumns.length cqIndexColumns, .bool x.fIndex.fUnique, .int .i64 x.fIndex.fState, .bool x.fIndex.fBad, .string (strB x.fName)] 43)).cell? ⟨w.heap.size + 1, 9, none⟩ = some (.slice aqSpanTo x.fSpan.fTo.length cqSpanTo) := rowB.cell 9
  go_wp2_with fail
  clear xa8 xb8 xa9 xb9
  go_fit (sSpan_c _ x.fSpan _ _ h8 g8)
  rintro e w2 ⟨rfl, k1⟩
  replace rowA := rowA.keep k1 id
  replace rowB := rowB.keep k1 id
  replace kk := kk.trans k1
  replace h9 := (rList_lawful rGPair_lawful).nix h9 k1
  replace g9 := (rList_lawful rGPair_lawful).nix g9 k1
  replace h10 := (rList_lawful rGSeen_lawful).nix h10 k1
  replace g10 := (rList_lawful rGSeen_lawful).nix g10 k1
  replace h11 := (rList_lawful rGWrite_lawful).nix h11 k1
  replace g11 := (rList_lawful rGWrite_lawful).nix g11 k1
  replace h12 := rGTable_lawful.nix h12 k1
  replace g12 := rGTable_lawful.nix g12 k1
  replace h13 := rGIndex_lawful.nix h13 k1
  replace g13 := rGIndex_lawful.nix g13 k1
  clear k1
  clear h8 g8
  have xa10 : w2.cell? ⟨w.heap.size, 10, none⟩ = some (.slice apPairs x.fPairs.length cpPairs) := rowA.cell 10
  have xb10 : w2.cell? ⟨w.heap.size + 1, 10, none⟩ = some (.slice aqPairs x.fPairs.length cqPairs) := rowB.cell 10
  go_wp2_with fail
  clear xa10 xb10
  go_fit (sm_Pair _ x.fPairs _ _ _ _ _ _ h9 g9)
  rintro e w3 ⟨rfl, k1⟩
  replace rowA := rowA.keep k1 id
  replace rowB := rowB.keep k1 id
  replace kk := kk.trans k1
  replace h10 := (rList_lawful rGSeen_lawful).nix h10 k1
  replace g10 := (rList_lawful rGSeen_lawful).nix g10 k1
  replace h11 := (rList_lawful rGWrite_lawful).nix h11 k1
  replace g11 := (rList_lawful rGWrite_lawful).nix g11 k1
  replace h12 := rGTable_lawful.nix h12 k1
  replace g12 := rGTable_lawful.nix g12 k1
  replace h13 := rGIndex_lawful.nix h13 k1
  replace g13 := rGIndex_lawful.nix g13 k1
  clear k1
  clear h9 g9
  have xa11 : w3.cell? ⟨w.heap.size, 11, none⟩ = some (.slice apSeens x.fSeens.length cpSeens) := rowA.cell 11
  have xb11 : w3.cell? ⟨w.heap.size + 1, 11, none⟩ = some (.slice aqSeens x.fSeens.length cqSeens) := rowB.cell 11
  go_wp2_with fail
  clear xa11 xb11
  go_fit (sm_Seen _ x.fSeens _ _ _ _ _ _ h10 g10)
  rintro e w4 ⟨rfl, k1⟩
  replace rowA := rowA.keep k1 id
  replace rowB := rowB.keep k1 id
  replace kk := kk.trans k1
  replace h11 := (rList_lawful rGWrite_lawful).nix h11 k1
  replace g11 := (rList_lawful rGWrite_lawful).nix g11 k1
  replace h12 := rGTable_lawful.nix h12 k1
  replace g12 := rGTable_lawful.nix g12 k1
  replace h13 := rGIndex_lawful.nix h13 k1
  replace g13 := rGIndex_lawful.nix g13 k1
  clear k1
  clear h10 g10
  have xa12 : w4.cell? ⟨w.heap.size, 12, none⟩ = some (.slice apWrites x.fWrites.length cpWrites) := rowA.cell 12
  have xb12 : w4.cell? ⟨w.heap.size + 1, 12, none⟩ = some (.slice aqWrites x.fWrites.length cqWrites) := rowB.cell 12
  go_wp2_with fail
  clear xa12 xb12
  go_fit (sm_Write _ x.fWrites _ _ _ _ _ _ h11 g11)
  rintro e w5 ⟨rfl, k1⟩
  replace rowA := rowA.keep k1 id
  replace rowB := rowB.keep k1 id
  replace kk := kk.trans k1
  replace h12 := rGTable_lawful.nix h12 k1
  replace g12 := rGTable_lawful.nix g12 k1
  replace h13 := rGIndex_lawful.nix h13 k1
  replace g13 := rGIndex_lawful.nix g13 k1
  clear k1
  clear h11 g11
  have xa13 : w5.cell? ⟨w.heap.size, 13, none⟩ = some (.int .i64 x.fTable.fID) := rowA.cell 13
  have xb13 : w5.cell? ⟨w.heap.size + 1, 13, none⟩ = some (.int .i64 x.fTable.fID) := rowB.cell 13
  have xa14 : w5.cell? ⟨w.heap.size, 14, none⟩ = some (.string (strB x.fTable.fName)) := rowA.cell 14
  have xb14 : w5.cell? ⟨w.heap.size + 1, 14, none⟩ = some (.string (strB x.fTable.fName)) := rowB.cell 14
  have xa15 : w5.cell? ⟨w.heap.size, 15, none⟩ = some (.slice apTableColumns x.fTable.fColumns.length cpTableColumns) := rowA.cell 15
  have xb15 : w5.cell? ⟨w.heap.size + 1, 15, none⟩ = some (.slice aqTableColumns x.fTable.fColumns.length cqTableColumns) := rowB.cell 15
  have xa16 : w5.cell? ⟨w.heap.size, 16, none⟩ = some (.slice apTableKey x.fTable.fKey.length cpTableKey) := rowA.cell 16
  have xb16 : w5.cell? ⟨w.heap.size + 1, 16, none⟩ = some (.slice aqTableKey x.fTable.fKey.length cqTableKey) := rowB.cell 16
  go_wp2_with fail
  clear xa13 xb13 xa14 xb14 xa15 xb15 xa16 xb16
  go_fit (sTable_c _ x.fTable _ _ h12 g12)
  rintro e w6 ⟨rfl, k1⟩
  replace rowA := rowA.keep k1 id
  replace rowB := rowB.keep k1 id
  replace kk := kk.trans k1
  replace h13 := rGIndex_lawful.nix h13 k1
  replace g13 := rGIndex_lawful.nix g13 k1
  clear k1
  clear h12 g12
  have xa17 : w6.cell? ⟨w.heap.size, 17, none⟩ = some (.int .i64 x.fIndex.fID) := rowA.cell 17
  have xb17 : w6.cell? ⟨w.heap.size + 1, 17, none⟩ = some (.int .i64 x.fIndex.fID) := rowB.cell 17
  have xa18 : w6.cell? ⟨w.heap.size, 18, none⟩ = some (.int .i64 x.fIndex.fTable) := rowA.cell 18
  have xb18 : w6.cell? ⟨w.heap.size + 1, 18, none⟩ = some (.int .i64 x.fIndex.fTable) := rowB.cell 18
  have xa19 : w6.cell? ⟨w.heap.size, 19, none⟩ = some (.string (strB x.fIndex.fName)) := rowA.cell 19
  have xb19 : w6.cell? ⟨w.heap.size + 1, 19, none⟩ = some (.string (strB x.fIndex.fName)) := rowB.cell 19
  have xa20 : w6.cell? ⟨w.heap.size, 20, none⟩ = some (.slice apIndexColumns x.fIndex.fColumns.length cpIndexColumns) := rowA.cell 20
  have xb20 : w6.cell? ⟨w.heap.size + 1, 20, none⟩ = some (.slice aqIndexColumns x.fIndex.fColumns.length cqIndexColumns) := rowB.cell 20
  have xa21 : w6.cell? ⟨w.heap.size, 21, none⟩ = some (.bool x.fIndex.fUnique) := rowA.cell 21
  have xb21 : w6.cell? ⟨w.heap.size + 1, 21, none⟩ = some (.bool x.fIndex.fUnique) := rowB.cell 21
  have xa22 : w6.cell? ⟨w.heap.size, 22, none⟩ = some (.int .i64 x.fIndex.fState) := rowA.cell 22
  have xb22 : w6.cell? ⟨w.heap.size + 1, 22, none⟩ = some (.int .i64 x.fIndex.fState) := rowB.cell 22
  have xa23 : w6.cell? ⟨w.heap.size, 23, none⟩ = some (.bool x.fIndex.fBad) := rowA.cell 23
  have xb23 : w6.cell? ⟨w.heap.size + 1, 23, none⟩ = some (.bool x.fIndex.fBad) := rowB.cell 23
  go_wp2_with fail
  clear xa17 xb17 xa18 xb18 xa19 xb19 xa20 xb20 xa21 xb21 xa22 xb22 xa23 xb23
  go_fit (sIndex_c _ x.fIndex _ _ h13 g13)
  rintro e w7 ⟨rfl, k1⟩
  replace rowA := rowA.keep k1 id
  replace rowB := rowB.keep k1 id
  replace kk := kk.trans k1
  clear k1
  clear h13 g13
  have xa24 : w7.cell? ⟨w.heap.size, 24, none⟩ = some (.string (strB x.fName)) := rowA.cell 24
  have xb24 : w7.cell? ⟨w.heap.size + 1, 24, none⟩ = some (.string (strB x.fName)) := rowB.cell 24
  go_wp2
  go_ret
  exact ⟨by first | rfl | simp, kk⟩
set_option maxRecDepth 100000 in
set_option maxHeartbeats 8000000 in
theorem sReply_c {p q : Nat → Prop} (w : World) (x : GReply) (ca cb : List Value) (ha : rGReply w p ca x) (hb : rGReply w q cb x) : Calls Tryz.prog 19 #[.agg ca.toArray, .agg cb.toArray] w fun e w' => e = .returned (.bool true) ∧ Keep Nix w w' := by
  obtain ⟨apPairs, cpPairs, apTxns, cpTxns, apCatalogTables, cpCatalogTables, apCatalogIndexes, cpCatalogIndexes, apRoutesSpans, cpRoutesSpans, apRoutesCut, cpRoutesCut, rfl, h0, h1, h2, h4, h5, h6, h7, -⟩ := rGReply_open ha
  obtain ⟨aqPairs, cqPairs, aqTxns, cqTxns, aqCatalogTables, cqCatalogTables, aqCatalogIndexes, cqCatalogIndexes, aqRoutesSpans, cqRoutesSpans, aqRoutesCut, cqRoutesCut, rfl, g0, g1, g2, g4, g5, g6, g7, -⟩ := rGReply_open hb
  have hsz : (w.alloc (.cells #[.int .i64 x.fErr, .int .u64 x.fTxn, .int .i64 x.fN, .bool x.fFlag, .slice apPairs x.fPairs.length cpPairs, .slice apTxns x.fTxns.length cpTxns, .int .i64 x.fCatalog.fVersion, .int .i64 x.fCatalog.fNext, .slice apCatalogTables x.fCatalog.fTables.length cpCatalogTables, .slice apCatalogIndexes x.fCatalog.fIndexes.length cpCatalogIndexes, .int .i64 x.fRoutes.fEpoch, .int .i64 x.fRoutes.fBase, .slice apRoutesSpans x.fRoutes.fSpans.length cpRoutesSpans, .int .i64 x.fRoutes.fMoving, .slice apRoutesCut x.fRoutes.fCut.length cpRoutesCut] 55)).heap.size = w.heap.size + 1 := by simp
  have rowA : RowIs ((w.alloc (.cells #[.int .i64 x.fErr, .int .u64 x.fTxn, .int .i64 x.fN, .bool x.fFlag, .slice apPairs x.fPairs.length cpPairs, .slice apTxns x.fTxns.length cpTxns, .int .i64 x.fCatalog.fVersion, .int .i64 x.fCatalog.fNext, .slice apCatalogTables x.fCatalog.fTables.length cpCatalogTables, .slice apCatalogIndexes x.fCatalog.fIndexes.length cpCatalogIndexes, .int .i64 x.fRoutes.fEpoch, .int .i64 x.fRoutes.fBase, .slice apRoutesSpans x.fRoutes.fSpans.length cpRoutesSpans, .int .i64 x.fRoutes.fMoving, .slice apRoutesCut x.fRoutes.fCut.length cpRoutesCut] 55)).alloc (.cells #[.int .i64 x.fErr, .int .u64 x.fTxn, .int .i64 x.fN, .bool x.fFlag, .slice aqPairs x.fPairs.length cqPairs, .slice aqTxns x.fTxns.length cqTxns, .int .i64 x.fCatalog.fVersion, .int .i64 x.fCatalog.fNext, .slice aqCatalogTables x.fCatalog.fTables.length cqCatalogTables, .slice aqCatalogIndexes x.fCatalog.fIndexes.length cqCatalogIndexes, .int .i64 x.fRoutes.fEpoch, .int .i64 x.fRoutes.fBase, .slice aqRoutesSpans x.fRoutes.fSpans.length cqRoutesSpans, .int .i64 x.fRoutes.fMoving, .slice aqRoutesCut x.fRoutes.fCut.length cqRoutesCut] 55)) w.heap.size 55 [.int .i64 x.fErr, .int .u64 x.fTxn, .int .i64 x.fN, .bool x.fFlag, .slice apPairs x.fPairs.length cpPairs, .slice apTxns x.fTxns.length cpTxns, .int .i64 x.fCatalog.fVersion, .int .i64 x.fCatalog.fNext, .slice apCatalogTables x.fCatalog.fTables.length cpCatalogTables, .slice apCatalogIndexes x.fCatalog.fIndexes.length cpCatalogIndexes, .int .i64 x.fRoutes.fEpoch, .int .i64 x.fRoutes.fBase, .slice apRoutesSpans x.fRoutes.fSpans.length cpRoutesSpans, .int .i64 x.fRoutes.fMoving, .slice apRoutesCut x.fRoutes.fCut.length cpRoutesCut] := (RowIs.alloc w _ _).keep ((Keep.refl Nix _).alloc _) id
  have rowB : RowIs ((w.alloc (.cells #[.int .i64 x.fErr, .int .u64 x.fTxn, .int .i64 x.fN, .bool x.fFlag, .slice apPairs x.fPairs.length cpPairs, .slice apTxns x.fTxns.length cpTxns, .int .i64 x.fCatalog.fVersion, .int .i64 x.fCatalog.fNext, .slice apCatalogTables x.fCatalog.fTables.length cpCatalogTables, .slice apCatalogIndexes x.fCatalog.fIndexes.length cpCatalogIndexes, .int .i64 x.fRoutes.fEpoch, .int .i64 x.fRoutes.fBase, .slice apRoutesSpans x.fRoutes.fSpans.length cpRoutesSpans, .int .i64 x.fRoutes.fMoving, .slice apRoutesCut x.fRoutes.fCut.length cpRoutesCut] 55)).alloc (.cells #[.int .i64 x.fErr, .int .u64 x.fTxn, .int .i64 x.fN, .bool x.fFlag, .slice aqPairs x.fPairs.length cqPairs, .slice aqTxns x.fTxns.length cqTxns, .int .i64 x.fCatalog.fVersion, .int .i64 x.fCatalog.fNext, .slice aqCatalogTables x.fCatalog.fTables.length cqCatalogTables, .slice aqCatalogIndexes x.fCatalog.fIndexes.length cqCatalogIndexes, .int .i64 x.fRoutes.fEpoch, .int .i64 x.fRoutes.fBase, .slice aqRoutesSpans x.fRoutes.fSpans.length cqRoutesSpans, .int .i64 x.fRoutes.fMoving, .slice aqRoutesCut x.fRoutes.fCut.length cqRoutesCut] 55)) (w.heap.size + 1) 55 [.int .i64 x.fErr, .int .u64 x.fTxn, .int .i64 x.fN, .bool x.fFlag, .slice aqPairs x.fPairs.length cqPairs, .slice aqTxns x.fTxns.length cqTxns, .int .i64 x.fCatalog.fVersion, .int .i64 x.fCatalog.fNext, .slice aqCatalogTables x.fCatalog.fTables.length cqCatalogTables, .slice aqCatalogIndexes x.fCatalog.fIndexes.length cqCatalogIndexes, .int .i64 x.fRoutes.fEpoch, .int .i64 x.fRoutes.fBase, .slice aqRoutesSpans x.fRoutes.fSpans.length cqRoutesSpans, .int .i64 x.fRoutes.fMoving, .slice aqRoutesCut x.fRoutes.fCut.length cqRoutesCut] := by
    rw [← hsz]
    exact RowIs.alloc (w.alloc (.cells #[.int .i64 x.fErr, .int .u64 x.fTxn, .int .i64 x.fN, .bool x.fFlag, .slice apPairs x.fPairs.length cpPairs, .slice apTxns x.fTxns.length cpTxns, .int .i64 x.fCatalog.fVersion, .int .i64 x.fCatalog.fNext, .slice apCatalogTables x.fCatalog.fTables.length cpCatalogTables, .slice apCatalogIndexes x.fCatalog.fIndexes.length cpCatalogIndexes, .int .i64 x.fRoutes.fEpoch, .int .i64 x.fRoutes.fBase, .slice apRoutesSpans x.fRoutes.fSpans.length cpRoutesSpans, .int .i64 x.fRoutes.fMoving, .slice apRoutesCut x.fRoutes.fCut.length cpRoutesCut] 55)) _ _
  have kk : Keep Nix w ((w.alloc (.cells #[.int .i64 x.fErr, .int .u64 x.fTxn, .int .i64 x.fN, .bool x.fFlag, .slice apPairs x.fPairs.length cpPairs, .slice apTxns x.fTxns.length cpTxns, .int .i64 x.fCatalog.fVersion, .int .i64 x.fCatalog.fNext, .slice apCatalogTables x.fCatalog.fTables.length cpCatalogTables, .slice apCatalogIndexes x.fCatalog.fIndexes.length cpCatalogIndexes, .int .i64 x.fRoutes.fEpoch, .int .i64 x.fRoutes.fBase, .slice apRoutesSpans x.fRoutes.fSpans.length cpRoutesSpans, .int .i64 x.fRoutes.fMoving, .slice apRoutesCut x.fRoutes.fCut.length cpRoutesCut] 55)).alloc (.cells #[.int .i64 x.fErr, .int .u64 x.fTxn, .int .i64 x.fN, .bool x.fFlag, .slice aqPairs x.fPairs.length cqPairs, .slice aqTxns x.fTxns.length cqTxns, .int .i64 x.fCatalog.fVersion, .int .i64 x.fCatalog.fNext, .slice aqCatalogTables x.fCatalog.fTables.length cqCatalogTables, .slice aqCatalogIndexes x.fCatalog.fIndexes.length cqCatalogIndexes, .int .i64 x.fRoutes.fEpoch, .int .i64 x.fRoutes.fBase, .slice aqRoutesSpans x.fRoutes.fSpans.length cqRoutesSpans, .int .i64 x.fRoutes.fMoving, .slice aqRoutesCut x.fRoutes.fCut.length cqRoutesCut] 55)) := ((Keep.refl Nix w).alloc _).alloc _
  clear hsz ha hb
  clear h0 g0
  clear h1 g1
  clear h2 g2
  replace h4 := (rList_lawful rGPair_lawful).nix h4 kk
  replace g4 := (rList_lawful rGPair_lawful).nix g4 kk
  replace h5 := (rList_lawful (rInt_lawful _)).nix h5 kk
  replace g5 := (rList_lawful (rInt_lawful _)).nix g5 kk
  replace h6 := rGCatalog_lawful.nix h6 kk
  replace g6 := rGCatalog_lawful.nix g6 kk
  replace h7 := rGRoutes_lawful.nix h7 kk
  replace g7 := rGRoutes_lawful.nix g7 kk
  go_enter Tryz.func19, Tryz.ntmps19
  go_wp2_with fail
  go_fit (sm_Pair _ x.fPairs _ _ _ _ _ _ h4 g4)
  rintro e w1 ⟨rfl, k1⟩
  replace rowA := rowA.keep k1 id
  replace rowB := rowB.keep k1 id
  replace kk := kk.trans k1
  replace h5 := (rList_lawful (rInt_lawful _)).nix h5 k1
  replace g5 := (rList_lawful (rInt_lawful _)).nix g5 k1
  replace h6 := rGCatalog_lawful.nix h6 k1
  replace g6 := rGCatalog_lawful.nix g6 k1
  replace h7 := rGRoutes_lawful.nix h7 k1
  replace g7 := rGRoutes_lawful.nix g7 k1
  clear k1
  clear h4 g4
  have xa5 : w1.cell? ⟨w.heap.size, 5, none⟩ = some (.slice apTxns x.fTxns.length cpTxns) := rowA.cell 5
  have xb5 : w1.cell? ⟨w.heap.size + 1, 5, none⟩ = some (.slice aqTxns x.fTxns.length cqTxns) := rowB.cell 5
  go_wp2_with fail
  clear xa5 xb5
  go_fit (pl_num _ x.fTxns _ _ _ _ _ _ h5 g5)
  rintro e w2 ⟨rfl, k1⟩
  replace rowA := rowA.keep k1 id
  replace rowB := rowB.keep k1 id
  replace kk := kk.trans k1
  replace h6 := rGCatalog_lawful.nix h6 k1
  replace g6 := rGCatalog_lawful.nix g6 k1
  replace h7 := rGRoutes_lawful.nix h7 k1
  replace g7 := rGRoutes_lawful.nix g7 k1
  clear k1
  clear h5 g5
  have xa6 : w2.cell? ⟨w.heap.size, 6, none⟩ = some (.int .i64 x.fCatalog.fVersion) := rowA.cell 6
  have xb6 : w2.cell? ⟨w.heap.size + 1, 6, none⟩ = some (.int .i64 x.fCatalog.fVersion) := rowB.cell 6
  have xa7 : w2.cell? ⟨w.heap.size, 7, none⟩ = some (.int .i64 x.fCatalog.fNext) := rowA.cell 7
  have xb7 : w2.cell? ⟨w.heap.size + 1, 7, none⟩ = some (.int .i64 x.fCatalog.fNext) := rowB.cell 7
  have xa8 : w2.cell? ⟨w.heap.size, 8, none⟩ = some (.slice apCatalogTables x.fCatalog.fTables.length cpCatalogTables) := rowA.cell 8
  have xb8 : w2.cell? ⟨w.heap.size + 1, 8, none⟩ = some (.slice aqCatalogTables x.fCatalog.fTables.length cqCatalogTables) := rowB.cell 8
  have xa9 : w2.cell? ⟨w.heap.size, 9, none⟩ = some (.slice apCatalogIndexes x.fCatalog.fIndexes.length cpCatalogIndexes) := rowA.cell 9
  have xb9 : w2.cell? ⟨w.heap.size + 1, 9, none⟩ = some (.slice aqCatalogIndexes x.fCatalog.fIndexes.length cqCatalogIndexes) := rowB.cell 9
  go_wp2_with fail
  clear xa6 xb6 xa7 xb7 xa8 xb8 xa9 xb9
  go_fit (sCatalog_c _ x.fCatalog _ _ h6 g6)
  rintro e w3 ⟨rfl, k1⟩
  replace rowA := rowA.keep k1 id
  replace rowB := rowB.keep k1 id
  replace kk := kk.trans k1
  replace h7 := rGRoutes_lawful.nix h7 k1
  replace g7 := rGRoutes_lawful.nix g7 k1
  clear k1
  clear h6 g6
  have xa10 : w3.cell? ⟨w.heap.size, 10, none⟩ = some (.int .i64 x.fRoutes.fEpoch) := rowA.cell 10
  have xb10 : w3.cell? ⟨w.heap.size + 1, 10, none⟩ = some (.int .i64 x.fRoutes.fEpoch) := rowB.cell 10
  have xa11 : w3.cell? ⟨w.heap.size, 11, none⟩ = some (.int .i64 x.fRoutes.fBase) := rowA.cell 11
  have xb11 : w3.cell? ⟨w.heap.size + 1, 11, none⟩ = some (.int .i64 x.fRoutes.fBase) := rowB.cell 11
  have xa12 : w3.cell? ⟨w.heap.size, 12, none⟩ = some (.slice apRoutesSpans x.fRoutes.fSpans.length cpRoutesSpans) := rowA.cell 12
  have xb12 : w3.cell? ⟨w.heap.size + 1, 12, none⟩ = some (.slice aqRoutesSpans x.fRoutes.fSpans.length cqRoutesSpans) := rowB.cell 12
  have xa13 : w3.cell? ⟨w.heap.size, 13, none⟩ = some (.int .i64 x.fRoutes.fMoving) := rowA.cell 13
  have xb13 : w3.cell? ⟨w.heap.size + 1, 13, none⟩ = some (.int .i64 x.fRoutes.fMoving) := rowB.cell 13
  have xa14 : w3.cell? ⟨w.heap.size, 14, none⟩ = some (.slice apRoutesCut x.fRoutes.fCut.length cpRoutesCut) := rowA.cell 14
  have xb14 : w3.cell? ⟨w.heap.size + 1, 14, none⟩ = some (.slice aqRoutesCut x.fRoutes.fCut.length cqRoutesCut) := rowB.cell 14
  go_wp2_with fail
  clear xa10 xb10 xa11 xb11 xa12 xb12 xa13 xb13 xa14 xb14
  go_fit (sRoutes_c _ x.fRoutes _ _ h7 g7)
  rintro e w4 ⟨rfl, k1⟩
  replace rowA := rowA.keep k1 id
  replace rowB := rowB.keep k1 id
  replace kk := kk.trans k1
  clear k1
  clear h7 g7
  go_wp2
  go_ret
  exact ⟨by first | rfl | simp, kk⟩
set_option maxRecDepth 100000 in
set_option maxHeartbeats 8000000 in
theorem sAsk_c {p q : Nat → Prop} (w : World) (x : GAsk) (ca cb : List Value) (ha : rGAsk w p ca x) (hb : rGAsk w q cb x) : Calls Tryz.prog 21 #[.agg ca.toArray, .agg cb.toArray] w fun e w' => e = .returned (.bool true) ∧ Keep Nix w w' := by
  obtain ⟨apOps, cpOps, apTableColumns, cpTableColumns, apTableKey, cpTableKey, apIndexColumns, cpIndexColumns, apKey, cpKey, rfl, h0, h1, h2, h3, h4, h5, h6, -⟩ := rGAsk_open ha
  obtain ⟨aqOps, cqOps, aqTableColumns, cqTableColumns, aqTableKey, cqTableKey, aqIndexColumns, cqIndexColumns, aqKey, cqKey, rfl, g0, g1, g2, g3, g4, g5, g6, -⟩ := rGAsk_open hb
  have hsz : (w.alloc (.cells #[.int .i64 x.fKind, .slice apOps x.fOps.length cpOps, .int .i64 x.fTable.fID, .string (strB x.fTable.fName), .slice apTableColumns x.fTable.fColumns.length cpTableColumns, .slice apTableKey x.fTable.fKey.length cpTableKey, .int .i64 x.fIndex.fID, .int .i64 x.fIndex.fTable, .string (strB x.fIndex.fName), .slice apIndexColumns x.fIndex.fColumns.length cpIndexColumns, .bool x.fIndex.fUnique, .int .i64 x.fIndex.fState, .bool x.fIndex.fBad, .string (strB x.fName), .int .i64 x.fN, .slice apKey x.fKey.length cpKey] 62)).heap.size = w.heap.size + 1 := by simp
  have rowA : RowIs ((w.alloc (.cells #[.int .i64 x.fKind, .slice apOps x.fOps.length cpOps, .int .i64 x.fTable.fID, .string (strB x.fTable.fName), .slice apTableColumns x.fTable.fColumns.length cpTableColumns, .slice apTableKey x.fTable.fKey.length cpTableKey, .int .i64 x.fIndex.fID, .int .i64 x.fIndex.fTable, .string (strB x.fIndex.fName), .slice apIndexColumns x.fIndex.fColumns.length cpIndexColumns, .bool x.fIndex.fUnique, .int .i64 x.fIndex.fState, .bool x.fIndex.fBad, .string (strB x.fName), .int .i64 x.fN, .slice apKey x.fKey.length cpKey] 62)).alloc (.cells #[.int .i64 x.fKind, .slice aqOps x.fOps.length cqOps, .int .i64 x.fTable.fID, .string (strB x.fTable.fName), .slice aqTableColumns x.fTable.fColumns.length cqTableColumns, .slice aqTableKey x.fTable.fKey.length cqTableKey, .int .i64 x.fIndex.fID, .int .i64 x.fIndex.fTable, .string (strB x.fIndex.fName), .slice aqIndexColumns x.fIndex.fColumns.length cqIndexColumns, .bool x.fIndex.fUnique, .int .i64 x.fIndex.fState, .bool x.fIndex.fBad, .string (strB x.fName), .int .i64 x.fN, .slice aqKey x.fKey.length cqKey] 62)) w.heap.size 62 [.int .i64 x.fKind, .slice apOps x.fOps.length cpOps, .int .i64 x.fTable.fID, .string (strB x.fTable.fName), .slice apTableColumns x.fTable.fColumns.length cpTableColumns, .slice apTableKey x.fTable.fKey.length cpTableKey, .int .i64 x.fIndex.fID, .int .i64 x.fIndex.fTable, .string (strB x.fIndex.fName), .slice apIndexColumns x.fIndex.fColumns.length cpIndexColumns, .bool x.fIndex.fUnique, .int .i64 x.fIndex.fState, .bool x.fIndex.fBad, .string (strB x.fName), .int .i64 x.fN, .slice apKey x.fKey.length cpKey] := (RowIs.alloc w _ _).keep ((Keep.refl Nix _).alloc _) id
  have rowB : RowIs ((w.alloc (.cells #[.int .i64 x.fKind, .slice apOps x.fOps.length cpOps, .int .i64 x.fTable.fID, .string (strB x.fTable.fName), .slice apTableColumns x.fTable.fColumns.length cpTableColumns, .slice apTableKey x.fTable.fKey.length cpTableKey, .int .i64 x.fIndex.fID, .int .i64 x.fIndex.fTable, .string (strB x.fIndex.fName), .slice apIndexColumns x.fIndex.fColumns.length cpIndexColumns, .bool x.fIndex.fUnique, .int .i64 x.fIndex.fState, .bool x.fIndex.fBad, .string (strB x.fName), .int .i64 x.fN, .slice apKey x.fKey.length cpKey] 62)).alloc (.cells #[.int .i64 x.fKind, .slice aqOps x.fOps.length cqOps, .int .i64 x.fTable.fID, .string (strB x.fTable.fName), .slice aqTableColumns x.fTable.fColumns.length cqTableColumns, .slice aqTableKey x.fTable.fKey.length cqTableKey, .int .i64 x.fIndex.fID, .int .i64 x.fIndex.fTable, .string (strB x.fIndex.fName), .slice aqIndexColumns x.fIndex.fColumns.length cqIndexColumns, .bool x.fIndex.fUnique, .int .i64 x.fIndex.fState, .bool x.fIndex.fBad, .string (strB x.fName), .int .i64 x.fN, .slice aqKey x.fKey.length cqKey] 62)) (w.heap.size + 1) 62 [.int .i64 x.fKind, .slice aqOps x.fOps.length cqOps, .int .i64 x.fTable.fID, .string (strB x.fTable.fName), .slice aqTableColumns x.fTable.fColumns.length cqTableColumns, .slice aqTableKey x.fTable.fKey.length cqTableKey, .int .i64 x.fIndex.fID, .int .i64 x.fIndex.fTable, .string (strB x.fIndex.fName), .slice aqIndexColumns x.fIndex.fColumns.length cqIndexColumns, .bool x.fIndex.fUnique, .int .i64 x.fIndex.fState, .bool x.fIndex.fBad, .string (strB x.fName), .int .i64 x.fN, .slice aqKey x.fKey.length cqKey] := by
    rw [← hsz]
    exact RowIs.alloc (w.alloc (.cells #[.int .i64 x.fKind, .slice apOps x.fOps.length cpOps, .int .i64 x.fTable.fID, .string (strB x.fTable.fName), .slice apTableColumns x.fTable.fColumns.length cpTableColumns, .slice apTableKey x.fTable.fKey.length cpTableKey, .int .i64 x.fIndex.fID, .int .i64 x.fIndex.fTable, .string (strB x.fIndex.fName), .slice apIndexColumns x.fIndex.fColumns.length cpIndexColumns, .bool x.fIndex.fUnique, .int .i64 x.fIndex.fState, .bool x.fIndex.fBad, .string (strB x.fName), .int .i64 x.fN, .slice apKey x.fKey.length cpKey] 62)) _ _
  have kk : Keep Nix w ((w.alloc (.cells #[.int .i64 x.fKind, .slice apOps x.fOps.length cpOps, .int .i64 x.fTable.fID, .string (strB x.fTable.fName), .slice apTableColumns x.fTable.fColumns.length cpTableColumns, .slice apTableKey x.fTable.fKey.length cpTableKey, .int .i64 x.fIndex.fID, .int .i64 x.fIndex.fTable, .string (strB x.fIndex.fName), .slice apIndexColumns x.fIndex.fColumns.length cpIndexColumns, .bool x.fIndex.fUnique, .int .i64 x.fIndex.fState, .bool x.fIndex.fBad, .string (strB x.fName), .int .i64 x.fN, .slice apKey x.fKey.length cpKey] 62)).alloc (.cells #[.int .i64 x.fKind, .slice aqOps x.fOps.length cqOps, .int .i64 x.fTable.fID, .string (strB x.fTable.fName), .slice aqTableColumns x.fTable.fColumns.length cqTableColumns, .slice aqTableKey x.fTable.fKey.length cqTableKey, .int .i64 x.fIndex.fID, .int .i64 x.fIndex.fTable, .string (strB x.fIndex.fName), .slice aqIndexColumns x.fIndex.fColumns.length cqIndexColumns, .bool x.fIndex.fUnique, .int .i64 x.fIndex.fState, .bool x.fIndex.fBad, .string (strB x.fName), .int .i64 x.fN, .slice aqKey x.fKey.length cqKey] 62)) := ((Keep.refl Nix w).alloc _).alloc _
  clear hsz ha hb
  clear h0 g0
  replace h1 := (rList_lawful rGOp_lawful).nix h1 kk
  replace g1 := (rList_lawful rGOp_lawful).nix g1 kk
  replace h2 := rGTable_lawful.nix h2 kk
  replace g2 := rGTable_lawful.nix g2 kk
  replace h3 := rGIndex_lawful.nix h3 kk
  replace g3 := rGIndex_lawful.nix g3 kk
  clear h4 g4
  clear h5 g5
  replace h6 := h6.1.keep kk (fun _ _ h => h)
  replace g6 := g6.1.keep kk (fun _ _ h => h)
  go_enter Tryz.func21, Tryz.ntmps21
  go_wp2_with fail
  go_fit (sm_Op _ x.fOps _ _ _ _ _ _ h1 g1)
  rintro e w1 ⟨rfl, k1⟩
  replace rowA := rowA.keep k1 id
  replace rowB := rowB.keep k1 id
  replace kk := kk.trans k1
  replace h2 := rGTable_lawful.nix h2 k1
  replace g2 := rGTable_lawful.nix g2 k1
  replace h3 := rGIndex_lawful.nix h3 k1
  replace g3 := rGIndex_lawful.nix g3 k1
  replace h6 := h6.keep k1 (fun _ _ h => h)
  replace g6 := g6.keep k1 (fun _ _ h => h)
  clear k1
  clear h1 g1
  have xa2 : w1.cell? ⟨w.heap.size, 2, none⟩ = some (.int .i64 x.fTable.fID) := rowA.cell 2
  have xb2 : w1.cell? ⟨w.heap.size + 1, 2, none⟩ = some (.int .i64 x.fTable.fID) := rowB.cell 2
  have xa3 : w1.cell? ⟨w.heap.size, 3, none⟩ = some (.string (strB x.fTable.fName)) := rowA.cell 3
  have xb3 : w1.cell? ⟨w.heap.size + 1, 3, none⟩ = some (.string (strB x.fTable.fName)) := rowB.cell 3
  have xa4 : w1.cell? ⟨w.heap.size, 4, none⟩ = some (.slice apTableColumns x.fTable.fColumns.length cpTableColumns) := rowA.cell 4
  have xb4 : w1.cell? ⟨w.heap.size + 1, 4, none⟩ = some (.slice aqTableColumns x.fTable.fColumns.length cqTableColumns) := rowB.cell 4
  have xa5 : w1.cell? ⟨w.heap.size, 5, none⟩ = some (.slice apTableKey x.fTable.fKey.length cpTableKey) := rowA.cell 5
  have xb5 : w1.cell? ⟨w.heap.size + 1, 5, none⟩ = some (.slice aqTableKey x.fTable.fKey.length cqTableKey) := rowB.cell 5
  go_wp2_with fail
  clear xa2 xb2 xa3 xb3 xa4 xb4 xa5 xb5
  go_fit (sTable_c _ x.fTable _ _ h2 g2)
  rintro e w2 ⟨rfl, k1⟩
  replace rowA := rowA.keep k1 id
  replace rowB := rowB.keep k1 id
  replace kk := kk.trans k1
  replace h3 := rGIndex_lawful.nix h3 k1
  replace g3 := rGIndex_lawful.nix g3 k1
  replace h6 := h6.keep k1 (fun _ _ h => h)
  replace g6 := g6.keep k1 (fun _ _ h => h)
  clear k1
  clear h2 g2
  have xa6 : w2.cell? ⟨w.heap.size, 6, none⟩ = some (.int .i64 x.fIndex.fID) := rowA.cell 6
  have xb6 : w2.cell? ⟨w.heap.size + 1, 6, none⟩ = some (.int .i64 x.fIndex.fID) := rowB.cell 6
  have xa7 : w2.cell? ⟨w.heap.size, 7, none⟩ = some (.int .i64 x.fIndex.fTable) := rowA.cell 7
  have xb7 : w2.cell? ⟨w.heap.size + 1, 7, none⟩ = some (.int .i64 x.fIndex.fTable) := rowB.cell 7
  have xa8 : w2.cell? ⟨w.heap.size, 8, none⟩ = some (.string (strB x.fIndex.fName)) := rowA.cell 8
  have xb8 : w2.cell? ⟨w.heap.size + 1, 8, none⟩ = some (.string (strB x.fIndex.fName)) := rowB.cell 8
  have xa9 : w2.cell? ⟨w.heap.size, 9, none⟩ = some (.slice apIndexColumns x.fIndex.fColumns.length cpIndexColumns) := rowA.cell 9
  have xb9 : w2.cell? ⟨w.heap.size + 1, 9, none⟩ = some (.slice aqIndexColumns x.fIndex.fColumns.length cqIndexColumns) := rowB.cell 9
  have xa10 : w2.cell? ⟨w.heap.size, 10, none⟩ = some (.bool x.fIndex.fUnique) := rowA.cell 10
  have xb10 : w2.cell? ⟨w.heap.size + 1, 10, none⟩ = some (.bool x.fIndex.fUnique) := rowB.cell 10
  have xa11 : w2.cell? ⟨w.heap.size, 11, none⟩ = some (.int .i64 x.fIndex.fState) := rowA.cell 11
  have xb11 : w2.cell? ⟨w.heap.size + 1, 11, none⟩ = some (.int .i64 x.fIndex.fState) := rowB.cell 11
  have xa12 : w2.cell? ⟨w.heap.size, 12, none⟩ = some (.bool x.fIndex.fBad) := rowA.cell 12
  have xb12 : w2.cell? ⟨w.heap.size + 1, 12, none⟩ = some (.bool x.fIndex.fBad) := rowB.cell 12
  go_wp2_with fail
  clear xa6 xb6 xa7 xb7 xa8 xb8 xa9 xb9 xa10 xb10 xa11 xb11 xa12 xb12
  go_fit (sIndex_c _ x.fIndex _ _ h3 g3)
  rintro e w3 ⟨rfl, k1⟩
  replace rowA := rowA.keep k1 id
  replace rowB := rowB.keep k1 id
  replace kk := kk.trans k1
  replace h6 := h6.keep k1 (fun _ _ h => h)
  replace g6 := g6.keep k1 (fun _ _ h => h)
  clear k1
  clear h3 g3
  have xa13 : w3.cell? ⟨w.heap.size, 13, none⟩ = some (.string (strB x.fName)) := rowA.cell 13
  have xb13 : w3.cell? ⟨w.heap.size + 1, 13, none⟩ = some (.string (strB x.fName)) := rowB.cell 13
  have xa14 : w3.cell? ⟨w.heap.size, 14, none⟩ = some (.int .i64 x.fN) := rowA.cell 14
  have xb14 : w3.cell? ⟨w.heap.size + 1, 14, none⟩ = some (.int .i64 x.fN) := rowB.cell 14
  have xa15 : w3.cell? ⟨w.heap.size, 15, none⟩ = some (.slice apKey x.fKey.length cpKey) := rowA.cell 15
  have xb15 : w3.cell? ⟨w.heap.size + 1, 15, none⟩ = some (.slice aqKey x.fKey.length cqKey) := rowB.cell 15
  go_wp2_with fail
  clear xa13 xb13 xa14 xb14 xa15 xb15
  go_fit (bytesT_c _ _ _ _ _ _ x.fKey _ rfl rfl h6 g6)
  rintro e w4' ⟨rfl, rfl⟩
  clear h6 g6
  go_wp2
  go_ret
  exact ⟨by first | rfl | simp, kk⟩
end Go.Proofs.YtabgbleldbapbaaGreat
