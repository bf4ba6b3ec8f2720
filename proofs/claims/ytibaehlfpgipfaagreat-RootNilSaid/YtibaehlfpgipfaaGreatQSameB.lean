/- COMPARISONS of things that are alike. Printed by gen11.py. -/
import Derived.Test.YtibaehlfpgipfaaGreatQOpens
import Derived.Test.YtibaehlfpgipfaaGreatQHelp
import Derived.Test.YtibaehlfpgipfaaGreatQSameA
import Derived.Deep.RegionHeld3
namespace Go.Proofs.YtibaehlfpgipfaaGreat
open Go.RowKit

set_option maxRecDepth 100000 in
set_option maxHeartbeats 8000000 in
theorem cmp_sCatalog_c {p q : Nat → Prop} (w : World) (x : GCatalog) (ca cb : List Value) (ha : rGCatalog w p ca x) (hb : rGCatalog w q cb x) : Calls Tryz.prog 13 #[.agg ca.toArray, .agg cb.toArray] w fun e w' => e = .returned (.bool true) ∧ Keep Nix w w' := by
  obtain ⟨apTables, cpTables, apIndexes, cpIndexes, rfl, h0, h1, h2, h3, -⟩ := rGCatalog_open ha
  obtain ⟨aqTables, cqTables, aqIndexes, cqIndexes, rfl, g0, g1, g2, g3, -⟩ := rGCatalog_open hb
  have hsz : (w.alloc (.cells #[.int .i64 x.fVersion, .int .i64 x.fNext, .slice apTables x.fTables.length cpTables, .slice apIndexes x.fIndexes.length cpIndexes] 50)).heap.size = w.heap.size + 1 := by simp
  have rowA : RowIs ((w.alloc (.cells #[.int .i64 x.fVersion, .int .i64 x.fNext, .slice apTables x.fTables.length cpTables, .slice apIndexes x.fIndexes.length cpIndexes] 50)).alloc (.cells #[.int .i64 x.fVersion, .int .i64 x.fNext, .slice aqTables x.fTables.length cqTables, .slice aqIndexes x.fIndexes.length cqIndexes] 50)) w.heap.size 50 [.int .i64 x.fVersion, .int .i64 x.fNext, .slice apTables x.fTables.length cpTables, .slice apIndexes x.fIndexes.length cpIndexes] := (RowIs.alloc w _ _).keep ((Keep.refl Nix _).alloc _) id
  have rowB : RowIs ((w.alloc (.cells #[.int .i64 x.fVersion, .int .i64 x.fNext, .slice apTables x.fTables.length cpTables, .slice apIndexes x.fIndexes.length cpIndexes] 50)).alloc (.cells #[.int .i64 x.fVersion, .int .i64 x.fNext, .slice aqTables x.fTables.length cqTables, .slice aqIndexes x.fIndexes.length cqIndexes] 50)) (w.heap.size + 1) 50 [.int .i64 x.fVersion, .int .i64 x.fNext, .slice aqTables x.fTables.length cqTables, .slice aqIndexes x.fIndexes.length cqIndexes] := by
    rw [← hsz]
    exact RowIs.alloc (w.alloc (.cells #[.int .i64 x.fVersion, .int .i64 x.fNext, .slice apTables x.fTables.length cpTables, .slice apIndexes x.fIndexes.length cpIndexes] 50)) _ _
  have kk : Keep Nix w ((w.alloc (.cells #[.int .i64 x.fVersion, .int .i64 x.fNext, .slice apTables x.fTables.length cpTables, .slice apIndexes x.fIndexes.length cpIndexes] 50)).alloc (.cells #[.int .i64 x.fVersion, .int .i64 x.fNext, .slice aqTables x.fTables.length cqTables, .slice aqIndexes x.fIndexes.length cqIndexes] 50)) := ((Keep.refl Nix w).alloc _).alloc _
  clear hsz ha hb
  clear h0 g0
  clear h1 g1
  replace h2 := (rList_lawful rGTable_lawful).nix h2 kk
  replace g2 := (rList_lawful rGTable_lawful).nix g2 kk
  replace h3 := (rList_lawful rGIndex_lawful).nix h3 kk
  replace g3 := (rList_lawful rGIndex_lawful).nix g3 kk
  go_enter Tryz.func13, Tryz.ntmps13
  go_wp2_with fail
  go_fit (sm_Table _ x.fTables _ _ _ _ _ _ h2 g2)
  rintro e w1 ⟨rfl, k1⟩
  replace rowA := rowA.keep k1 id
  replace rowB := rowB.keep k1 id
  replace kk := kk.trans k1
  replace h3 := (rList_lawful rGIndex_lawful).nix h3 k1
  replace g3 := (rList_lawful rGIndex_lawful).nix g3 k1
  clear k1
  clear h2 g2
  have xa3 : w1.cell? ⟨w.heap.size, 3, none⟩ = some (.slice apIndexes x.fIndexes.length cpIndexes) := rowA.cell 3
  have xb3 : w1.cell? ⟨w.heap.size + 1, 3, none⟩ = some (.slice aqIndexes x.fIndexes.length cqIndexes) := rowB.cell 3
  go_wp2_with fail
  clear xa3 xb3
  go_fit (sm_Index _ x.fIndexes _ _ _ _ _ _ h3 g3)
  rintro e w2 ⟨rfl, k1⟩
  replace rowA := rowA.keep k1 id
  replace rowB := rowB.keep k1 id
  replace kk := kk.trans k1
  clear k1
  clear h3 g3
  go_wp2
  go_ret
  exact ⟨by first | rfl | simp, kk⟩
set_option maxRecDepth 100000 in
set_option maxHeartbeats 8000000 in
theorem sRoutes_c {p q : Nat → Prop} (w : World) (x : GRoutes) (ca cb : List Value) (ha : rGRoutes w p ca x) (hb : rGRoutes w q cb x) : Calls Tryz.prog 14 #[.agg ca.toArray, .agg cb.toArray] w fun e w' => e = .returned (.bool true) ∧ Keep Nix w w' := by
  obtain ⟨apSpans, cpSpans, apCut, cpCut, rfl, h0, h1, h2, h3, h4, -⟩ := rGRoutes_open ha
  obtain ⟨aqSpans, cqSpans, aqCut, cqCut, rfl, g0, g1, g2, g3, g4, -⟩ := rGRoutes_open hb
  have hsz : (w.alloc (.cells #[.int .i64 x.fEpoch, .int .i64 x.fBase, .slice apSpans x.fSpans.length cpSpans, .int .i64 x.fMoving, .slice apCut x.fCut.length cpCut] 53)).heap.size = w.heap.size + 1 := by simp
  have rowA : RowIs ((w.alloc (.cells #[.int .i64 x.fEpoch, .int .i64 x.fBase, .slice apSpans x.fSpans.length cpSpans, .int .i64 x.fMoving, .slice apCut x.fCut.length cpCut] 53)).alloc (.cells #[.int .i64 x.fEpoch, .int .i64 x.fBase, .slice aqSpans x.fSpans.length cqSpans, .int .i64 x.fMoving, .slice aqCut x.fCut.length cqCut] 53)) w.heap.size 53 [.int .i64 x.fEpoch, .int .i64 x.fBase, .slice apSpans x.fSpans.length cpSpans, .int .i64 x.fMoving, .slice apCut x.fCut.length cpCut] := (RowIs.alloc w _ _).keep ((Keep.refl Nix _).alloc _) id
  have rowB : RowIs ((w.alloc (.cells #[.int .i64 x.fEpoch, .int .i64 x.fBase, .slice apSpans x.fSpans.length cpSpans, .int .i64 x.fMoving, .slice apCut x.fCut.length cpCut] 53)).alloc (.cells #[.int .i64 x.fEpoch, .int .i64 x.fBase, .slice aqSpans x.fSpans.length cqSpans, .int .i64 x.fMoving, .slice aqCut x.fCut.length cqCut] 53)) (w.heap.size + 1) 53 [.int .i64 x.fEpoch, .int .i64 x.fBase, .slice aqSpans x.fSpans.length cqSpans, .int .i64 x.fMoving, .slice aqCut x.fCut.length cqCut] := by
    rw [← hsz]
    exact RowIs.alloc (w.alloc (.cells #[.int .i64 x.fEpoch, .int .i64 x.fBase, .slice apSpans x.fSpans.length cpSpans, .int .i64 x.fMoving, .slice apCut x.fCut.length cpCut] 53)) _ _
  have kk : Keep Nix w ((w.alloc (.cells #[.int .i64 x.fEpoch, .int .i64 x.fBase, .slice apSpans x.fSpans.length cpSpans, .int .i64 x.fMoving, .slice apCut x.fCut.length cpCut] 53)).alloc (.cells #[.int .i64 x.fEpoch, .int .i64 x.fBase, .slice aqSpans x.fSpans.length cqSpans, .int .i64 x.fMoving, .slice aqCut x.fCut.length cqCut] 53)) := ((Keep.refl Nix w).alloc _).alloc _
  clear hsz ha hb
  clear h0 g0
  clear h1 g1
  replace h2 := (rList_lawful rGOwner_lawful).nix h2 kk
  replace g2 := (rList_lawful rGOwner_lawful).nix g2 kk
  clear h3 g3
  replace h4 := h4.1.keep kk (fun _ _ h => h)
  replace g4 := g4.1.keep kk (fun _ _ h => h)
  go_enter Tryz.func14, Tryz.ntmps14
  go_wp2_with fail
  go_fit (sm_Owner _ x.fSpans _ _ _ _ _ _ h2 g2)
  rintro e w1 ⟨rfl, k1⟩
  replace rowA := rowA.keep k1 id
  replace rowB := rowB.keep k1 id
  replace kk := kk.trans k1
  replace h4 := h4.keep k1 (fun _ _ h => h)
  replace g4 := g4.keep k1 (fun _ _ h => h)
  clear k1
  clear h2 g2
  have xa3 : w1.cell? ⟨w.heap.size, 3, none⟩ = some (.int .i64 x.fMoving) := rowA.cell 3
  have xb3 : w1.cell? ⟨w.heap.size + 1, 3, none⟩ = some (.int .i64 x.fMoving) := rowB.cell 3
  have xa4 : w1.cell? ⟨w.heap.size, 4, none⟩ = some (.slice apCut x.fCut.length cpCut) := rowA.cell 4
  have xb4 : w1.cell? ⟨w.heap.size + 1, 4, none⟩ = some (.slice aqCut x.fCut.length cqCut) := rowB.cell 4
  go_wp2_with fail
  clear xa3 xb3 xa4 xb4
  go_fit (bytesT_c _ _ _ _ _ _ x.fCut _ rfl rfl h4 g4)
  rintro e w2' ⟨rfl, rfl⟩
  clear h4 g4
  go_wp2
  go_ret
  exact ⟨by first | rfl | simp, kk⟩
set_option maxRecDepth 100000 in
set_option maxHeartbeats 8000000 in
theorem sReply_c {p q : Nat → Prop} (w : World) (x : GReply) (ca cb : List Value) (ha : rGReply w p ca x) (hb : rGReply w q cb x) : Calls Tryz.prog 18 #[.agg ca.toArray, .agg cb.toArray] w fun e w' => e = .returned (.bool true) ∧ Keep Nix w w' := by
  obtain ⟨apPairs, cpPairs, apTxns, cpTxns, apCatalogTables, cpCatalogTables, apCatalogIndexes, cpCatalogIndexes, apRoutesSpans, cpRoutesSpans, apRoutesCut, cpRoutesCut, rfl, h0, h1, h2, h4, h5, h6, h7, -⟩ := rGReply_open ha
  obtain ⟨aqPairs, cqPairs, aqTxns, cqTxns, aqCatalogTables, cqCatalogTables, aqCatalogIndexes, cqCatalogIndexes, aqRoutesSpans, cqRoutesSpans, aqRoutesCut, cqRoutesCut, rfl, g0, g1, g2, g4, g5, g6, g7, -⟩ := rGReply_open hb
  have hsz : (w.alloc (.cells #[.int .i64 x.fErr, .int .u64 x.fTxn, .int .i64 x.fN, .bool x.fFlag, .slice apPairs x.fPairs.length cpPairs, .slice apTxns x.fTxns.length cpTxns, .int .i64 x.fCatalog.fVersion, .int .i64 x.fCatalog.fNext, .slice apCatalogTables x.fCatalog.fTables.length cpCatalogTables, .slice apCatalogIndexes x.fCatalog.fIndexes.length cpCatalogIndexes, .int .i64 x.fRoutes.fEpoch, .int .i64 x.fRoutes.fBase, .slice apRoutesSpans x.fRoutes.fSpans.length cpRoutesSpans, .int .i64 x.fRoutes.fMoving, .slice apRoutesCut x.fRoutes.fCut.length cpRoutesCut] 55)).heap.size = w.heap.size + 1 := by simp
  have rowA : RowIs ((w.alloc (.cells #[.int .i64 x.fErr, .int .u64 x.fTxn, .int .i64 x.fN, .bool x.fFlag, .slice apPairs x.fPairs.length cpPairs, .slice apTxns x.fTxns.length cpTxns, .int .i64 x.fCatalog.fVersion, .int .i64 x.fCatalog.fNext, .slice apCatalogTables x.fCatalog.fTables.length cpCatalogTables, .slice apCatalogIndexes x.fCatalog.fIndexes.length cpCatalogIndexes, .int .i64 x.fRoutes.fEpoch, .int .i64 x.fRoutes.fBase, .slice apRoutesSpans x.fRoutes.fSpans.length cpRoutesSpans, .int .i64 x.fRoutes.fMoving, .slice apRoutesCut x.fRoutes.fCut.length cpRoutesCut] 55)).alloc (.cells #[.int .i64 x.fErr, .int .u64 x.fTxn, .int .i64 x.fN, .bool x.fFlag, .slice aqPairs x.fPairs.length cqPairs, .slice aqTxns x.fTxns.length cqTxns, .int .i64 x.fCatalog.fVersion, .int .i64 x.fCatalog.fNext, .slice aqCatalogTables x.fCatalog.fTables.length cqCatalogTables, .slice aqCatalogIndexes x.fCatalog.fIndexes.length cqCatalogIndexes, .int .i64 x.fRoutes.fEpoch, .int .i64 x.fRoutes.fBase, .slice aqRoutesSpans x.fRoutes.fSpans.length cqRoutesSpans, .int .i64 x.fRoutes.fMoving, .slice aqRoutesCut x.fRoutes.fCut.length cqRoutesCut] 55)) w.heap.size 55 [.int .i64 x.fErr, .int .u64 x.fTxn, .int .i64 x.fN, .bool x.fFlag, .slice apPairs x.fPairs.length cpPairs, .slice apTxns x.fTxns.length cpTxns, .int .i64 x.fCatalog.fVersion, .int .i64 x.fCatalog.fNext, .slice apCatalogTables x.fCatalog.fTables.length cpCatalogTables, .slice apCatalogIndexes x.fCatalog.fIndexes.length cpCatalogIndexes, .int .i64 x.fRoutes.fEpoch, .int .i64 x.fRoutes.fBase, .slice apRoutesSpans x.fRoutes.fSpans.length cpRoutesSpans, .int .i64 x.fRoutes.fMoving, .slice apRoutesCut x.fRoutes.fCut.length cpRoutesCut] := (RowIs.alloc w _ _).keep ((Keep.refl Nix _).alloc _) id
  have rowB : RowIs ((w.alloc (.cells #[.int .i64 x.fErr, .int .u64 x.fTxn, .int .i64 x.fN, .bool x.fFlag, .slice apPairs x.fPairs.length cpPairs, .slice apTxns x.fTxns.length cpTxns, .int .i64 x.fCatalog.fVersion, .int .i64 x.fCatalog.fNext, .slice apCatalogTables x.fCatalog.fTables.length cpCatalogTables, .slice apCatalogIndexes x.fCatalog.fIndexes.length cpCatalogIndexes, .int .i64 x.fRoutes.fEpoch, .int .i64 x.fRoutes.fBase, .slice apRoutesSpans x.fRoutes.fSpans.length cpRoutesSpans, .int .i64 x.fRoutes.fMoving, .slice apRoutesCut x.fRoutes.fCut.length cpRoutesCut] 55)).alloc (.cells #[.int .i64 x.fErr, .int .u64 x.fTxn, .int .i64 x.fN, .bool x.fFlag, .slice aqPairs x.fPairs.length cqPairs, .slice aqTxns x.fTxns.length cqTxns, .int .i64 x.fCatalog.fVersion, .int .i64 x.fCatalog.fNext, .slice aqCatalogTables x.fCatalog.fTables.length cqCatalogTables, .slice aqCatalogIndexes x.fCatalog.fIndexes.length cqCatalogIndexes, .int .i64 x.fRoutes.fEpoch, .int .i64 x.fRoutes.fBase, .slice aqRoutesSpans x.fRoutes.fSpans.length cqRoutesSpans, .int .i64 x.fRoutes.fMoving, .slice aqRoutesCut x.fRoutes.fCut.length cqRoutesCut] 55)) (w.heap.size + 1) 55 [.int .i64 x.fErr, .int .u64 x.fTxn, .int .i64 x.fN, .bool x.fFlag, .slice aqPairs x.fPairs.length cqPairs, .slice aqTxns x.fTxns.length cqTxns, .int .i64 x.fCatalog.fVersion, .int .i64 x.fCatalog.fNext, .slice aqCatalogTables x.fCatalog.fTables.length cqCatalogTables, .slice aqCatalogIndexes x.fCatalog.fIndexes.length cqCatalogIndexes, .int .i64 x.fRoutes.fEpoch, .int .i64 x.fRoutes.fBase, .slice aqRoutesSpans x.fRoutes.fSpans.length cqRoutesSpans, .int .i64 x.fRoutes.fMoving, .slice aqRoutesCut x.fRoutes.fCut.length cqRoutesCut] := by
    rw [← hsz]
    exact RowIs.alloc (w.alloc (.cells #[.int .i64 x.fErr, .int .u64 x.fTxn, .int .i64 x.fN, .bool x.fFlag, .slice apPairs x.fPairs.length cpPairs, .slice apTxns x.fTxns.length cpTxns, .int .i64 x.fCatalog.fVersion, .int .i64 x.fCatalog.fNext, .slice apCatalogTables x.fCatalog.fTables.length cpCatalogTables, .slice apCatalogIndexes x.fCatalog.fIndexes.length cpCatalogIndexes, .int .i64 x.fRoutes.fEpoch, .int .i64 x.fRoutes.fBase, .slice apRoutesSpans x.fRoutes.fSpans.length cpRoutesSpans, .int .i64 x.fRoutes.fMoving, .slice apRoutesCut x.fRoutes.fCut.length cpRoutesCut] 55)) _ _
  have kk : Keep Nix w ((w.alloc (.cells #[.int .i64 x.fErr, .int .u64 x.fTxn, .int .i64 x.fN, .bool x.fFlag, .slice apPairs x.fPairs.length cpPairs, .slice apTxns x.fTxns.length cpTxns, .int .i64 x.fCatalog.fVersion, .int .i64 x.fCatalog.fNext, .slice apCatalogTables x.fCatalog.fTables.length cpCatalogTables, .slice apCatalogIndexes x.fCatalog.fIndexes.length cpCatalogIndexes, .int .i64 x.fRoutes.fEpoch, .int .i64 x.fRoutes.fBase, .slice apRoutesSpans x.fRoutes.fSpans.length cpRoutesSpans, .int .i64 x.fRoutes.fMoving, .slice apRoutesCut x.fRoutes.fCut.length cpRoutesCut] 55)).alloc (.cells #[.int .i64 x.fErr, .int .u64 x.fTxn, .int .i64 x.fN, .bool x.fFlag, .slice aqPairs x.fPairs.length cqPairs, .slice aqTxns x.fTxns.length cqTxns, .int .i64 x.fCatalog.fVersion, .int .i64 x.fCatalog.fNext, .slice aqCatalogTables x.fCatalog.fTables.length cqCatalogTables, .slice aqCatalogIndexes x.fCatalog.fIndexes.length cqCatalogIndexes, .int .i64 x.fRoutes.fEpoch, .int .i64 x.fRoutes.fBase, .slice aqRoutesSpans x.fRoutes.fSpans.length cqRoutesSpans, .int .i64 x.fRoutes.fMoving, .slice aqRoutesCut x.fRoutes.fCut.length cqRoutesCut] 55)) := ((Keep.refl Nix w).alloc _).alloc _
  clear hsz ha hb
  clear h0 g0
  clear h1 g1
  clear h2 g2
  replace h4 := (rList_lawful rGPair_lawful).nix h4 kk
  replace g4 := (rList_lawful rGPair_lawful).nix g4 kk
  replace h5 := (rList_lawful (rInt_lawful _)).nix h5 kk
  replace g5 := (rList_lawful (rInt_lawful _)).nix g5 kk
  replace h6 := rGCatalog_lawful.nix h6 kk
  replace g6 := rGCatalog_lawful.nix g6 kk
  replace h7 := rGRoutes_lawful.nix h7 kk
  replace g7 := rGRoutes_lawful.nix g7 kk
  go_enter Tryz.func18, Tryz.ntmps18
  go_wp2_with fail
  go_fit (sm_Pair _ x.fPairs _ _ _ _ _ _ h4 g4)
  rintro e w1 ⟨rfl, k1⟩
  replace rowA := rowA.keep k1 id
  replace rowB := rowB.keep k1 id
  replace kk := kk.trans k1
  replace h5 := (rList_lawful (rInt_lawful _)).nix h5 k1
  replace g5 := (rList_lawful (rInt_lawful _)).nix g5 k1
  replace h6 := rGCatalog_lawful.nix h6 k1
  replace g6 := rGCatalog_lawful.nix g6 k1
  replace h7 := rGRoutes_lawful.nix h7 k1
  replace g7 := rGRoutes_lawful.nix g7 k1
  clear k1
  clear h4 g4
  have xa5 : w1.cell? ⟨w.heap.size, 5, none⟩ = some (.slice apTxns x.fTxns.length cpTxns) := rowA.cell 5
  have xb5 : w1.cell? ⟨w.heap.size + 1, 5, none⟩ = some (.slice aqTxns x.fTxns.length cqTxns) := rowB.cell 5
  go_wp2_with fail
  clear xa5 xb5
  go_fit (pl_num _ x.fTxns _ _ _ _ _ _ h5 g5)
  rintro e w2 ⟨rfl, k1⟩
  replace rowA := rowA.keep k1 id
  replace rowB := rowB.keep k1 id
  replace kk := kk.trans k1
  replace h6 := rGCatalog_lawful.nix h6 k1
  replace g6 := rGCatalog_lawful.nix g6 k1
  replace h7 := rGRoutes_lawful.nix h7 k1
  replace g7 := rGRoutes_lawful.nix g7 k1
  clear k1
  clear h5 g5
  have xa6 : w2.cell? ⟨w.heap.size, 6, none⟩ = some (.int .i64 x.fCatalog.fVersion) := rowA.cell 6
  have xb6 : w2.cell? ⟨w.heap.size + 1, 6, none⟩ = some (.int .i64 x.fCatalog.fVersion) := rowB.cell 6
  have xa7 : w2.cell? ⟨w.heap.size, 7, none⟩ = some (.int .i64 x.fCatalog.fNext) := rowA.cell 7
  have xb7 : w2.cell? ⟨w.heap.size + 1, 7, none⟩ = some (.int .i64 x.fCatalog.fNext) := rowB.cell 7
  have xa8 : w2.cell? ⟨w.heap.size, 8, none⟩ = some (.slice apCatalogTables x.fCatalog.fTables.length cpCatalogTables) := rowA.cell 8
  have xb8 : w2.cell? ⟨w.heap.size + 1, 8, none⟩ = some (.slice aqCatalogTables x.fCatalog.fTables.length cqCatalogTables) := rowB.cell 8
  have xa9 : w2.cell? ⟨w.heap.size, 9, none⟩ = some (.slice apCatalogIndexes x.fCatalog.fIndexes.length cpCatalogIndexes) := rowA.cell 9
  have xb9 : w2.cell? ⟨w.heap.size + 1, 9, none⟩ = some (.slice aqCatalogIndexes x.fCatalog.fIndexes.length cqCatalogIndexes) := rowB.cell 9
  go_wp2_with fail
  clear xa6 xb6 xa7 xb7 xa8 xb8 xa9 xb9
  go_fit (cmp_sCatalog_c _ x.fCatalog _ _ h6 g6)
  rintro e w3 ⟨rfl, k1⟩
  replace rowA := rowA.keep k1 id
  replace rowB := rowB.keep k1 id
  replace kk := kk.trans k1
  replace h7 := rGRoutes_lawful.nix h7 k1
  replace g7 := rGRoutes_lawful.nix g7 k1
  clear k1
  clear h6 g6
  have xa10 : w3.cell? ⟨w.heap.size, 10, none⟩ = some (.int .i64 x.fRoutes.fEpoch) := rowA.cell 10
  have xb10 : w3.cell? ⟨w.heap.size + 1, 10, none⟩ = some (.int .i64 x.fRoutes.fEpoch) := rowB.cell 10
  have xa11 : w3.cell? ⟨w.heap.size, 11, none⟩ = some (.int .i64 x.fRoutes.fBase) := rowA.cell 11
  have xb11 : w3.cell? ⟨w.heap.size + 1, 11, none⟩ = some (.int .i64 x.fRoutes.fBase) := rowB.cell 11
  have xa12 : w3.cell? ⟨w.heap.size, 12, none⟩ = some (.slice apRoutesSpans x.fRoutes.fSpans.length cpRoutesSpans) := rowA.cell 12
  have xb12 : w3.cell? ⟨w.heap.size + 1, 12, none⟩ = some (.slice aqRoutesSpans x.fRoutes.fSpans.length cqRoutesSpans) := rowB.cell 12
  have xa13 : w3.cell? ⟨w.heap.size, 13, none⟩ = some (.int .i64 x.fRoutes.fMoving) := rowA.cell 13
  have xb13 : w3.cell? ⟨w.heap.size + 1, 13, none⟩ = some (.int .i64 x.fRoutes.fMoving) := rowB.cell 13
  have xa14 : w3.cell? ⟨w.heap.size, 14, none⟩ = some (.slice apRoutesCut x.fRoutes.fCut.length cpRoutesCut) := rowA.cell 14
  have xb14 : w3.cell? ⟨w.heap.size + 1, 14, none⟩ = some (.slice aqRoutesCut x.fRoutes.fCut.length cqRoutesCut) := rowB.cell 14
  go_wp2_with fail
  clear xa10 xb10 xa11 xb11 xa12 xb12 xa13 xb13 xa14 xb14
  go_fit (sRoutes_c _ x.fRoutes _ _ h7 g7)
  rintro e w4 ⟨rfl, k1⟩
  replace rowA := rowA.keep k1 id
  replace rowB := rowB.keep k1 id
  replace kk := kk.trans k1
  clear k1
  clear h7 g7
  go_wp2
  go_ret
  exact ⟨by first | rfl | simp, kk⟩
end Go.Proofs.YtibaehlfpgipfaaGreat
