/- THE BYTES of each struct of package api, and its cells written out. Printed by gen3.py. -/
import Derived.Test.YtibaehlfpgipfaaGreatQZTypes
import Derived.Test.YtibaehlfpgipfaaGreatQZWr
import Derived.Test.YtibaehlfpgipfaaGreatQZLst
namespace Go.Proofs.YtibaehlfpgipfaaGreat
open Go.RowKit
def encGColumn (x : GColumn) : List UInt8 := textB x.fName ++ encI x.fKind ++ encF x.fNull
theorem encGColumn_len (x : GColumn) : (encGColumn x).length ≤ 10 * x.size := by
 simp only [encGColumn, List.length_append, GColumn.size]
 have h0 := textB_len x.fName
 have h1 := encI_len x.fKind
 have h2 := encF_len x.fNull
 omega
theorem rGColumn_open {w : World} {p : Nat → Prop} {cs : List Value} {x : GColumn} (h : rGColumn w p cs x) : cs = [.string (strB x.fName), .int .i64 x.fKind, .bool x.fNull] ∧ x.fName.length ≤ far ∧ isI64 x.fKind ∧ True := by
 obtain ⟨k0, k1, k2, rfl, h0, h1, h2⟩ := h
 obtain ⟨rfl, f0⟩ := h0
 obtain ⟨rfl, f1⟩ := h1
 obtain rfl := h2
 exact ⟨rfl, f0, isI64_wf f1, trivial⟩
def encGTable (x : GTable) : List UInt8 := encI x.fID ++ textB x.fName ++ encL encGColumn x.fColumns ++ encL encI x.fKey
theorem encGTable_len (x : GTable) : (encGTable x).length ≤ 10 * x.size := by
 simp only [encGTable, List.length_append, GTable.size]
 have h0 := encI_len x.fID
 have h1 := textB_len x.fName
 have h2 := encL_len encGColumn GColumn.size (encGColumn_len) x.fColumns
 have h3 := encL_len encI (fun _ => 1) (fun x => by have := encI_len x; omega) x.fKey
 omega
theorem rGTable_open {w : World} {p : Nat → Prop} {cs : List Value} {x : GTable} (h : rGTable w p cs x) : ∃ aColumns cColumns aKey cKey, cs = [.int .i64 x.fID, .string (strB x.fName), .slice aColumns x.fColumns.length cColumns, .slice aKey x.fKey.length cKey] ∧ isI64 x.fID ∧ x.fName.length ≤ far ∧ rList rGColumn w p [.slice aColumns x.fColumns.length cColumns] x.fColumns ∧ rList (rInt .i64) w p [.slice aKey x.fKey.length cKey] x.fKey ∧ True := by
 obtain ⟨k0, k1, k2, k3, rfl, h0, h1, h2, h3⟩ := h
 obtain ⟨rfl, f0⟩ := h0
 obtain ⟨rfl, f1⟩ := h1
 obtain ⟨aColumns, cColumns, rfl, f2⟩ := rList_open h2
 obtain ⟨aKey, cKey, rfl, f3⟩ := rList_open h3
 exact ⟨aColumns, cColumns, aKey, cKey, rfl, isI64_wf f0, f1, f2, f3, trivial⟩
def encGIndex (x : GIndex) : List UInt8 := encI x.fID ++ encI x.fTable ++ textB x.fName ++ encL encI x.fColumns ++ encF x.fUnique ++ encI x.fState ++ encF x.fBad
theorem encGIndex_len (x : GIndex) : (encGIndex x).length ≤ 10 * x.size := by
 simp only [encGIndex, List.length_append, GIndex.size]
 have h0 := encI_len x.fID
 have h1 := encI_len x.fTable
 have h2 := textB_len x.fName
 have h3 := encL_len encI (fun _ => 1) (fun x => by have := encI_len x; omega) x.fColumns
 have h4 := encF_len x.fUnique
 have h5 := encI_len x.fState
 have h6 := encF_len x.fBad
 omega
theorem rGIndex_open {w : World} {p : Nat → Prop} {cs : List Value} {x : GIndex} (h : rGIndex w p cs x) : ∃ aColumns cColumns, cs = [.int .i64 x.fID, .int .i64 x.fTable, .string (strB x.fName), .slice aColumns x.fColumns.length cColumns, .bool x.fUnique, .int .i64 x.fState, .bool x.fBad] ∧ isI64 x.fID ∧ isI64 x.fTable ∧ x.fName.length ≤ far ∧ rList (rInt .i64) w p [.slice aColumns x.fColumns.length cColumns] x.fColumns ∧ isI64 x.fState ∧ True := by
 obtain ⟨k0, k1, k2, k3, k4, k5, k6, rfl, h0, h1, h2, h3, h4, h5, h6⟩ := h
 obtain ⟨rfl, f0⟩ := h0
 obtain ⟨rfl, f1⟩ := h1
 obtain ⟨rfl, f2⟩ := h2
 obtain ⟨aColumns, cColumns, rfl, f3⟩ := rList_open h3
 obtain rfl := h4
 obtain ⟨rfl, f5⟩ := h5
 obtain rfl := h6
 exact ⟨aColumns, cColumns, rfl, isI64_wf f0, isI64_wf f1, f2, f3, isI64_wf f5, trivial⟩
def encGCatalog (x : GCatalog) : List UInt8 := encI x.fVersion ++ encI x.fNext ++ encL encGTable x.fTables ++ encL encGIndex x.fIndexes
theorem encGCatalog_len (x : GCatalog) : (encGCatalog x).length ≤ 10 * x.size := by
 simp only [encGCatalog, List.length_append, GCatalog.size]
 have h0 := encI_len x.fVersion
 have h1 := encI_len x.fNext
 have h2 := encL_len encGTable GTable.size (encGTable_len) x.fTables
 have h3 := encL_len encGIndex GIndex.size (encGIndex_len) x.fIndexes
 omega
theorem rGCatalog_open {w : World} {p : Nat → Prop} {cs : List Value} {x : GCatalog} (h : rGCatalog w p cs x) : ∃ aTables cTables aIndexes cIndexes, cs = [.int .i64 x.fVersion, .int .i64 x.fNext, .slice aTables x.fTables.length cTables, .slice aIndexes x.fIndexes.length cIndexes] ∧ isI64 x.fVersion ∧ isI64 x.fNext ∧ rList rGTable w p [.slice aTables x.fTables.length cTables] x.fTables ∧ rList rGIndex w p [.slice aIndexes x.fIndexes.length cIndexes] x.fIndexes ∧ True := by
 obtain ⟨k0, k1, k2, k3, rfl, h0, h1, h2, h3⟩ := h
 obtain ⟨rfl, f0⟩ := h0
 obtain ⟨rfl, f1⟩ := h1
 obtain ⟨aTables, cTables, rfl, f2⟩ := rList_open h2
 obtain ⟨aIndexes, cIndexes, rfl, f3⟩ := rList_open h3
 exact ⟨aTables, cTables, aIndexes, cIndexes, rfl, isI64_wf f0, isI64_wf f1, f2, f3, trivial⟩
def encGPair (x : GPair) : List UInt8 := textB x.fKey ++ textB x.fValue ++ encI x.fVersion
theorem encGPair_len (x : GPair) : (encGPair x).length ≤ 10 * x.size := by
 simp only [encGPair, List.length_append, GPair.size]
 have h0 := textB_len x.fKey
 have h1 := textB_len x.fValue
 have h2 := encI_len x.fVersion
 omega
theorem rGPair_open {w : World} {p : Nat → Prop} {cs : List Value} {x : GPair} (h : rGPair w p cs x) : ∃ aKey cKey aValue cValue, cs = [.slice aKey x.fKey.length cKey, .slice aValue x.fValue.length cValue, .int .i64 x.fVersion] ∧ (Lies w p aKey (x.fKey.map bv) ∧ x.fKey.length ≤ cKey ∧ x.fKey.length ≤ far) ∧ (Lies w p aValue (x.fValue.map bv) ∧ x.fValue.length ≤ cValue ∧ x.fValue.length ≤ far) ∧ isI64 x.fVersion ∧ True := by
 obtain ⟨k0, k1, k2, rfl, h0, h1, h2⟩ := h
 obtain ⟨aKey, cKey, rfl, f0⟩ := h0
 obtain ⟨aValue, cValue, rfl, f1⟩ := h1
 obtain ⟨rfl, f2⟩ := h2
 exact ⟨aKey, cKey, aValue, cValue, rfl, f0, f1, isI64_wf f2, trivial⟩
theorem rGSpan_open {w : World} {p : Nat → Prop} {cs : List Value} {x : GSpan} (h : rGSpan w p cs x) : ∃ aFrom cFrom aTo cTo, cs = [.slice aFrom x.fFrom.length cFrom, .slice aTo x.fTo.length cTo] ∧ (Lies w p aFrom (x.fFrom.map bv) ∧ x.fFrom.length ≤ cFrom ∧ x.fFrom.length ≤ far) ∧ (Lies w p aTo (x.fTo.map bv) ∧ x.fTo.length ≤ cTo ∧ x.fTo.length ≤ far) ∧ True := by
 obtain ⟨k0, k1, rfl, h0, h1⟩ := h
 obtain ⟨aFrom, cFrom, rfl, f0⟩ := h0
 obtain ⟨aTo, cTo, rfl, f1⟩ := h1
 exact ⟨aFrom, cFrom, aTo, cTo, rfl, f0, f1, trivial⟩
def encGOwner (x : GOwner) : List UInt8 := encI x.fGroup ++ textB x.fFrom
theorem encGOwner_len (x : GOwner) : (encGOwner x).length ≤ 10 * x.size := by
 simp only [encGOwner, List.length_append, GOwner.size]
 have h0 := encI_len x.fGroup
 have h1 := textB_len x.fFrom
 omega
theorem rGOwner_open {w : World} {p : Nat → Prop} {cs : List Value} {x : GOwner} (h : rGOwner w p cs x) : ∃ aFrom cFrom, cs = [.int .i64 x.fGroup, .slice aFrom x.fFrom.length cFrom] ∧ isI64 x.fGroup ∧ (Lies w p aFrom (x.fFrom.map bv) ∧ x.fFrom.length ≤ cFrom ∧ x.fFrom.length ≤ far) ∧ True := by
 obtain ⟨k0, k1, rfl, h0, h1⟩ := h
 obtain ⟨rfl, f0⟩ := h0
 obtain ⟨aFrom, cFrom, rfl, f1⟩ := h1
 exact ⟨aFrom, cFrom, rfl, isI64_wf f0, f1, trivial⟩
def encGRoutes (x : GRoutes) : List UInt8 := encI x.fEpoch ++ encI x.fBase ++ encL encGOwner x.fSpans ++ encI x.fMoving ++ textB x.fCut
theorem encGRoutes_len (x : GRoutes) : (encGRoutes x).length ≤ 10 * x.size := by
 simp only [encGRoutes, List.length_append, GRoutes.size]
 have h0 := encI_len x.fEpoch
 have h1 := encI_len x.fBase
 have h2 := encL_len encGOwner GOwner.size (encGOwner_len) x.fSpans
 have h3 := encI_len x.fMoving
 have h4 := textB_len x.fCut
 omega
theorem rGRoutes_open {w : World} {p : Nat → Prop} {cs : List Value} {x : GRoutes} (h : rGRoutes w p cs x) : ∃ aSpans cSpans aCut cCut, cs = [.int .i64 x.fEpoch, .int .i64 x.fBase, .slice aSpans x.fSpans.length cSpans, .int .i64 x.fMoving, .slice aCut x.fCut.length cCut] ∧ isI64 x.fEpoch ∧ isI64 x.fBase ∧ rList rGOwner w p [.slice aSpans x.fSpans.length cSpans] x.fSpans ∧ isI64 x.fMoving ∧ (Lies w p aCut (x.fCut.map bv) ∧ x.fCut.length ≤ cCut ∧ x.fCut.length ≤ far) ∧ True := by
 obtain ⟨k0, k1, k2, k3, k4, rfl, h0, h1, h2, h3, h4⟩ := h
 obtain ⟨rfl, f0⟩ := h0
 obtain ⟨rfl, f1⟩ := h1
 obtain ⟨aSpans, cSpans, rfl, f2⟩ := rList_open h2
 obtain ⟨rfl, f3⟩ := h3
 obtain ⟨aCut, cCut, rfl, f4⟩ := h4
 exact ⟨aSpans, cSpans, aCut, cCut, rfl, isI64_wf f0, isI64_wf f1, f2, isI64_wf f3, f4, trivial⟩
theorem rGCommand_open {w : World} {p : Nat → Prop} {cs : List Value} {x : GCommand} (h : rGCommand w p cs x) : ∃ aKey cKey aSpanFrom cSpanFrom aSpanTo cSpanTo aPairs cPairs aSeens cSeens aWrites cWrites aTableColumns cTableColumns aTableKey cTableKey aIndexColumns cIndexColumns, cs = [.int .i64 x.fKind, .int .i64 x.fEpoch, .int .u64 x.fTxn, .int .i64 x.fN, .int .i64 x.fFrom, .int .i64 x.fTo, .bool x.fFlag, .slice aKey x.fKey.length cKey, .slice aSpanFrom x.fSpan.fFrom.length cSpanFrom, .slice aSpanTo x.fSpan.fTo.length cSpanTo, .slice aPairs x.fPairs.length cPairs, .slice aSeens x.fSeens.length cSeens, .slice aWrites x.fWrites.length cWrites, .int .i64 x.fTable.fID, .string (strB x.fTable.fName), .slice aTableColumns x.fTable.fColumns.length cTableColumns, .slice aTableKey x.fTable.fKey.length cTableKey, .int .i64 x.fIndex.fID, .int .i64 x.fIndex.fTable, .string (strB x.fIndex.fName), .slice aIndexColumns x.fIndex.fColumns.length cIndexColumns, .bool x.fIndex.fUnique, .int .i64 x.fIndex.fState, .bool x.fIndex.fBad, .string (strB x.fName)] ∧ isI64 x.fKind ∧ isI64 x.fEpoch ∧ isU64 x.fTxn ∧ isI64 x.fN ∧ isI64 x.fFrom ∧ isI64 x.fTo ∧ (Lies w p aKey (x.fKey.map bv) ∧ x.fKey.length ≤ cKey ∧ x.fKey.length ≤ far) ∧ rGSpan w p [.slice aSpanFrom x.fSpan.fFrom.length cSpanFrom, .slice aSpanTo x.fSpan.fTo.length cSpanTo] x.fSpan ∧ rList rGPair w p [.slice aPairs x.fPairs.length cPairs] x.fPairs ∧ rList rGSeen w p [.slice aSeens x.fSeens.length cSeens] x.fSeens ∧ rList rGWrite w p [.slice aWrites x.fWrites.length cWrites] x.fWrites ∧ rGTable w p [.int .i64 x.fTable.fID, .string (strB x.fTable.fName), .slice aTableColumns x.fTable.fColumns.length cTableColumns, .slice aTableKey x.fTable.fKey.length cTableKey] x.fTable ∧ rGIndex w p [.int .i64 x.fIndex.fID, .int .i64 x.fIndex.fTable, .string (strB x.fIndex.fName), .slice aIndexColumns x.fIndex.fColumns.length cIndexColumns, .bool x.fIndex.fUnique, .int .i64 x.fIndex.fState, .bool x.fIndex.fBad] x.fIndex ∧ x.fName.length ≤ far ∧ True := by
 obtain ⟨k0, k1, k2, k3, k4, k5, k6, k7, k8, k9, k10, k11, k12, k13, k14, rfl, h0, h1, h2, h3, h4, h5, h6, h7, h8, h9, h10, h11, h12, h13, h14⟩ := h
 obtain ⟨rfl, f0⟩ := h0
 obtain ⟨rfl, f1⟩ := h1
 obtain ⟨rfl, f2⟩ := h2
 obtain ⟨rfl, f3⟩ := h3
 obtain ⟨rfl, f4⟩ := h4
 obtain ⟨rfl, f5⟩ := h5
 obtain rfl := h6
 obtain ⟨aKey, cKey, rfl, f7⟩ := h7
 have f8 := h8
 obtain ⟨aSpanFrom, cSpanFrom, aSpanTo, cSpanTo, rfl, -⟩ := rGSpan_open h8
 obtain ⟨aPairs, cPairs, rfl, f9⟩ := rList_open h9
 obtain ⟨aSeens, cSeens, rfl, f10⟩ := rList_open h10
 obtain ⟨aWrites, cWrites, rfl, f11⟩ := rList_open h11
 have f12 := h12
 obtain ⟨aTableColumns, cTableColumns, aTableKey, cTableKey, rfl, -⟩ := rGTable_open h12
 have f13 := h13
 obtain ⟨aIndexColumns, cIndexColumns, rfl, -⟩ := rGIndex_open h13
 obtain ⟨rfl, f14⟩ := h14
 exact ⟨aKey, cKey, aSpanFrom, cSpanFrom, aSpanTo, cSpanTo, aPairs, cPairs, aSeens, cSeens, aWrites, cWrites, aTableColumns, cTableColumns, aTableKey, cTableKey, aIndexColumns, cIndexColumns, rfl, isI64_wf f0, isI64_wf f1, isU64_wf f2, isI64_wf f3, isI64_wf f4, isI64_wf f5, f7, f8, f9, f10, f11, f12, f13, f14, trivial⟩
def encGReply (x : GReply) : List UInt8 := encI x.fErr ++ encU x.fTxn ++ encI x.fN ++ encF x.fFlag ++ encL encGPair x.fPairs ++ encL encU x.fTxns ++ encGCatalog x.fCatalog ++ encGRoutes x.fRoutes
theorem encGReply_len (x : GReply) : (encGReply x).length ≤ 10 * x.size := by
 simp only [encGReply, List.length_append, GReply.size]
 have h0 := encI_len x.fErr
 have h1 := encU_len x.fTxn
 have h2 := encI_len x.fN
 have h3 := encF_len x.fFlag
 have h4 := encL_len encGPair GPair.size (encGPair_len) x.fPairs
 have h5 := encL_len encU (fun _ => 1) (fun x => by have := encU_len x; omega) x.fTxns
 have h6 := encGCatalog_len x.fCatalog
 have h7 := encGRoutes_len x.fRoutes
 omega
theorem rGReply_open {w : World} {p : Nat → Prop} {cs : List Value} {x : GReply} (h : rGReply w p cs x) : ∃ aPairs cPairs aTxns cTxns aCatalogTables cCatalogTables aCatalogIndexes cCatalogIndexes aRoutesSpans cRoutesSpans aRoutesCut cRoutesCut, cs = [.int .i64 x.fErr, .int .u64 x.fTxn, .int .i64 x.fN, .bool x.fFlag, .slice aPairs x.fPairs.length cPairs, .slice aTxns x.fTxns.length cTxns, .int .i64 x.fCatalog.fVersion, .int .i64 x.fCatalog.fNext, .slice aCatalogTables x.fCatalog.fTables.length cCatalogTables, .slice aCatalogIndexes x.fCatalog.fIndexes.length cCatalogIndexes, .int .i64 x.fRoutes.fEpoch, .int .i64 x.fRoutes.fBase, .slice aRoutesSpans x.fRoutes.fSpans.length cRoutesSpans, .int .i64 x.fRoutes.fMoving, .slice aRoutesCut x.fRoutes.fCut.length cRoutesCut] ∧ isI64 x.fErr ∧ isU64 x.fTxn ∧ isI64 x.fN ∧ rList rGPair w p [.slice aPairs x.fPairs.length cPairs] x.fPairs ∧ rList (rInt .u64) w p [.slice aTxns x.fTxns.length cTxns] x.fTxns ∧ rGCatalog w p [.int .i64 x.fCatalog.fVersion, .int .i64 x.fCatalog.fNext, .slice aCatalogTables x.fCatalog.fTables.length cCatalogTables, .slice aCatalogIndexes x.fCatalog.fIndexes.length cCatalogIndexes] x.fCatalog ∧ rGRoutes w p [.int .i64 x.fRoutes.fEpoch, .int .i64 x.fRoutes.fBase, .slice aRoutesSpans x.fRoutes.fSpans.length cRoutesSpans, .int .i64 x.fRoutes.fMoving, .slice aRoutesCut x.fRoutes.fCut.length cRoutesCut] x.fRoutes ∧ True := by
 obtain ⟨k0, k1, k2, k3, k4, k5, k6, k7, rfl, h0, h1, h2, h3, h4, h5, h6, h7⟩ := h
 obtain ⟨rfl, f0⟩ := h0
 obtain ⟨rfl, f1⟩ := h1
 obtain ⟨rfl, f2⟩ := h2
 obtain rfl := h3
 obtain ⟨aPairs, cPairs, rfl, f4⟩ := rList_open h4
 obtain ⟨aTxns, cTxns, rfl, f5⟩ := rList_open h5
 have f6 := h6
 obtain ⟨aCatalogTables, cCatalogTables, aCatalogIndexes, cCatalogIndexes, rfl, -⟩ := rGCatalog_open h6
 have f7 := h7
 obtain ⟨aRoutesSpans, cRoutesSpans, aRoutesCut, cRoutesCut, rfl, -⟩ := rGRoutes_open h7
 exact ⟨aPairs, cPairs, aTxns, cTxns, aCatalogTables, cCatalogTables, aCatalogIndexes, cCatalogIndexes, aRoutesSpans, cRoutesSpans, aRoutesCut, cRoutesCut, rfl, isI64_wf f0, isU64_wf f1, isI64_wf f2, f4, f5, f6, f7, trivial⟩
end Go.Proofs.YtibaehlfpgipfaaGreat
