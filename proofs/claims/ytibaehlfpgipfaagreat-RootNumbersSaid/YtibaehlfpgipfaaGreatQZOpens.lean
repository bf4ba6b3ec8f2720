/- THE STRUCTS: their cells written out, their rows in the table. Printed by gen16.py. -/
import Derived.Test.YtibaehlfpgipfaaGreatQZTypes
import Derived.Test.YtibaehlfpgipfaaGreatQZLst
namespace Go.Proofs.YtibaehlfpgipfaaGreat
open Go.RowKit
theorem wf_of_isI64 {n : Int} (h : isI64 n) : (Lit.int .i64 n).wf = true := Go.WalkArith.wf_i64 h
theorem wf_of_isU64 {n : Int} (h : isU64 n) : (Lit.int .u64 n).wf = true := Go.WalkArith.wf_u64 h
theorem rGOwner_open {w : World} {p : Nat → Prop} {cs : List Value} {x : GOwner} (h : rGOwner w p cs x) : ∃ aFrom cFrom, cs = [.int .i64 x.fGroup, .slice aFrom x.fFrom.length cFrom] ∧ isI64 x.fGroup ∧ (Lies w p aFrom (x.fFrom.map bv) ∧ x.fFrom.length ≤ cFrom ∧ x.fFrom.length ≤ far) ∧ True := by
 obtain ⟨k0, k1, rfl, h0, h1⟩ := h
 obtain ⟨rfl, f0⟩ := h0
 obtain ⟨aFrom, cFrom, rfl, f1⟩ := h1
 exact ⟨aFrom, cFrom, rfl, isI64_wf f0, f1, trivial⟩
theorem rGOwner_mk (w : World) (p : Nat → Prop) {x : GOwner} {aFrom : Option Addr} {cFrom : Nat} (h0 : isI64 x.fGroup) (h1 : (Lies w p aFrom (x.fFrom.map bv) ∧ x.fFrom.length ≤ cFrom ∧ x.fFrom.length ≤ far)) : rGOwner w p [.int .i64 x.fGroup, .slice aFrom x.fFrom.length cFrom] x :=
 ⟨[.int .i64 x.fGroup], [.slice aFrom x.fFrom.length cFrom], rfl, ⟨rfl, wf_of_isI64 h0⟩, ⟨_, _, rfl, h1⟩⟩
theorem S_Owner : StructT Tryz.prog 97 2 := ⟨⟨_, Tryz.underlying97⟩, by kernel_rfl⟩
theorem ldz_Owner (a : Act) (dst : Option Tmp) (x : Operand) (ty : TypeId) (pos : String) (after : Array Edge) (guard : Option (Nat × Bool)) : execOp a.eval { dst := dst, op := .load 97 x, type := ty, pos := pos, after := after, guard := guard } = wholeSem 97 (a.eval x) := rfl
theorem T_lOwner : SliceT Tryz.prog 51 97 2 32 := SliceT.mk' Tryz.underlying51 (z := .agg #[.int .i64 0, .slice none 0 0]) (by kernel_rfl) rfl (by decide)
theorem rGRoutes_open {w : World} {p : Nat → Prop} {cs : List Value} {x : GRoutes} (h : rGRoutes w p cs x) : ∃ aSpans cSpans aCut cCut, cs = [.int .i64 x.fEpoch, .int .i64 x.fBase, .slice aSpans x.fSpans.length cSpans, .int .i64 x.fMoving, .slice aCut x.fCut.length cCut] ∧ isI64 x.fEpoch ∧ isI64 x.fBase ∧ rList rGOwner w p [.slice aSpans x.fSpans.length cSpans] x.fSpans ∧ isI64 x.fMoving ∧ (Lies w p aCut (x.fCut.map bv) ∧ x.fCut.length ≤ cCut ∧ x.fCut.length ≤ far) ∧ True := by
 obtain ⟨k0, k1, k2, k3, k4, rfl, h0, h1, h2, h3, h4⟩ := h
 obtain ⟨rfl, f0⟩ := h0
 obtain ⟨rfl, f1⟩ := h1
 obtain ⟨aSpans, cSpans, rfl, f2⟩ := rList_open h2
 obtain ⟨rfl, f3⟩ := h3
 obtain ⟨aCut, cCut, rfl, f4⟩ := h4
 exact ⟨aSpans, cSpans, aCut, cCut, rfl, isI64_wf f0, isI64_wf f1, f2, isI64_wf f3, f4, trivial⟩
theorem rGRoutes_mk (w : World) (p : Nat → Prop) {x : GRoutes} {aSpans aCut : Option Addr} {cSpans cCut : Nat} (h0 : isI64 x.fEpoch) (h1 : isI64 x.fBase) (h2 : rList rGOwner w p [.slice aSpans x.fSpans.length cSpans] x.fSpans) (h3 : isI64 x.fMoving) (h4 : (Lies w p aCut (x.fCut.map bv) ∧ x.fCut.length ≤ cCut ∧ x.fCut.length ≤ far)) : rGRoutes w p [.int .i64 x.fEpoch, .int .i64 x.fBase, .slice aSpans x.fSpans.length cSpans, .int .i64 x.fMoving, .slice aCut x.fCut.length cCut] x :=
 ⟨[.int .i64 x.fEpoch], [.int .i64 x.fBase], [.slice aSpans x.fSpans.length cSpans], [.int .i64 x.fMoving], [.slice aCut x.fCut.length cCut], rfl, ⟨rfl, wf_of_isI64 h0⟩, ⟨rfl, wf_of_isI64 h1⟩, h2, ⟨rfl, wf_of_isI64 h3⟩, ⟨_, _, rfl, h4⟩⟩
theorem S_Routes : StructT Tryz.prog 53 5 := ⟨⟨_, Tryz.underlying53⟩, by kernel_rfl⟩
theorem ldz_Routes (a : Act) (dst : Option Tmp) (x : Operand) (ty : TypeId) (pos : String) (after : Array Edge) (guard : Option (Nat × Bool)) : execOp a.eval { dst := dst, op := .load 53 x, type := ty, pos := pos, after := after, guard := guard } = wholeSem 53 (a.eval x) := rfl
theorem stz_Routes (a : Act) (dst : Option Tmp) (x y : Operand) (ty : TypeId) (pos : String) (after : Array Edge) (guard : Option (Nat × Bool)) : execOp a.eval { dst := dst, op := .store 53 x y, type := ty, pos := pos, after := after, guard := guard } = storeSem 53 (a.eval x) (a.eval y) := rfl
theorem rGColumn_open {w : World} {p : Nat → Prop} {cs : List Value} {x : GColumn} (h : rGColumn w p cs x) : cs = [.string (strB x.fName), .int .i64 x.fKind, .bool x.fNull] ∧ x.fName.length ≤ far ∧ isI64 x.fKind ∧ True := by
 obtain ⟨k0, k1, k2, rfl, h0, h1, h2⟩ := h
 obtain ⟨rfl, f0⟩ := h0
 obtain ⟨rfl, f1⟩ := h1
 obtain rfl := h2
 exact ⟨rfl, f0, isI64_wf f1, trivial⟩
theorem rGColumn_ones {w : World} {p : Nat → Prop} {cs : List Value} {x : GColumn} (h : rGColumn w p cs x) : ones cs = true := by
 obtain ⟨rfl, -⟩ := rGColumn_open h
 rfl
theorem S_Column : StructT Tryz.prog 148 3 := ⟨⟨_, Tryz.underlying148⟩, by kernel_rfl⟩
theorem ldz_Column (a : Act) (dst : Option Tmp) (x : Operand) (ty : TypeId) (pos : String) (after : Array Edge) (guard : Option (Nat × Bool)) : execOp a.eval { dst := dst, op := .load 148 x, type := ty, pos := pos, after := after, guard := guard } = wholeSem 148 (a.eval x) := rfl
theorem stz_Column (a : Act) (dst : Option Tmp) (x y : Operand) (ty : TypeId) (pos : String) (after : Array Edge) (guard : Option (Nat × Bool)) : execOp a.eval { dst := dst, op := .store 148 x y, type := ty, pos := pos, after := after, guard := guard } = storeSem 148 (a.eval x) (a.eval y) := rfl
theorem T_lColumn : SliceT Tryz.prog 36 148 3 32 := SliceT.mk' Tryz.underlying36 (z := .agg #[.string { data := #[] }, .int .i64 0, .bool false]) (by kernel_rfl) rfl (by decide)
theorem rGTable_open {w : World} {p : Nat → Prop} {cs : List Value} {x : GTable} (h : rGTable w p cs x) : ∃ aColumns cColumns aKey cKey, cs = [.int .i64 x.fID, .string (strB x.fName), .slice aColumns x.fColumns.length cColumns, .slice aKey x.fKey.length cKey] ∧ isI64 x.fID ∧ x.fName.length ≤ far ∧ rList rGColumn w p [.slice aColumns x.fColumns.length cColumns] x.fColumns ∧ rList (rInt .i64) w p [.slice aKey x.fKey.length cKey] x.fKey ∧ True := by
 obtain ⟨k0, k1, k2, k3, rfl, h0, h1, h2, h3⟩ := h
 obtain ⟨rfl, f0⟩ := h0
 obtain ⟨rfl, f1⟩ := h1
 obtain ⟨aColumns, cColumns, rfl, f2⟩ := rList_open h2
 obtain ⟨aKey, cKey, rfl, f3⟩ := rList_open h3
 exact ⟨aColumns, cColumns, aKey, cKey, rfl, isI64_wf f0, f1, f2, f3, trivial⟩
theorem rGTable_ones {w : World} {p : Nat → Prop} {cs : List Value} {x : GTable} (h : rGTable w p cs x) : ones cs = true := by
 obtain ⟨_, _, _, _, rfl, -⟩ := rGTable_open h
 rfl
theorem rGTable_mk (w : World) (p : Nat → Prop) {x : GTable} {aColumns aKey : Option Addr} {cColumns cKey : Nat} (h0 : isI64 x.fID) (h1 : x.fName.length ≤ far) (h2 : rList rGColumn w p [.slice aColumns x.fColumns.length cColumns] x.fColumns) (h3 : rList (rInt .i64) w p [.slice aKey x.fKey.length cKey] x.fKey) : rGTable w p [.int .i64 x.fID, .string (strB x.fName), .slice aColumns x.fColumns.length cColumns, .slice aKey x.fKey.length cKey] x :=
 ⟨[.int .i64 x.fID], [.string (strB x.fName)], [.slice aColumns x.fColumns.length cColumns], [.slice aKey x.fKey.length cKey], rfl, ⟨rfl, wf_of_isI64 h0⟩, ⟨rfl, h1⟩, h2, h3⟩
theorem S_Table : StructT Tryz.prog 39 4 := ⟨⟨_, Tryz.underlying39⟩, by kernel_rfl⟩
theorem ldz_Table (a : Act) (dst : Option Tmp) (x : Operand) (ty : TypeId) (pos : String) (after : Array Edge) (guard : Option (Nat × Bool)) : execOp a.eval { dst := dst, op := .load 39 x, type := ty, pos := pos, after := after, guard := guard } = wholeSem 39 (a.eval x) := rfl
theorem stz_Table (a : Act) (dst : Option Tmp) (x y : Operand) (ty : TypeId) (pos : String) (after : Array Edge) (guard : Option (Nat × Bool)) : execOp a.eval { dst := dst, op := .store 39 x y, type := ty, pos := pos, after := after, guard := guard } = storeSem 39 (a.eval x) (a.eval y) := rfl
theorem T_lTable : SliceT Tryz.prog 47 39 4 72 := SliceT.mk' Tryz.underlying47 (z := .agg #[.int .i64 0, .string { data := #[] }, .slice none 0 0, .slice none 0 0]) (by kernel_rfl) rfl (by decide)
theorem lsz_Table (a : Act) (dst : Option Tmp) (parts : Array (Nat × Operand)) (ty : TypeId) (pos : String) (after : Array Edge) (guard : Option (Nat × Bool)) : execOp a.eval { dst := dst, op := .buildSlice 47 1 parts, type := ty, pos := pos, after := after, guard := guard } = listSem 47 1 (parts.map fun x => (x.1, a.eval x.2)) := rfl
theorem rGIndex_open {w : World} {p : Nat → Prop} {cs : List Value} {x : GIndex} (h : rGIndex w p cs x) : ∃ aColumns cColumns, cs = [.int .i64 x.fID, .int .i64 x.fTable, .string (strB x.fName), .slice aColumns x.fColumns.length cColumns, .bool x.fUnique, .int .i64 x.fState, .bool x.fBad] ∧ isI64 x.fID ∧ isI64 x.fTable ∧ x.fName.length ≤ far ∧ rList (rInt .i64) w p [.slice aColumns x.fColumns.length cColumns] x.fColumns ∧ isI64 x.fState ∧ True := by
 obtain ⟨k0, k1, k2, k3, k4, k5, k6, rfl, h0, h1, h2, h3, h4, h5, h6⟩ := h
 obtain ⟨rfl, f0⟩ := h0
 obtain ⟨rfl, f1⟩ := h1
 obtain ⟨rfl, f2⟩ := h2
 obtain ⟨aColumns, cColumns, rfl, f3⟩ := rList_open h3
 obtain rfl := h4
 obtain ⟨rfl, f5⟩ := h5
 obtain rfl := h6
 exact ⟨aColumns, cColumns, rfl, isI64_wf f0, isI64_wf f1, f2, f3, isI64_wf f5, trivial⟩
theorem rGIndex_ones {w : World} {p : Nat → Prop} {cs : List Value} {x : GIndex} (h : rGIndex w p cs x) : ones cs = true := by
 obtain ⟨_, _, rfl, -⟩ := rGIndex_open h
 rfl
theorem S_Index : StructT Tryz.prog 41 7 := ⟨⟨_, Tryz.underlying41⟩, by kernel_rfl⟩
theorem ldz_Index (a : Act) (dst : Option Tmp) (x : Operand) (ty : TypeId) (pos : String) (after : Array Edge) (guard : Option (Nat × Bool)) : execOp a.eval { dst := dst, op := .load 41 x, type := ty, pos := pos, after := after, guard := guard } = wholeSem 41 (a.eval x) := rfl
theorem stz_Index (a : Act) (dst : Option Tmp) (x y : Operand) (ty : TypeId) (pos : String) (after : Array Edge) (guard : Option (Nat × Bool)) : execOp a.eval { dst := dst, op := .store 41 x y, type := ty, pos := pos, after := after, guard := guard } = storeSem 41 (a.eval x) (a.eval y) := rfl
theorem T_lIndex : SliceT Tryz.prog 48 41 7 80 := SliceT.mk' Tryz.underlying48 (z := .agg #[.int .i64 0, .int .i64 0, .string { data := #[] }, .slice none 0 0, .bool false, .int .i64 0, .bool false]) (by kernel_rfl) rfl (by decide)
theorem lsz_Index (a : Act) (dst : Option Tmp) (parts : Array (Nat × Operand)) (ty : TypeId) (pos : String) (after : Array Edge) (guard : Option (Nat × Bool)) : execOp a.eval { dst := dst, op := .buildSlice 48 1 parts, type := ty, pos := pos, after := after, guard := guard } = listSem 48 1 (parts.map fun x => (x.1, a.eval x.2)) := rfl
theorem rGCatalog_open {w : World} {p : Nat → Prop} {cs : List Value} {x : GCatalog} (h : rGCatalog w p cs x) : ∃ aTables cTables aIndexes cIndexes, cs = [.int .i64 x.fVersion, .int .i64 x.fNext, .slice aTables x.fTables.length cTables, .slice aIndexes x.fIndexes.length cIndexes] ∧ isI64 x.fVersion ∧ isI64 x.fNext ∧ rList rGTable w p [.slice aTables x.fTables.length cTables] x.fTables ∧ rList rGIndex w p [.slice aIndexes x.fIndexes.length cIndexes] x.fIndexes ∧ True := by
 obtain ⟨k0, k1, k2, k3, rfl, h0, h1, h2, h3⟩ := h
 obtain ⟨rfl, f0⟩ := h0
 obtain ⟨rfl, f1⟩ := h1
 obtain ⟨aTables, cTables, rfl, f2⟩ := rList_open h2
 obtain ⟨aIndexes, cIndexes, rfl, f3⟩ := rList_open h3
 exact ⟨aTables, cTables, aIndexes, cIndexes, rfl, isI64_wf f0, isI64_wf f1, f2, f3, trivial⟩
theorem rGCatalog_ones {w : World} {p : Nat → Prop} {cs : List Value} {x : GCatalog} (h : rGCatalog w p cs x) : ones cs = true := by
 obtain ⟨_, _, _, _, rfl, -⟩ := rGCatalog_open h
 rfl
theorem rGCatalog_mk (w : World) (p : Nat → Prop) {x : GCatalog} {aTables aIndexes : Option Addr} {cTables cIndexes : Nat} (h0 : isI64 x.fVersion) (h1 : isI64 x.fNext) (h2 : rList rGTable w p [.slice aTables x.fTables.length cTables] x.fTables) (h3 : rList rGIndex w p [.slice aIndexes x.fIndexes.length cIndexes] x.fIndexes) : rGCatalog w p [.int .i64 x.fVersion, .int .i64 x.fNext, .slice aTables x.fTables.length cTables, .slice aIndexes x.fIndexes.length cIndexes] x :=
 ⟨[.int .i64 x.fVersion], [.int .i64 x.fNext], [.slice aTables x.fTables.length cTables], [.slice aIndexes x.fIndexes.length cIndexes], rfl, ⟨rfl, wf_of_isI64 h0⟩, ⟨rfl, wf_of_isI64 h1⟩, h2, h3⟩
theorem S_Catalog : StructT Tryz.prog 50 4 := ⟨⟨_, Tryz.underlying50⟩, by kernel_rfl⟩
theorem ldz_Catalog (a : Act) (dst : Option Tmp) (x : Operand) (ty : TypeId) (pos : String) (after : Array Edge) (guard : Option (Nat × Bool)) : execOp a.eval { dst := dst, op := .load 50 x, type := ty, pos := pos, after := after, guard := guard } = wholeSem 50 (a.eval x) := rfl
theorem stz_Catalog (a : Act) (dst : Option Tmp) (x y : Operand) (ty : TypeId) (pos : String) (after : Array Edge) (guard : Option (Nat × Bool)) : execOp a.eval { dst := dst, op := .store 50 x y, type := ty, pos := pos, after := after, guard := guard } = storeSem 50 (a.eval x) (a.eval y) := rfl
theorem T_lCatalog : SliceT Tryz.prog 76 50 4 64 := SliceT.mk' Tryz.underlying76 (z := .agg #[.int .i64 0, .int .i64 0, .slice none 0 0, .slice none 0 0]) (by kernel_rfl) rfl (by decide)
theorem lsz_Catalog (a : Act) (dst : Option Tmp) (parts : Array (Nat × Operand)) (ty : TypeId) (pos : String) (after : Array Edge) (guard : Option (Nat × Bool)) : execOp a.eval { dst := dst, op := .buildSlice 76 1 parts, type := ty, pos := pos, after := after, guard := guard } = listSem 76 1 (parts.map fun x => (x.1, a.eval x.2)) := rfl
theorem rGSpan_open {w : World} {p : Nat → Prop} {cs : List Value} {x : GSpan} (h : rGSpan w p cs x) : ∃ aFrom cFrom aTo cTo, cs = [.slice aFrom x.fFrom.length cFrom, .slice aTo x.fTo.length cTo] ∧ (Lies w p aFrom (x.fFrom.map bv) ∧ x.fFrom.length ≤ cFrom ∧ x.fFrom.length ≤ far) ∧ (Lies w p aTo (x.fTo.map bv) ∧ x.fTo.length ≤ cTo ∧ x.fTo.length ≤ far) ∧ True := by
 obtain ⟨k0, k1, rfl, h0, h1⟩ := h
 obtain ⟨aFrom, cFrom, rfl, f0⟩ := h0
 obtain ⟨aTo, cTo, rfl, f1⟩ := h1
 exact ⟨aFrom, cFrom, aTo, cTo, rfl, f0, f1, trivial⟩
theorem rGSpan_mk (w : World) (p : Nat → Prop) {x : GSpan} {aFrom aTo : Option Addr} {cFrom cTo : Nat} (h0 : (Lies w p aFrom (x.fFrom.map bv) ∧ x.fFrom.length ≤ cFrom ∧ x.fFrom.length ≤ far)) (h1 : (Lies w p aTo (x.fTo.map bv) ∧ x.fTo.length ≤ cTo ∧ x.fTo.length ≤ far)) : rGSpan w p [.slice aFrom x.fFrom.length cFrom, .slice aTo x.fTo.length cTo] x :=
 ⟨[.slice aFrom x.fFrom.length cFrom], [.slice aTo x.fTo.length cTo], rfl, ⟨_, _, rfl, h0⟩, ⟨_, _, rfl, h1⟩⟩
theorem rGPair_open {w : World} {p : Nat → Prop} {cs : List Value} {x : GPair} (h : rGPair w p cs x) : ∃ aKey cKey aValue cValue, cs = [.slice aKey x.fKey.length cKey, .slice aValue x.fValue.length cValue, .int .i64 x.fVersion] ∧ (Lies w p aKey (x.fKey.map bv) ∧ x.fKey.length ≤ cKey ∧ x.fKey.length ≤ far) ∧ (Lies w p aValue (x.fValue.map bv) ∧ x.fValue.length ≤ cValue ∧ x.fValue.length ≤ far) ∧ isI64 x.fVersion ∧ True := by
 obtain ⟨k0, k1, k2, rfl, h0, h1, h2⟩ := h
 obtain ⟨aKey, cKey, rfl, f0⟩ := h0
 obtain ⟨aValue, cValue, rfl, f1⟩ := h1
 obtain ⟨rfl, f2⟩ := h2
 exact ⟨aKey, cKey, aValue, cValue, rfl, f0, f1, isI64_wf f2, trivial⟩
theorem rGCommand_open {w : World} {p : Nat → Prop} {cs : List Value} {x : GCommand} (h : rGCommand w p cs x) : ∃ aKey cKey aSpanFrom cSpanFrom aSpanTo cSpanTo aPairs cPairs aSeens cSeens aWrites cWrites aTableColumns cTableColumns aTableKey cTableKey aIndexColumns cIndexColumns, cs = [.int .i64 x.fKind, .int .i64 x.fEpoch, .int .u64 x.fTxn, .int .i64 x.fN, .int .i64 x.fFrom, .int .i64 x.fTo, .bool x.fFlag, .slice aKey x.fKey.length cKey, .slice aSpanFrom x.fSpan.fFrom.length cSpanFrom, .slice aSpanTo x.fSpan.fTo.length cSpanTo, .slice aPairs x.fPairs.length cPairs, .slice aSeens x.fSeens.length cSeens, .slice aWrites x.fWrites.length cWrites, .int .i64 x.fTable.fID, .string (strB x.fTable.fName), .slice aTableColumns x.fTable.fColumns.length cTableColumns, .slice aTableKey x.fTable.fKey.length cTableKey, .int .i64 x.fIndex.fID, .int .i64 x.fIndex.fTable, .string (strB x.fIndex.fName), .slice aIndexColumns x.fIndex.fColumns.length cIndexColumns, .bool x.fIndex.fUnique, .int .i64 x.fIndex.fState, .bool x.fIndex.fBad, .string (strB x.fName)] ∧ isI64 x.fKind ∧ isI64 x.fEpoch ∧ isU64 x.fTxn ∧ isI64 x.fN ∧ isI64 x.fFrom ∧ isI64 x.fTo ∧ (Lies w p aKey (x.fKey.map bv) ∧ x.fKey.length ≤ cKey ∧ x.fKey.length ≤ far) ∧ rGSpan w p [.slice aSpanFrom x.fSpan.fFrom.length cSpanFrom, .slice aSpanTo x.fSpan.fTo.length cSpanTo] x.fSpan ∧ rList rGPair w p [.slice aPairs x.fPairs.length cPairs] x.fPairs ∧ rList rGSeen w p [.slice aSeens x.fSeens.length cSeens] x.fSeens ∧ rList rGWrite w p [.slice aWrites x.fWrites.length cWrites] x.fWrites ∧ rGTable w p [.int .i64 x.fTable.fID, .string (strB x.fTable.fName), .slice aTableColumns x.fTable.fColumns.length cTableColumns, .slice aTableKey x.fTable.fKey.length cTableKey] x.fTable ∧ rGIndex w p [.int .i64 x.fIndex.fID, .int .i64 x.fIndex.fTable, .string (strB x.fIndex.fName), .slice aIndexColumns x.fIndex.fColumns.length cIndexColumns, .bool x.fIndex.fUnique, .int .i64 x.fIndex.fState, .bool x.fIndex.fBad] x.fIndex ∧ x.fName.length ≤ far ∧ True := by
 obtain ⟨k0, k1, k2, k3, k4, k5, k6, k7, k8, k9, k10, k11, k12, k13, k14, rfl, h0, h1, h2, h3, h4, h5, h6, h7, h8, h9, h10, h11, h12, h13, h14⟩ := h
 obtain ⟨rfl, f0⟩ := h0
 obtain ⟨rfl, f1⟩ := h1
 obtain ⟨rfl, f2⟩ := h2
 obtain ⟨rfl, f3⟩ := h3
 obtain ⟨rfl, f4⟩ := h4
 obtain ⟨rfl, f5⟩ := h5
 obtain rfl := h6
 obtain ⟨aKey, cKey, rfl, f7⟩ := h7
 have f8 := h8
 obtain ⟨aSpanFrom, cSpanFrom, aSpanTo, cSpanTo, rfl, -⟩ := rGSpan_open h8
 obtain ⟨aPairs, cPairs, rfl, f9⟩ := rList_open h9
 obtain ⟨aSeens, cSeens, rfl, f10⟩ := rList_open h10
 obtain ⟨aWrites, cWrites, rfl, f11⟩ := rList_open h11
 have f12 := h12
 obtain ⟨aTableColumns, cTableColumns, aTableKey, cTableKey, rfl, -⟩ := rGTable_open h12
 have f13 := h13
 obtain ⟨aIndexColumns, cIndexColumns, rfl, -⟩ := rGIndex_open h13
 obtain ⟨rfl, f14⟩ := h14
 exact ⟨aKey, cKey, aSpanFrom, cSpanFrom, aSpanTo, cSpanTo, aPairs, cPairs, aSeens, cSeens, aWrites, cWrites, aTableColumns, cTableColumns, aTableKey, cTableKey, aIndexColumns, cIndexColumns, rfl, isI64_wf f0, isI64_wf f1, isU64_wf f2, isI64_wf f3, isI64_wf f4, isI64_wf f5, f7, f8, f9, f10, f11, f12, f13, f14, trivial⟩
theorem S_Command : StructT Tryz.prog 43 25 := ⟨⟨_, Tryz.underlying43⟩, by kernel_rfl⟩
theorem ldz_Command (a : Act) (dst : Option Tmp) (x : Operand) (ty : TypeId) (pos : String) (after : Array Edge) (guard : Option (Nat × Bool)) : execOp a.eval { dst := dst, op := .load 43 x, type := ty, pos := pos, after := after, guard := guard } = wholeSem 43 (a.eval x) := rfl
theorem rGReply_open {w : World} {p : Nat → Prop} {cs : List Value} {x : GReply} (h : rGReply w p cs x) : ∃ aPairs cPairs aTxns cTxns aCatalogTables cCatalogTables aCatalogIndexes cCatalogIndexes aRoutesSpans cRoutesSpans aRoutesCut cRoutesCut, cs = [.int .i64 x.fErr, .int .u64 x.fTxn, .int .i64 x.fN, .bool x.fFlag, .slice aPairs x.fPairs.length cPairs, .slice aTxns x.fTxns.length cTxns, .int .i64 x.fCatalog.fVersion, .int .i64 x.fCatalog.fNext, .slice aCatalogTables x.fCatalog.fTables.length cCatalogTables, .slice aCatalogIndexes x.fCatalog.fIndexes.length cCatalogIndexes, .int .i64 x.fRoutes.fEpoch, .int .i64 x.fRoutes.fBase, .slice aRoutesSpans x.fRoutes.fSpans.length cRoutesSpans, .int .i64 x.fRoutes.fMoving, .slice aRoutesCut x.fRoutes.fCut.length cRoutesCut] ∧ isI64 x.fErr ∧ isU64 x.fTxn ∧ isI64 x.fN ∧ rList rGPair w p [.slice aPairs x.fPairs.length cPairs] x.fPairs ∧ rList (rInt .u64) w p [.slice aTxns x.fTxns.length cTxns] x.fTxns ∧ rGCatalog w p [.int .i64 x.fCatalog.fVersion, .int .i64 x.fCatalog.fNext, .slice aCatalogTables x.fCatalog.fTables.length cCatalogTables, .slice aCatalogIndexes x.fCatalog.fIndexes.length cCatalogIndexes] x.fCatalog ∧ rGRoutes w p [.int .i64 x.fRoutes.fEpoch, .int .i64 x.fRoutes.fBase, .slice aRoutesSpans x.fRoutes.fSpans.length cRoutesSpans, .int .i64 x.fRoutes.fMoving, .slice aRoutesCut x.fRoutes.fCut.length cRoutesCut] x.fRoutes ∧ True := by
 obtain ⟨k0, k1, k2, k3, k4, k5, k6, k7, rfl, h0, h1, h2, h3, h4, h5, h6, h7⟩ := h
 obtain ⟨rfl, f0⟩ := h0
 obtain ⟨rfl, f1⟩ := h1
 obtain ⟨rfl, f2⟩ := h2
 obtain rfl := h3
 obtain ⟨aPairs, cPairs, rfl, f4⟩ := rList_open h4
 obtain ⟨aTxns, cTxns, rfl, f5⟩ := rList_open h5
 have f6 := h6
 obtain ⟨aCatalogTables, cCatalogTables, aCatalogIndexes, cCatalogIndexes, rfl, -⟩ := rGCatalog_open h6
 have f7 := h7
 obtain ⟨aRoutesSpans, cRoutesSpans, aRoutesCut, cRoutesCut, rfl, -⟩ := rGRoutes_open h7
 exact ⟨aPairs, cPairs, aTxns, cTxns, aCatalogTables, cCatalogTables, aCatalogIndexes, cCatalogIndexes, aRoutesSpans, cRoutesSpans, aRoutesCut, cRoutesCut, rfl, isI64_wf f0, isU64_wf f1, isI64_wf f2, f4, f5, f6, f7, trivial⟩
theorem rGReply_ones {w : World} {p : Nat → Prop} {cs : List Value} {x : GReply} (h : rGReply w p cs x) : ones cs = true := by
 obtain ⟨_, _, _, _, _, _, _, _, _, _, _, _, rfl, -⟩ := rGReply_open h
 rfl
theorem rGReply_mk (w : World) (p : Nat → Prop) {x : GReply} {aPairs aTxns aCatalogTables aCatalogIndexes aRoutesSpans aRoutesCut : Option Addr} {cPairs cTxns cCatalogTables cCatalogIndexes cRoutesSpans cRoutesCut : Nat} (h0 : isI64 x.fErr) (h1 : isU64 x.fTxn) (h2 : isI64 x.fN) (h4 : rList rGPair w p [.slice aPairs x.fPairs.length cPairs] x.fPairs) (h5 : rList (rInt .u64) w p [.slice aTxns x.fTxns.length cTxns] x.fTxns) (h6 : rGCatalog w p [.int .i64 x.fCatalog.fVersion, .int .i64 x.fCatalog.fNext, .slice aCatalogTables x.fCatalog.fTables.length cCatalogTables, .slice aCatalogIndexes x.fCatalog.fIndexes.length cCatalogIndexes] x.fCatalog) (h7 : rGRoutes w p [.int .i64 x.fRoutes.fEpoch, .int .i64 x.fRoutes.fBase, .slice aRoutesSpans x.fRoutes.fSpans.length cRoutesSpans, .int .i64 x.fRoutes.fMoving, .slice aRoutesCut x.fRoutes.fCut.length cRoutesCut] x.fRoutes) : rGReply w p [.int .i64 x.fErr, .int .u64 x.fTxn, .int .i64 x.fN, .bool x.fFlag, .slice aPairs x.fPairs.length cPairs, .slice aTxns x.fTxns.length cTxns, .int .i64 x.fCatalog.fVersion, .int .i64 x.fCatalog.fNext, .slice aCatalogTables x.fCatalog.fTables.length cCatalogTables, .slice aCatalogIndexes x.fCatalog.fIndexes.length cCatalogIndexes, .int .i64 x.fRoutes.fEpoch, .int .i64 x.fRoutes.fBase, .slice aRoutesSpans x.fRoutes.fSpans.length cRoutesSpans, .int .i64 x.fRoutes.fMoving, .slice aRoutesCut x.fRoutes.fCut.length cRoutesCut] x :=
 ⟨[.int .i64 x.fErr], [.int .u64 x.fTxn], [.int .i64 x.fN], [.bool x.fFlag], [.slice aPairs x.fPairs.length cPairs], [.slice aTxns x.fTxns.length cTxns], [.int .i64 x.fCatalog.fVersion, .int .i64 x.fCatalog.fNext, .slice aCatalogTables x.fCatalog.fTables.length cCatalogTables, .slice aCatalogIndexes x.fCatalog.fIndexes.length cCatalogIndexes], [.int .i64 x.fRoutes.fEpoch, .int .i64 x.fRoutes.fBase, .slice aRoutesSpans x.fRoutes.fSpans.length cRoutesSpans, .int .i64 x.fRoutes.fMoving, .slice aRoutesCut x.fRoutes.fCut.length cRoutesCut], rfl, ⟨rfl, wf_of_isI64 h0⟩, ⟨rfl, wf_of_isU64 h1⟩, ⟨rfl, wf_of_isI64 h2⟩, rfl, h4, h5, h6, h7⟩
theorem S_Reply : StructT Tryz.prog 55 15 := ⟨⟨_, Tryz.underlying55⟩, by kernel_rfl⟩
theorem stz_Reply (a : Act) (dst : Option Tmp) (x y : Operand) (ty : TypeId) (pos : String) (after : Array Edge) (guard : Option (Nat × Bool)) : execOp a.eval { dst := dst, op := .store 55 x y, type := ty, pos := pos, after := after, guard := guard } = storeSem 55 (a.eval x) (a.eval y) := rfl
theorem rInt_ones {k : IntKind} {w : World} {p : Nat → Prop} {cs : List Value} {x : Int} (h : rInt k w p cs x) : ones cs = true := by rw [h.1]; rfl
theorem T_lint : SliceT Tryz.prog 37 3 1 8 := SliceT.mk' Tryz.underlying37 (z := .int .i64 0) (by kernel_rfl) rfl (by decide)
end Go.Proofs.YtibaehlfpgipfaaGreat
