/- THE STRUCTS: their cells written out, their rows in the table. Printed by gen16.py. -/
import Derived.Test.YtibaehlfpgipfaaGreatQTypes
import Derived.Test.YtibaehlfpgipfaaGreatQLst
namespace Go.Proofs.YtibaehlfpgipfaaGreat
open Go.RowKit

theorem wf_of_isI64 {n : Int} (h : isI64 n) : (Lit.int .i64 n).wf = true := Go.WalkArith.wf_i64 h
theorem wf_of_isU64 {n : Int} (h : isU64 n) : (Lit.int .u64 n).wf = true := Go.WalkArith.wf_u64 h
theorem rGOwner_open {w : World} {p : Nat → Prop} {cs : List Value} {x : GOwner} (h : rGOwner w p cs x) : ∃ aFrom cFrom, cs = [.int .i64 x.fGroup, .slice aFrom x.fFrom.length cFrom] ∧ isI64 x.fGroup ∧ (Lies w p aFrom (x.fFrom.map bv) ∧ x.fFrom.length ≤ cFrom ∧ x.fFrom.length ≤ far) ∧ True := by
  obtain ⟨k0, k1, rfl, h0, h1⟩ := h
  obtain ⟨rfl, f0⟩ := h0
  obtain ⟨aFrom, cFrom, rfl, f1⟩ := h1
  exact ⟨aFrom, cFrom, rfl, isI64_wf f0, f1, trivial⟩
theorem rGOwner_ones {w : World} {p : Nat → Prop} {cs : List Value} {x : GOwner} (h : rGOwner w p cs x) : ones cs = true := by
  obtain ⟨_, _, rfl, -⟩ := rGOwner_open h
  rfl
theorem rGOwner_mk (w : World) (p : Nat → Prop) {x : GOwner} {aFrom : Option Addr} {cFrom : Nat} (h0 : isI64 x.fGroup) (h1 : (Lies w p aFrom (x.fFrom.map bv) ∧ x.fFrom.length ≤ cFrom ∧ x.fFrom.length ≤ far)) : rGOwner w p [.int .i64 x.fGroup, .slice aFrom x.fFrom.length cFrom] x :=
  ⟨[.int .i64 x.fGroup], [.slice aFrom x.fFrom.length cFrom], rfl, ⟨rfl, wf_of_isI64 h0⟩, ⟨_, _, rfl, h1⟩⟩
theorem S_Owner : StructT Tryz.prog 97 2 := ⟨⟨_, Tryz.underlying97⟩, by kernel_rfl⟩
theorem B_Owner : BuildT Tryz.prog 97 [1, 1] := by
  obtain ⟨i, hi, hz, -, -⟩ := info_parts (by kernel_rfl : (Tryz.prog.info? 97).map (fun i => (i.zero, i.size, i.bytes)) = some (some (.agg #[.int .i64 0, .slice none 0 0]), 2, 32))
  exact ⟨_, i, _, [(0, 1), (1, 1)], Tryz.underlying97, hi, hz, rfl, by kernel_rfl, rfl, by decide⟩
theorem ldz_Owner (a : Act) (dst : Option Tmp) (x : Operand) (ty : TypeId) (pos : String) (after : Array Edge) (guard : Option (Nat × Bool)) : execOp a.eval { dst := dst, op := .load 97 x, type := ty, pos := pos, after := after, guard := guard } = wholeSem 97 (a.eval x) := rfl
theorem stz_Owner (a : Act) (dst : Option Tmp) (x y : Operand) (ty : TypeId) (pos : String) (after : Array Edge) (guard : Option (Nat × Bool)) : execOp a.eval { dst := dst, op := .store 97 x y, type := ty, pos := pos, after := after, guard := guard } = storeSem 97 (a.eval x) (a.eval y) := rfl
theorem bdz_Owner (a : Act) (dst : Option Tmp) (parts : Array (Nat × Operand)) (ty : TypeId) (pos : String) (after : Array Edge) (guard : Option (Nat × Bool)) : execOp a.eval { dst := dst, op := .build 97 parts, type := ty, pos := pos, after := after, guard := guard } = buildSem 97 (parts.map fun x => (x.1, a.eval x.2)) := rfl
theorem T_lOwner : SliceT Tryz.prog 51 97 2 32 := SliceT.mk' Tryz.underlying51 (z := .agg #[.int .i64 0, .slice none 0 0]) (by kernel_rfl) rfl (by decide)
theorem lsz_Owner (a : Act) (dst : Option Tmp) (parts : Array (Nat × Operand)) (ty : TypeId) (pos : String) (after : Array Edge) (guard : Option (Nat × Bool)) : execOp a.eval { dst := dst, op := .buildSlice 51 1 parts, type := ty, pos := pos, after := after, guard := guard } = listSem 51 1 (parts.map fun x => (x.1, a.eval x.2)) := rfl
theorem rGRoutes_open {w : World} {p : Nat → Prop} {cs : List Value} {x : GRoutes} (h : rGRoutes w p cs x) : ∃ aSpans cSpans aCut cCut, cs = [.int .i64 x.fEpoch, .int .i64 x.fBase, .slice aSpans x.fSpans.length cSpans, .int .i64 x.fMoving, .slice aCut x.fCut.length cCut] ∧ isI64 x.fEpoch ∧ isI64 x.fBase ∧ rList rGOwner w p [.slice aSpans x.fSpans.length cSpans] x.fSpans ∧ isI64 x.fMoving ∧ (Lies w p aCut (x.fCut.map bv) ∧ x.fCut.length ≤ cCut ∧ x.fCut.length ≤ far) ∧ True := by
  obtain ⟨k0, k1, k2, k3, k4, rfl, h0, h1, h2, h3, h4⟩ := h
  obtain ⟨rfl, f0⟩ := h0
  obtain ⟨rfl, f1⟩ := h1
  obtain ⟨aSpans, cSpans, rfl, f2⟩ := rList_open h2
  obtain ⟨rfl, f3⟩ := h3
  obtain ⟨aCut, cCut, rfl, f4⟩ := h4
  exact ⟨aSpans, cSpans, aCut, cCut, rfl, isI64_wf f0, isI64_wf f1, f2, isI64_wf f3, f4, trivial⟩
theorem rGRoutes_ones {w : World} {p : Nat → Prop} {cs : List Value} {x : GRoutes} (h : rGRoutes w p cs x) : ones cs = true := by
  obtain ⟨_, _, _, _, rfl, -⟩ := rGRoutes_open h
  rfl
theorem rGRoutes_mk (w : World) (p : Nat → Prop) {x : GRoutes} {aSpans aCut : Option Addr} {cSpans cCut : Nat} (h0 : isI64 x.fEpoch) (h1 : isI64 x.fBase) (h2 : rList rGOwner w p [.slice aSpans x.fSpans.length cSpans] x.fSpans) (h3 : isI64 x.fMoving) (h4 : (Lies w p aCut (x.fCut.map bv) ∧ x.fCut.length ≤ cCut ∧ x.fCut.length ≤ far)) : rGRoutes w p [.int .i64 x.fEpoch, .int .i64 x.fBase, .slice aSpans x.fSpans.length cSpans, .int .i64 x.fMoving, .slice aCut x.fCut.length cCut] x :=
  ⟨[.int .i64 x.fEpoch], [.int .i64 x.fBase], [.slice aSpans x.fSpans.length cSpans], [.int .i64 x.fMoving], [.slice aCut x.fCut.length cCut], rfl, ⟨rfl, wf_of_isI64 h0⟩, ⟨rfl, wf_of_isI64 h1⟩, h2, ⟨rfl, wf_of_isI64 h3⟩, ⟨_, _, rfl, h4⟩⟩
theorem S_Routes : StructT Tryz.prog 53 5 := ⟨⟨_, Tryz.underlying53⟩, by kernel_rfl⟩
theorem B_Routes : BuildT Tryz.prog 53 [1, 1, 1, 1, 1] := by
  obtain ⟨i, hi, hz, -, -⟩ := info_parts (by kernel_rfl : (Tryz.prog.info? 53).map (fun i => (i.zero, i.size, i.bytes)) = some (some (.agg #[.int .i64 0, .int .i64 0, .slice none 0 0, .int .i64 0, .slice none 0 0]), 5, 72))
  exact ⟨_, i, _, [(0, 1), (1, 1), (2, 1), (3, 1), (4, 1)], Tryz.underlying53, hi, hz, rfl, by kernel_rfl, rfl, by decide⟩
theorem ldz_Routes (a : Act) (dst : Option Tmp) (x : Operand) (ty : TypeId) (pos : String) (after : Array Edge) (guard : Option (Nat × Bool)) : execOp a.eval { dst := dst, op := .load 53 x, type := ty, pos := pos, after := after, guard := guard } = wholeSem 53 (a.eval x) := rfl
theorem stz_Routes (a : Act) (dst : Option Tmp) (x y : Operand) (ty : TypeId) (pos : String) (after : Array Edge) (guard : Option (Nat × Bool)) : execOp a.eval { dst := dst, op := .store 53 x y, type := ty, pos := pos, after := after, guard := guard } = storeSem 53 (a.eval x) (a.eval y) := rfl
theorem bdz_Routes (a : Act) (dst : Option Tmp) (parts : Array (Nat × Operand)) (ty : TypeId) (pos : String) (after : Array Edge) (guard : Option (Nat × Bool)) : execOp a.eval { dst := dst, op := .build 53 parts, type := ty, pos := pos, after := after, guard := guard } = buildSem 53 (parts.map fun x => (x.1, a.eval x.2)) := rfl
theorem rGColumn_open {w : World} {p : Nat → Prop} {cs : List Value} {x : GColumn} (h : rGColumn w p cs x) : cs = [.string (strB x.fName), .int .i64 x.fKind, .bool x.fNull] ∧ x.fName.length ≤ far ∧ isI64 x.fKind ∧ True := by
  obtain ⟨k0, k1, k2, rfl, h0, h1, h2⟩ := h
  obtain ⟨rfl, f0⟩ := h0
  obtain ⟨rfl, f1⟩ := h1
  obtain rfl := h2
  exact ⟨rfl, f0, isI64_wf f1, trivial⟩
theorem rGColumn_ones {w : World} {p : Nat → Prop} {cs : List Value} {x : GColumn} (h : rGColumn w p cs x) : ones cs = true := by
  obtain ⟨rfl, -⟩ := rGColumn_open h
  rfl
theorem rGColumn_mk (w : World) (p : Nat → Prop) {x : GColumn} (h0 : x.fName.length ≤ far) (h1 : isI64 x.fKind) : rGColumn w p [.string (strB x.fName), .int .i64 x.fKind, .bool x.fNull] x :=
  ⟨[.string (strB x.fName)], [.int .i64 x.fKind], [.bool x.fNull], rfl, ⟨rfl, h0⟩, ⟨rfl, wf_of_isI64 h1⟩, rfl⟩
theorem S_Column : StructT Tryz.prog 148 3 := ⟨⟨_, Tryz.underlying148⟩, by kernel_rfl⟩
theorem B_Column : BuildT Tryz.prog 148 [1, 1, 1] := by
  obtain ⟨i, hi, hz, -, -⟩ := info_parts (by kernel_rfl : (Tryz.prog.info? 148).map (fun i => (i.zero, i.size, i.bytes)) = some (some (.agg #[.string ByteArray.empty, .int .i64 0, .bool false]), 3, 32))
  exact ⟨_, i, _, [(0, 1), (1, 1), (2, 1)], Tryz.underlying148, hi, hz, rfl, by kernel_rfl, rfl, by decide⟩
theorem ldz_Column (a : Act) (dst : Option Tmp) (x : Operand) (ty : TypeId) (pos : String) (after : Array Edge) (guard : Option (Nat × Bool)) : execOp a.eval { dst := dst, op := .load 148 x, type := ty, pos := pos, after := after, guard := guard } = wholeSem 148 (a.eval x) := rfl
theorem stz_Column (a : Act) (dst : Option Tmp) (x y : Operand) (ty : TypeId) (pos : String) (after : Array Edge) (guard : Option (Nat × Bool)) : execOp a.eval { dst := dst, op := .store 148 x y, type := ty, pos := pos, after := after, guard := guard } = storeSem 148 (a.eval x) (a.eval y) := rfl
theorem bdz_Column (a : Act) (dst : Option Tmp) (parts : Array (Nat × Operand)) (ty : TypeId) (pos : String) (after : Array Edge) (guard : Option (Nat × Bool)) : execOp a.eval { dst := dst, op := .build 148 parts, type := ty, pos := pos, after := after, guard := guard } = buildSem 148 (parts.map fun x => (x.1, a.eval x.2)) := rfl
theorem T_lColumn : SliceT Tryz.prog 36 148 3 32 := SliceT.mk' Tryz.underlying36 (z := .agg #[.string { data := #[] }, .int .i64 0, .bool false]) (by kernel_rfl) rfl (by decide)
theorem lsz_Column (a : Act) (dst : Option Tmp) (parts : Array (Nat × Operand)) (ty : TypeId) (pos : String) (after : Array Edge) (guard : Option (Nat × Bool)) : execOp a.eval { dst := dst, op := .buildSlice 36 1 parts, type := ty, pos := pos, after := after, guard := guard } = listSem 36 1 (parts.map fun x => (x.1, a.eval x.2)) := rfl
theorem rGTable_open {w : World} {p : Nat → Prop} {cs : List Value} {x : GTable} (h : rGTable w p cs x) : ∃ aColumns cColumns aKey cKey, cs = [.int .i64 x.fID, .string (strB x.fName), .slice aColumns x.fColumns.length cColumns, .slice aKey x.fKey.length cKey] ∧ isI64 x.fID ∧ x.fName.length ≤ far ∧ rList rGColumn w p [.slice aColumns x.fColumns.length cColumns] x.fColumns ∧ rList (rInt .i64) w p [.slice aKey x.fKey.length cKey] x.fKey ∧ True := by
  obtain ⟨k0, k1, k2, k3, rfl, h0, h1, h2, h3⟩ := h
  obtain ⟨rfl, f0⟩ := h0
  obtain ⟨rfl, f1⟩ := h1
  obtain ⟨aColumns, cColumns, rfl, f2⟩ := rList_open h2
  obtain ⟨aKey, cKey, rfl, f3⟩ := rList_open h3
  exact ⟨aColumns, cColumns, aKey, cKey, rfl, isI64_wf f0, f1, f2, f3, trivial⟩
theorem rGTable_ones {w : World} {p : Nat → Prop} {cs : List Value} {x : GTable} (h : rGTable w p cs x) : ones cs = true := by
  obtain ⟨_, _, _, _, rfl, -⟩ := rGTable_open h
  rfl
theorem rGTable_mk (w : World) (p : Nat → Prop) {x : GTable} {aColumns aKey : Option Addr} {cColumns cKey : Nat} (h0 : isI64 x.fID) (h1 : x.fName.length ≤ far) (h2 : rList rGColumn w p [.slice aColumns x.fColumns.length cColumns] x.fColumns) (h3 : rList (rInt .i64) w p [.slice aKey x.fKey.length cKey] x.fKey) : rGTable w p [.int .i64 x.fID, .string (strB x.fName), .slice aColumns x.fColumns.length cColumns, .slice aKey x.fKey.length cKey] x :=
  ⟨[.int .i64 x.fID], [.string (strB x.fName)], [.slice aColumns x.fColumns.length cColumns], [.slice aKey x.fKey.length cKey], rfl, ⟨rfl, wf_of_isI64 h0⟩, ⟨rfl, h1⟩, h2, h3⟩
theorem S_Table : StructT Tryz.prog 39 4 := ⟨⟨_, Tryz.underlying39⟩, by kernel_rfl⟩
theorem B_Table : BuildT Tryz.prog 39 [1, 1, 1, 1] := by
  obtain ⟨i, hi, hz, -, -⟩ := info_parts (by kernel_rfl : (Tryz.prog.info? 39).map (fun i => (i.zero, i.size, i.bytes)) = some (some (.agg #[.int .i64 0, .string ByteArray.empty, .slice none 0 0, .slice none 0 0]), 4, 72))
  exact ⟨_, i, _, [(0, 1), (1, 1), (2, 1), (3, 1)], Tryz.underlying39, hi, hz, rfl, by kernel_rfl, rfl, by decide⟩
theorem ldz_Table (a : Act) (dst : Option Tmp) (x : Operand) (ty : TypeId) (pos : String) (after : Array Edge) (guard : Option (Nat × Bool)) : execOp a.eval { dst := dst, op := .load 39 x, type := ty, pos := pos, after := after, guard := guard } = wholeSem 39 (a.eval x) := rfl
theorem stz_Table (a : Act) (dst : Option Tmp) (x y : Operand) (ty : TypeId) (pos : String) (after : Array Edge) (guard : Option (Nat × Bool)) : execOp a.eval { dst := dst, op := .store 39 x y, type := ty, pos := pos, after := after, guard := guard } = storeSem 39 (a.eval x) (a.eval y) := rfl
theorem bdz_Table (a : Act) (dst : Option Tmp) (parts : Array (Nat × Operand)) (ty : TypeId) (pos : String) (after : Array Edge) (guard : Option (Nat × Bool)) : execOp a.eval { dst := dst, op := .build 39 parts, type := ty, pos := pos, after := after, guard := guard } = buildSem 39 (parts.map fun x => (x.1, a.eval x.2)) := rfl
theorem T_lTable : SliceT Tryz.prog 47 39 4 72 := SliceT.mk' Tryz.underlying47 (z := .agg #[.int .i64 0, .string { data := #[] }, .slice none 0 0, .slice none 0 0]) (by kernel_rfl) rfl (by decide)
theorem lsz_Table (a : Act) (dst : Option Tmp) (parts : Array (Nat × Operand)) (ty : TypeId) (pos : String) (after : Array Edge) (guard : Option (Nat × Bool)) : execOp a.eval { dst := dst, op := .buildSlice 47 1 parts, type := ty, pos := pos, after := after, guard := guard } = listSem 47 1 (parts.map fun x => (x.1, a.eval x.2)) := rfl
theorem rGIndex_open {w : World} {p : Nat → Prop} {cs : List Value} {x : GIndex} (h : rGIndex w p cs x) : ∃ aColumns cColumns, cs = [.int .i64 x.fID, .int .i64 x.fTable, .string (strB x.fName), .slice aColumns x.fColumns.length cColumns, .bool x.fUnique, .int .i64 x.fState, .bool x.fBad] ∧ isI64 x.fID ∧ isI64 x.fTable ∧ x.fName.length ≤ far ∧ rList (rInt .i64) w p [.slice aColumns x.fColumns.length cColumns] x.fColumns ∧ isI64 x.fState ∧ True := by
  obtain ⟨k0, k1, k2, k3, k4, k5, k6, rfl, h0, h1, h2, h3, h4, h5, h6⟩ := h
  obtain ⟨rfl, f0⟩ := h0
  obtain ⟨rfl, f1⟩ := h1
  obtain ⟨rfl, f2⟩ := h2
  obtain ⟨aColumns, cColumns, rfl, f3⟩ := rList_open h3
  obtain rfl := h4
  obtain ⟨rfl, f5⟩ := h5
  obtain rfl := h6
  exact ⟨aColumns, cColumns, rfl, isI64_wf f0, isI64_wf f1, f2, f3, isI64_wf f5, trivial⟩
theorem rGIndex_ones {w : World} {p : Nat → Prop} {cs : List Value} {x : GIndex} (h : rGIndex w p cs x) : ones cs = true := by
  obtain ⟨_, _, rfl, -⟩ := rGIndex_open h
  rfl
theorem rGIndex_mk (w : World) (p : Nat → Prop) {x : GIndex} {aColumns : Option Addr} {cColumns : Nat} (h0 : isI64 x.fID) (h1 : isI64 x.fTable) (h2 : x.fName.length ≤ far) (h3 : rList (rInt .i64) w p [.slice aColumns x.fColumns.length cColumns] x.fColumns) (h5 : isI64 x.fState) : rGIndex w p [.int .i64 x.fID, .int .i64 x.fTable, .string (strB x.fName), .slice aColumns x.fColumns.length cColumns, .bool x.fUnique, .int .i64 x.fState, .bool x.fBad] x :=
  ⟨[.int .i64 x.fID], [.int .i64 x.fTable], [.string (strB x.fName)], [.slice aColumns x.fColumns.length cColumns], [.bool x.fUnique], [.int .i64 x.fState], [.bool x.fBad], rfl, ⟨rfl, wf_of_isI64 h0⟩, ⟨rfl, wf_of_isI64 h1⟩, ⟨rfl, h2⟩, h3, rfl, ⟨rfl, wf_of_isI64 h5⟩, rfl⟩
theorem S_Index : StructT Tryz.prog 41 7 := ⟨⟨_, Tryz.underlying41⟩, by kernel_rfl⟩
theorem B_Index : BuildT Tryz.prog 41 [1, 1, 1, 1, 1, 1, 1] := by
  obtain ⟨i, hi, hz, -, -⟩ := info_parts (by kernel_rfl : (Tryz.prog.info? 41).map (fun i => (i.zero, i.size, i.bytes)) = some (some (.agg #[.int .i64 0, .int .i64 0, .string ByteArray.empty, .slice none 0 0, .bool false, .int .i64 0, .bool false]), 7, 80))
  exact ⟨_, i, _, [(0, 1), (1, 1), (2, 1), (3, 1), (4, 1), (5, 1), (6, 1)], Tryz.underlying41, hi, hz, rfl, by kernel_rfl, rfl, by decide⟩
theorem ldz_Index (a : Act) (dst : Option Tmp) (x : Operand) (ty : TypeId) (pos : String) (after : Array Edge) (guard : Option (Nat × Bool)) : execOp a.eval { dst := dst, op := .load 41 x, type := ty, pos := pos, after := after, guard := guard } = wholeSem 41 (a.eval x) := rfl
theorem stz_Index (a : Act) (dst : Option Tmp) (x y : Operand) (ty : TypeId) (pos : String) (after : Array Edge) (guard : Option (Nat × Bool)) : execOp a.eval { dst := dst, op := .store 41 x y, type := ty, pos := pos, after := after, guard := guard } = storeSem 41 (a.eval x) (a.eval y) := rfl
theorem bdz_Index (a : Act) (dst : Option Tmp) (parts : Array (Nat × Operand)) (ty : TypeId) (pos : String) (after : Array Edge) (guard : Option (Nat × Bool)) : execOp a.eval { dst := dst, op := .build 41 parts, type := ty, pos := pos, after := after, guard := guard } = buildSem 41 (parts.map fun x => (x.1, a.eval x.2)) := rfl
theorem T_lIndex : SliceT Tryz.prog 48 41 7 80 := SliceT.mk' Tryz.underlying48 (z := .agg #[.int .i64 0, .int .i64 0, .string { data := #[] }, .slice none 0 0, .bool false, .int .i64 0, .bool false]) (by kernel_rfl) rfl (by decide)
theorem lsz_Index (a : Act) (dst : Option Tmp) (parts : Array (Nat × Operand)) (ty : TypeId) (pos : String) (after : Array Edge) (guard : Option (Nat × Bool)) : execOp a.eval { dst := dst, op := .buildSlice 48 1 parts, type := ty, pos := pos, after := after, guard := guard } = listSem 48 1 (parts.map fun x => (x.1, a.eval x.2)) := rfl
theorem rGCatalog_open {w : World} {p : Nat → Prop} {cs : List Value} {x : GCatalog} (h : rGCatalog w p cs x) : ∃ aTables cTables aIndexes cIndexes, cs = [.int .i64 x.fVersion, .int .i64 x.fNext, .slice aTables x.fTables.length cTables, .slice aIndexes x.fIndexes.length cIndexes] ∧ isI64 x.fVersion ∧ isI64 x.fNext ∧ rList rGTable w p [.slice aTables x.fTables.length cTables] x.fTables ∧ rList rGIndex w p [.slice aIndexes x.fIndexes.length cIndexes] x.fIndexes ∧ True := by
  obtain ⟨k0, k1, k2, k3, rfl, h0, h1, h2, h3⟩ := h
  obtain ⟨rfl, f0⟩ := h0
  obtain ⟨rfl, f1⟩ := h1
  obtain ⟨aTables, cTables, rfl, f2⟩ := rList_open h2
  obtain ⟨aIndexes, cIndexes, rfl, f3⟩ := rList_open h3
  exact ⟨aTables, cTables, aIndexes, cIndexes, rfl, isI64_wf f0, isI64_wf f1, f2, f3, trivial⟩
theorem rGCatalog_ones {w : World} {p : Nat → Prop} {cs : List Value} {x : GCatalog} (h : rGCatalog w p cs x) : ones cs = true := by
  obtain ⟨_, _, _, _, rfl, -⟩ := rGCatalog_open h
  rfl
theorem rGCatalog_mk (w : World) (p : Nat → Prop) {x : GCatalog} {aTables aIndexes : Option Addr} {cTables cIndexes : Nat} (h0 : isI64 x.fVersion) (h1 : isI64 x.fNext) (h2 : rList rGTable w p [.slice aTables x.fTables.length cTables] x.fTables) (h3 : rList rGIndex w p [.slice aIndexes x.fIndexes.length cIndexes] x.fIndexes) : rGCatalog w p [.int .i64 x.fVersion, .int .i64 x.fNext, .slice aTables x.fTables.length cTables, .slice aIndexes x.fIndexes.length cIndexes] x :=
  ⟨[.int .i64 x.fVersion], [.int .i64 x.fNext], [.slice aTables x.fTables.length cTables], [.slice aIndexes x.fIndexes.length cIndexes], rfl, ⟨rfl, wf_of_isI64 h0⟩, ⟨rfl, wf_of_isI64 h1⟩, h2, h3⟩
theorem S_Catalog : StructT Tryz.prog 50 4 := ⟨⟨_, Tryz.underlying50⟩, by kernel_rfl⟩
theorem B_Catalog : BuildT Tryz.prog 50 [1, 1, 1, 1] := by
  obtain ⟨i, hi, hz, -, -⟩ := info_parts (by kernel_rfl : (Tryz.prog.info? 50).map (fun i => (i.zero, i.size, i.bytes)) = some (some (.agg #[.int .i64 0, .int .i64 0, .slice none 0 0, .slice none 0 0]), 4, 64))
  exact ⟨_, i, _, [(0, 1), (1, 1), (2, 1), (3, 1)], Tryz.underlying50, hi, hz, rfl, by kernel_rfl, rfl, by decide⟩
theorem ldz_Catalog (a : Act) (dst : Option Tmp) (x : Operand) (ty : TypeId) (pos : String) (after : Array Edge) (guard : Option (Nat × Bool)) : execOp a.eval { dst := dst, op := .load 50 x, type := ty, pos := pos, after := after, guard := guard } = wholeSem 50 (a.eval x) := rfl
theorem stz_Catalog (a : Act) (dst : Option Tmp) (x y : Operand) (ty : TypeId) (pos : String) (after : Array Edge) (guard : Option (Nat × Bool)) : execOp a.eval { dst := dst, op := .store 50 x y, type := ty, pos := pos, after := after, guard := guard } = storeSem 50 (a.eval x) (a.eval y) := rfl
theorem bdz_Catalog (a : Act) (dst : Option Tmp) (parts : Array (Nat × Operand)) (ty : TypeId) (pos : String) (after : Array Edge) (guard : Option (Nat × Bool)) : execOp a.eval { dst := dst, op := .build 50 parts, type := ty, pos := pos, after := after, guard := guard } = buildSem 50 (parts.map fun x => (x.1, a.eval x.2)) := rfl
theorem T_lCatalog : SliceT Tryz.prog 76 50 4 64 := SliceT.mk' Tryz.underlying76 (z := .agg #[.int .i64 0, .int .i64 0, .slice none 0 0, .slice none 0 0]) (by kernel_rfl) rfl (by decide)
theorem lsz_Catalog (a : Act) (dst : Option Tmp) (parts : Array (Nat × Operand)) (ty : TypeId) (pos : String) (after : Array Edge) (guard : Option (Nat × Bool)) : execOp a.eval { dst := dst, op := .buildSlice 76 1 parts, type := ty, pos := pos, after := after, guard := guard } = listSem 76 1 (parts.map fun x => (x.1, a.eval x.2)) := rfl
theorem rGSpan_open {w : World} {p : Nat → Prop} {cs : List Value} {x : GSpan} (h : rGSpan w p cs x) : ∃ aFrom cFrom aTo cTo, cs = [.slice aFrom x.fFrom.length cFrom, .slice aTo x.fTo.length cTo] ∧ (Lies w p aFrom (x.fFrom.map bv) ∧ x.fFrom.length ≤ cFrom ∧ x.fFrom.length ≤ far) ∧ (Lies w p aTo (x.fTo.map bv) ∧ x.fTo.length ≤ cTo ∧ x.fTo.length ≤ far) ∧ True := by
  obtain ⟨k0, k1, rfl, h0, h1⟩ := h
  obtain ⟨aFrom, cFrom, rfl, f0⟩ := h0
  obtain ⟨aTo, cTo, rfl, f1⟩ := h1
  exact ⟨aFrom, cFrom, aTo, cTo, rfl, f0, f1, trivial⟩
theorem rGSpan_ones {w : World} {p : Nat → Prop} {cs : List Value} {x : GSpan} (h : rGSpan w p cs x) : ones cs = true := by
  obtain ⟨_, _, _, _, rfl, -⟩ := rGSpan_open h
  rfl
theorem rGSpan_mk (w : World) (p : Nat → Prop) {x : GSpan} {aFrom aTo : Option Addr} {cFrom cTo : Nat} (h0 : (Lies w p aFrom (x.fFrom.map bv) ∧ x.fFrom.length ≤ cFrom ∧ x.fFrom.length ≤ far)) (h1 : (Lies w p aTo (x.fTo.map bv) ∧ x.fTo.length ≤ cTo ∧ x.fTo.length ≤ far)) : rGSpan w p [.slice aFrom x.fFrom.length cFrom, .slice aTo x.fTo.length cTo] x :=
  ⟨[.slice aFrom x.fFrom.length cFrom], [.slice aTo x.fTo.length cTo], rfl, ⟨_, _, rfl, h0⟩, ⟨_, _, rfl, h1⟩⟩
theorem S_Span : StructT Tryz.prog 32 2 := ⟨⟨_, Tryz.underlying32⟩, by kernel_rfl⟩
theorem B_Span : BuildT Tryz.prog 32 [1, 1] := by
  obtain ⟨i, hi, hz, -, -⟩ := info_parts (by kernel_rfl : (Tryz.prog.info? 32).map (fun i => (i.zero, i.size, i.bytes)) = some (some (.agg #[.slice none 0 0, .slice none 0 0]), 2, 48))
  exact ⟨_, i, _, [(0, 1), (1, 1)], Tryz.underlying32, hi, hz, rfl, by kernel_rfl, rfl, by decide⟩
theorem ldz_Span (a : Act) (dst : Option Tmp) (x : Operand) (ty : TypeId) (pos : String) (after : Array Edge) (guard : Option (Nat × Bool)) : execOp a.eval { dst := dst, op := .load 32 x, type := ty, pos := pos, after := after, guard := guard } = wholeSem 32 (a.eval x) := rfl
theorem stz_Span (a : Act) (dst : Option Tmp) (x y : Operand) (ty : TypeId) (pos : String) (after : Array Edge) (guard : Option (Nat × Bool)) : execOp a.eval { dst := dst, op := .store 32 x y, type := ty, pos := pos, after := after, guard := guard } = storeSem 32 (a.eval x) (a.eval y) := rfl
theorem bdz_Span (a : Act) (dst : Option Tmp) (parts : Array (Nat × Operand)) (ty : TypeId) (pos : String) (after : Array Edge) (guard : Option (Nat × Bool)) : execOp a.eval { dst := dst, op := .build 32 parts, type := ty, pos := pos, after := after, guard := guard } = buildSem 32 (parts.map fun x => (x.1, a.eval x.2)) := rfl
theorem rGPair_open {w : World} {p : Nat → Prop} {cs : List Value} {x : GPair} (h : rGPair w p cs x) : ∃ aKey cKey aValue cValue, cs = [.slice aKey x.fKey.length cKey, .slice aValue x.fValue.length cValue, .int .i64 x.fVersion] ∧ (Lies w p aKey (x.fKey.map bv) ∧ x.fKey.length ≤ cKey ∧ x.fKey.length ≤ far) ∧ (Lies w p aValue (x.fValue.map bv) ∧ x.fValue.length ≤ cValue ∧ x.fValue.length ≤ far) ∧ isI64 x.fVersion ∧ True := by
  obtain ⟨k0, k1, k2, rfl, h0, h1, h2⟩ := h
  obtain ⟨aKey, cKey, rfl, f0⟩ := h0
  obtain ⟨aValue, cValue, rfl, f1⟩ := h1
  obtain ⟨rfl, f2⟩ := h2
  exact ⟨aKey, cKey, aValue, cValue, rfl, f0, f1, isI64_wf f2, trivial⟩
theorem rGPair_ones {w : World} {p : Nat → Prop} {cs : List Value} {x : GPair} (h : rGPair w p cs x) : ones cs = true := by
  obtain ⟨_, _, _, _, rfl, -⟩ := rGPair_open h
  rfl
theorem rGPair_mk (w : World) (p : Nat → Prop) {x : GPair} {aKey aValue : Option Addr} {cKey cValue : Nat} (h0 : (Lies w p aKey (x.fKey.map bv) ∧ x.fKey.length ≤ cKey ∧ x.fKey.length ≤ far)) (h1 : (Lies w p aValue (x.fValue.map bv) ∧ x.fValue.length ≤ cValue ∧ x.fValue.length ≤ far)) (h2 : isI64 x.fVersion) : rGPair w p [.slice aKey x.fKey.length cKey, .slice aValue x.fValue.length cValue, .int .i64 x.fVersion] x :=
  ⟨[.slice aKey x.fKey.length cKey], [.slice aValue x.fValue.length cValue], [.int .i64 x.fVersion], rfl, ⟨_, _, rfl, h0⟩, ⟨_, _, rfl, h1⟩, ⟨rfl, wf_of_isI64 h2⟩⟩
theorem S_Pair : StructT Tryz.prog 114 3 := ⟨⟨_, Tryz.underlying114⟩, by kernel_rfl⟩
theorem B_Pair : BuildT Tryz.prog 114 [1, 1, 1] := by
  obtain ⟨i, hi, hz, -, -⟩ := info_parts (by kernel_rfl : (Tryz.prog.info? 114).map (fun i => (i.zero, i.size, i.bytes)) = some (some (.agg #[.slice none 0 0, .slice none 0 0, .int .i64 0]), 3, 56))
  exact ⟨_, i, _, [(0, 1), (1, 1), (2, 1)], Tryz.underlying114, hi, hz, rfl, by kernel_rfl, rfl, by decide⟩
theorem ldz_Pair (a : Act) (dst : Option Tmp) (x : Operand) (ty : TypeId) (pos : String) (after : Array Edge) (guard : Option (Nat × Bool)) : execOp a.eval { dst := dst, op := .load 114 x, type := ty, pos := pos, after := after, guard := guard } = wholeSem 114 (a.eval x) := rfl
theorem stz_Pair (a : Act) (dst : Option Tmp) (x y : Operand) (ty : TypeId) (pos : String) (after : Array Edge) (guard : Option (Nat × Bool)) : execOp a.eval { dst := dst, op := .store 114 x y, type := ty, pos := pos, after := after, guard := guard } = storeSem 114 (a.eval x) (a.eval y) := rfl
theorem bdz_Pair (a : Act) (dst : Option Tmp) (parts : Array (Nat × Operand)) (ty : TypeId) (pos : String) (after : Array Edge) (guard : Option (Nat × Bool)) : execOp a.eval { dst := dst, op := .build 114 parts, type := ty, pos := pos, after := after, guard := guard } = buildSem 114 (parts.map fun x => (x.1, a.eval x.2)) := rfl
theorem T_lPair : SliceT Tryz.prog 33 114 3 56 := SliceT.mk' Tryz.underlying33 (z := .agg #[.slice none 0 0, .slice none 0 0, .int .i64 0]) (by kernel_rfl) rfl (by decide)
theorem lsz_Pair (a : Act) (dst : Option Tmp) (parts : Array (Nat × Operand)) (ty : TypeId) (pos : String) (after : Array Edge) (guard : Option (Nat × Bool)) : execOp a.eval { dst := dst, op := .buildSlice 33 1 parts, type := ty, pos := pos, after := after, guard := guard } = listSem 33 1 (parts.map fun x => (x.1, a.eval x.2)) := rfl
theorem rGSeen_open {w : World} {p : Nat → Prop} {cs : List Value} {x : GSeen} (h : rGSeen w p cs x) : ∃ aSpanFrom cSpanFrom aSpanTo cSpanTo aPairs cPairs, cs = [.slice aSpanFrom x.fSpan.fFrom.length cSpanFrom, .slice aSpanTo x.fSpan.fTo.length cSpanTo, .slice aPairs x.fPairs.length cPairs] ∧ rGSpan w p [.slice aSpanFrom x.fSpan.fFrom.length cSpanFrom, .slice aSpanTo x.fSpan.fTo.length cSpanTo] x.fSpan ∧ rList rGPair w p [.slice aPairs x.fPairs.length cPairs] x.fPairs ∧ True := by
  obtain ⟨k0, k1, rfl, h0, h1⟩ := h
  have f0 := h0
  obtain ⟨aSpanFrom, cSpanFrom, aSpanTo, cSpanTo, rfl, -⟩ := rGSpan_open h0
  obtain ⟨aPairs, cPairs, rfl, f1⟩ := rList_open h1
  exact ⟨aSpanFrom, cSpanFrom, aSpanTo, cSpanTo, aPairs, cPairs, rfl, f0, f1, trivial⟩
theorem rGSeen_ones {w : World} {p : Nat → Prop} {cs : List Value} {x : GSeen} (h : rGSeen w p cs x) : ones cs = true := by
  obtain ⟨_, _, _, _, _, _, rfl, -⟩ := rGSeen_open h
  rfl
theorem rGSeen_mk (w : World) (p : Nat → Prop) {x : GSeen} {aSpanFrom aSpanTo aPairs : Option Addr} {cSpanFrom cSpanTo cPairs : Nat} (h0 : rGSpan w p [.slice aSpanFrom x.fSpan.fFrom.length cSpanFrom, .slice aSpanTo x.fSpan.fTo.length cSpanTo] x.fSpan) (h1 : rList rGPair w p [.slice aPairs x.fPairs.length cPairs] x.fPairs) : rGSeen w p [.slice aSpanFrom x.fSpan.fFrom.length cSpanFrom, .slice aSpanTo x.fSpan.fTo.length cSpanTo, .slice aPairs x.fPairs.length cPairs] x :=
  ⟨[.slice aSpanFrom x.fSpan.fFrom.length cSpanFrom, .slice aSpanTo x.fSpan.fTo.length cSpanTo], [.slice aPairs x.fPairs.length cPairs], rfl, h0, h1⟩
theorem S_Seen : StructT Tryz.prog 212 3 := ⟨⟨_, Tryz.underlying212⟩, by kernel_rfl⟩
theorem B_Seen : BuildT Tryz.prog 212 [2, 1] := by
  obtain ⟨i, hi, hz, -, -⟩ := info_parts (by kernel_rfl : (Tryz.prog.info? 212).map (fun i => (i.zero, i.size, i.bytes)) = some (some (.agg #[.slice none 0 0, .slice none 0 0, .slice none 0 0]), 3, 72))
  exact ⟨_, i, _, [(0, 2), (2, 1)], Tryz.underlying212, hi, hz, rfl, by kernel_rfl, rfl, by decide⟩
theorem ldz_Seen (a : Act) (dst : Option Tmp) (x : Operand) (ty : TypeId) (pos : String) (after : Array Edge) (guard : Option (Nat × Bool)) : execOp a.eval { dst := dst, op := .load 212 x, type := ty, pos := pos, after := after, guard := guard } = wholeSem 212 (a.eval x) := rfl
theorem stz_Seen (a : Act) (dst : Option Tmp) (x y : Operand) (ty : TypeId) (pos : String) (after : Array Edge) (guard : Option (Nat × Bool)) : execOp a.eval { dst := dst, op := .store 212 x y, type := ty, pos := pos, after := after, guard := guard } = storeSem 212 (a.eval x) (a.eval y) := rfl
theorem bdz_Seen (a : Act) (dst : Option Tmp) (parts : Array (Nat × Operand)) (ty : TypeId) (pos : String) (after : Array Edge) (guard : Option (Nat × Bool)) : execOp a.eval { dst := dst, op := .build 212 parts, type := ty, pos := pos, after := after, guard := guard } = buildSem 212 (parts.map fun x => (x.1, a.eval x.2)) := rfl
theorem T_lSeen : SliceT Tryz.prog 34 212 3 72 := SliceT.mk' Tryz.underlying34 (z := .agg #[.slice none 0 0, .slice none 0 0, .slice none 0 0]) (by kernel_rfl) rfl (by decide)
theorem lsz_Seen (a : Act) (dst : Option Tmp) (parts : Array (Nat × Operand)) (ty : TypeId) (pos : String) (after : Array Edge) (guard : Option (Nat × Bool)) : execOp a.eval { dst := dst, op := .buildSlice 34 1 parts, type := ty, pos := pos, after := after, guard := guard } = listSem 34 1 (parts.map fun x => (x.1, a.eval x.2)) := rfl
theorem rGWrite_open {w : World} {p : Nat → Prop} {cs : List Value} {x : GWrite} (h : rGWrite w p cs x) : ∃ aKey cKey aValue cValue, cs = [.slice aKey x.fKey.length cKey, .slice aValue x.fValue.length cValue, .bool x.fDrop] ∧ (Lies w p aKey (x.fKey.map bv) ∧ x.fKey.length ≤ cKey ∧ x.fKey.length ≤ far) ∧ (Lies w p aValue (x.fValue.map bv) ∧ x.fValue.length ≤ cValue ∧ x.fValue.length ≤ far) ∧ True := by
  obtain ⟨k0, k1, k2, rfl, h0, h1, h2⟩ := h
  obtain ⟨aKey, cKey, rfl, f0⟩ := h0
  obtain ⟨aValue, cValue, rfl, f1⟩ := h1
  obtain rfl := h2
  exact ⟨aKey, cKey, aValue, cValue, rfl, f0, f1, trivial⟩
theorem rGWrite_ones {w : World} {p : Nat → Prop} {cs : List Value} {x : GWrite} (h : rGWrite w p cs x) : ones cs = true := by
  obtain ⟨_, _, _, _, rfl, -⟩ := rGWrite_open h
  rfl
theorem rGWrite_mk (w : World) (p : Nat → Prop) {x : GWrite} {aKey aValue : Option Addr} {cKey cValue : Nat} (h0 : (Lies w p aKey (x.fKey.map bv) ∧ x.fKey.length ≤ cKey ∧ x.fKey.length ≤ far)) (h1 : (Lies w p aValue (x.fValue.map bv) ∧ x.fValue.length ≤ cValue ∧ x.fValue.length ≤ far)) : rGWrite w p [.slice aKey x.fKey.length cKey, .slice aValue x.fValue.length cValue, .bool x.fDrop] x :=
  ⟨[.slice aKey x.fKey.length cKey], [.slice aValue x.fValue.length cValue], [.bool x.fDrop], rfl, ⟨_, _, rfl, h0⟩, ⟨_, _, rfl, h1⟩, rfl⟩
theorem S_Write : StructT Tryz.prog 216 3 := ⟨⟨_, Tryz.underlying216⟩, by kernel_rfl⟩
theorem B_Write : BuildT Tryz.prog 216 [1, 1, 1] := by
  obtain ⟨i, hi, hz, -, -⟩ := info_parts (by kernel_rfl : (Tryz.prog.info? 216).map (fun i => (i.zero, i.size, i.bytes)) = some (some (.agg #[.slice none 0 0, .slice none 0 0, .bool false]), 3, 56))
  exact ⟨_, i, _, [(0, 1), (1, 1), (2, 1)], Tryz.underlying216, hi, hz, rfl, by kernel_rfl, rfl, by decide⟩
theorem ldz_Write (a : Act) (dst : Option Tmp) (x : Operand) (ty : TypeId) (pos : String) (after : Array Edge) (guard : Option (Nat × Bool)) : execOp a.eval { dst := dst, op := .load 216 x, type := ty, pos := pos, after := after, guard := guard } = wholeSem 216 (a.eval x) := rfl
theorem stz_Write (a : Act) (dst : Option Tmp) (x y : Operand) (ty : TypeId) (pos : String) (after : Array Edge) (guard : Option (Nat × Bool)) : execOp a.eval { dst := dst, op := .store 216 x y, type := ty, pos := pos, after := after, guard := guard } = storeSem 216 (a.eval x) (a.eval y) := rfl
theorem bdz_Write (a : Act) (dst : Option Tmp) (parts : Array (Nat × Operand)) (ty : TypeId) (pos : String) (after : Array Edge) (guard : Option (Nat × Bool)) : execOp a.eval { dst := dst, op := .build 216 parts, type := ty, pos := pos, after := after, guard := guard } = buildSem 216 (parts.map fun x => (x.1, a.eval x.2)) := rfl
theorem T_lWrite : SliceT Tryz.prog 35 216 3 56 := SliceT.mk' Tryz.underlying35 (z := .agg #[.slice none 0 0, .slice none 0 0, .bool false]) (by kernel_rfl) rfl (by decide)
theorem lsz_Write (a : Act) (dst : Option Tmp) (parts : Array (Nat × Operand)) (ty : TypeId) (pos : String) (after : Array Edge) (guard : Option (Nat × Bool)) : execOp a.eval { dst := dst, op := .buildSlice 35 1 parts, type := ty, pos := pos, after := after, guard := guard } = listSem 35 1 (parts.map fun x => (x.1, a.eval x.2)) := rfl
theorem rGCommand_open {w : World} {p : Nat → Prop} {cs : List Value} {x : GCommand} (h : rGCommand w p cs x) : ∃ aKey cKey aSpanFrom cSpanFrom aSpanTo cSpanTo aPairs cPairs aSeens cSeens aWrites cWrites aTableColumns cTableColumns aTableKey cTableKey aIndexColumns cIndexColumns, cs = [.int .i64 x.fKind, .int .i64 x.fEpoch, .int .u64 x.fTxn, .int .i64 x.fN, .int .i64 x.fFrom, .int .i64 x.fTo, .bool x.fFlag, .slice aKey x.fKey.length cKey, .slice aSpanFrom x.fSpan.fFrom.length cSpanFrom, .slice aSpanTo x.fSpan.fTo.length cSpanTo, .slice aPairs x.fPairs.length cPairs, .slice aSeens x.fSeens.length cSeens, .slice aWrites x.fWrites.length cWrites, .int .i64 x.fTable.fID, .string (strB x.fTable.fName), .slice aTableColumns x.fTable.fColumns.length cTableColumns, .slice aTableKey x.fTable.fKey.length cTableKey, .int .i64 x.fIndex.fID, .int .i64 x.fIndex.fTable, .string (strB x.fIndex.fName), .slice aIndexColumns x.fIndex.fColumns.length cIndexColumns, .bool x.fIndex.fUnique, .int .i64 x.fIndex.fState, .bool x.fIndex.fBad, .string (strB x.fName)] ∧ isI64 x.fKind ∧ isI64 x.fEpoch ∧ isU64 x.fTxn ∧ isI64 x.fN ∧ isI64 x.fFrom ∧ isI64 x.fTo ∧ (Lies w p aKey (x.fKey.map bv) ∧ x.fKey.length ≤ cKey ∧ x.fKey.length ≤ far) ∧ rGSpan w p [.slice aSpanFrom x.fSpan.fFrom.length cSpanFrom, .slice aSpanTo x.fSpan.fTo.length cSpanTo] x.fSpan ∧ rList rGPair w p [.slice aPairs x.fPairs.length cPairs] x.fPairs ∧ rList rGSeen w p [.slice aSeens x.fSeens.length cSeens] x.fSeens ∧ rList rGWrite w p [.slice aWrites x.fWrites.length cWrites] x.fWrites ∧ rGTable w p [.int .i64 x.fTable.fID, .string (strB x.fTable.fName), .slice aTableColumns x.fTable.fColumns.length cTableColumns, .slice aTableKey x.fTable.fKey.length cTableKey] x.fTable ∧ rGIndex w p [.int .i64 x.fIndex.fID, .int .i64 x.fIndex.fTable, .string (strB x.fIndex.fName), .slice aIndexColumns x.fIndex.fColumns.length cIndexColumns, .bool x.fIndex.fUnique, .int .i64 x.fIndex.fState, .bool x.fIndex.fBad] x.fIndex ∧ x.fName.length ≤ far ∧ True := by
  obtain ⟨k0, k1, k2, k3, k4, k5, k6, k7, k8, k9, k10, k11, k12, k13, k14, rfl, h0, h1, h2, h3, h4, h5, h6, h7, h8, h9, h10, h11, h12, h13, h14⟩ := h
  obtain ⟨rfl, f0⟩ := h0
  obtain ⟨rfl, f1⟩ := h1
  obtain ⟨rfl, f2⟩ := h2
  obtain ⟨rfl, f3⟩ := h3
  obtain ⟨rfl, f4⟩ := h4
  obtain ⟨rfl, f5⟩ := h5
  obtain rfl := h6
  obtain ⟨aKey, cKey, rfl, f7⟩ := h7
  have f8 := h8
  obtain ⟨aSpanFrom, cSpanFrom, aSpanTo, cSpanTo, rfl, -⟩ := rGSpan_open h8
  obtain ⟨aPairs, cPairs, rfl, f9⟩ := rList_open h9
  obtain ⟨aSeens, cSeens, rfl, f10⟩ := rList_open h10
  obtain ⟨aWrites, cWrites, rfl, f11⟩ := rList_open h11
  have f12 := h12
  obtain ⟨aTableColumns, cTableColumns, aTableKey, cTableKey, rfl, -⟩ := rGTable_open h12
  have f13 := h13
  obtain ⟨aIndexColumns, cIndexColumns, rfl, -⟩ := rGIndex_open h13
  obtain ⟨rfl, f14⟩ := h14
  exact ⟨aKey, cKey, aSpanFrom, cSpanFrom, aSpanTo, cSpanTo, aPairs, cPairs, aSeens, cSeens, aWrites, cWrites, aTableColumns, cTableColumns, aTableKey, cTableKey, aIndexColumns, cIndexColumns, rfl, isI64_wf f0, isI64_wf f1, isU64_wf f2, isI64_wf f3, isI64_wf f4, isI64_wf f5, f7, f8, f9, f10, f11, f12, f13, f14, trivial⟩
theorem rGCommand_ones {w : World} {p : Nat → Prop} {cs : List Value} {x : GCommand} (h : rGCommand w p cs x) : ones cs = true := by
  obtain ⟨_, _, _, _, _, _, _, _, _, _, _, _, _, _, _, _, _, _, rfl, -⟩ := rGCommand_open h
  rfl
theorem rGCommand_mk (w : World) (p : Nat → Prop) {x : GCommand} {aKey aSpanFrom aSpanTo aPairs aSeens aWrites aTableColumns aTableKey aIndexColumns : Option Addr} {cKey cSpanFrom cSpanTo cPairs cSeens cWrites cTableColumns cTableKey cIndexColumns : Nat} (h0 : isI64 x.fKind) (h1 : isI64 x.fEpoch) (h2 : isU64 x.fTxn) (h3 : isI64 x.fN) (h4 : isI64 x.fFrom) (h5 : isI64 x.fTo) (h7 : (Lies w p aKey (x.fKey.map bv) ∧ x.fKey.length ≤ cKey ∧ x.fKey.length ≤ far)) (h8 : rGSpan w p [.slice aSpanFrom x.fSpan.fFrom.length cSpanFrom, .slice aSpanTo x.fSpan.fTo.length cSpanTo] x.fSpan) (h9 : rList rGPair w p [.slice aPairs x.fPairs.length cPairs] x.fPairs) (h10 : rList rGSeen w p [.slice aSeens x.fSeens.length cSeens] x.fSeens) (h11 : rList rGWrite w p [.slice aWrites x.fWrites.length cWrites] x.fWrites) (h12 : rGTable w p [.int .i64 x.fTable.fID, .string (strB x.fTable.fName), .slice aTableColumns x.fTable.fColumns.length cTableColumns, .slice aTableKey x.fTable.fKey.length cTableKey] x.fTable) (h13 : rGIndex w p [.int .i64 x.fIndex.fID, .int .i64 x.fIndex.fTable, .string (strB x.fIndex.fName), .slice aIndexColumns x.fIndex.fColumns.length cIndexColumns, .bool x.fIndex.fUnique, .int .i64 x.fIndex.fState, .bool x.fIndex.fBad] x.fIndex) (h14 : x.fName.length ≤ far) : rGCommand w p [.int .i64 x.fKind, .int .i64 x.fEpoch, .int .u64 x.fTxn, .int .i64 x.fN, .int .i64 x.fFrom, .int .i64 x.fTo, .bool x.fFlag, .slice aKey x.fKey.length cKey, .slice aSpanFrom x.fSpan.fFrom.length cSpanFrom, .slice aSpanTo x.fSpan.fTo.length cSpanTo, .slice aPairs x.fPairs.length cPairs, .slice aSeens x.fSeens.length cSeens, .slice aWrites x.fWrites.length cWrites, .int .i64 x.fTable.fID, .string (strB x.fTable.fName), .slice aTableColumns x.fTable.fColumns.length cTableColumns, .slice aTableKey x.fTable.fKey.length cTableKey, .int .i64 x.fIndex.fID, .int .i64 x.fIndex.fTable, .string (strB x.fIndex.fName), .slice aIndexColumns x.fIndex.fColumns.length cIndexColumns, .bool x.fIndex.fUnique, .int .i64 x.fIndex.fState, .bool x.fIndex.fBad, .string (strB x.fName)] x :=
  ⟨[.int .i64 x.fKind], [.int .i64 x.fEpoch], [.int .u64 x.fTxn], [.int .i64 x.fN], [.int .i64 x.fFrom], [.int .i64 x.fTo], [.bool x.fFlag], [.slice aKey x.fKey.length cKey], [.slice aSpanFrom x.fSpan.fFrom.length cSpanFrom, .slice aSpanTo x.fSpan.fTo.length cSpanTo], [.slice aPairs x.fPairs.length cPairs], [.slice aSeens x.fSeens.length cSeens], [.slice aWrites x.fWrites.length cWrites], [.int .i64 x.fTable.fID, .string (strB x.fTable.fName), .slice aTableColumns x.fTable.fColumns.length cTableColumns, .slice aTableKey x.fTable.fKey.length cTableKey], [.int .i64 x.fIndex.fID, .int .i64 x.fIndex.fTable, .string (strB x.fIndex.fName), .slice aIndexColumns x.fIndex.fColumns.length cIndexColumns, .bool x.fIndex.fUnique, .int .i64 x.fIndex.fState, .bool x.fIndex.fBad], [.string (strB x.fName)], rfl, ⟨rfl, wf_of_isI64 h0⟩, ⟨rfl, wf_of_isI64 h1⟩, ⟨rfl, wf_of_isU64 h2⟩, ⟨rfl, wf_of_isI64 h3⟩, ⟨rfl, wf_of_isI64 h4⟩, ⟨rfl, wf_of_isI64 h5⟩, rfl, ⟨_, _, rfl, h7⟩, h8, h9, h10, h11, h12, h13, ⟨rfl, h14⟩⟩
theorem S_Command : StructT Tryz.prog 43 25 := ⟨⟨_, Tryz.underlying43⟩, by kernel_rfl⟩
theorem B_Command : BuildT Tryz.prog 43 [1, 1, 1, 1, 1, 1, 1, 1, 2, 1, 1, 1, 4, 7, 1] := by
  obtain ⟨i, hi, hz, -, -⟩ := info_parts (by kernel_rfl : (Tryz.prog.info? 43).map (fun i => (i.zero, i.size, i.bytes)) = some (some (.agg #[.int .i64 0, .int .i64 0, .int .u64 0, .int .i64 0, .int .i64 0, .int .i64 0, .bool false, .slice none 0 0, .slice none 0 0, .slice none 0 0, .slice none 0 0, .slice none 0 0, .slice none 0 0, .int .i64 0, .string ByteArray.empty, .slice none 0 0, .slice none 0 0, .int .i64 0, .int .i64 0, .string ByteArray.empty, .slice none 0 0, .bool false, .int .i64 0, .bool false, .string ByteArray.empty]), 25, 368))
  exact ⟨_, i, _, [(0, 1), (1, 1), (2, 1), (3, 1), (4, 1), (5, 1), (6, 1), (7, 1), (8, 2), (10, 1), (11, 1), (12, 1), (13, 4), (17, 7), (24, 1)], Tryz.underlying43, hi, hz, rfl, by kernel_rfl, rfl, by decide⟩
theorem ldz_Command (a : Act) (dst : Option Tmp) (x : Operand) (ty : TypeId) (pos : String) (after : Array Edge) (guard : Option (Nat × Bool)) : execOp a.eval { dst := dst, op := .load 43 x, type := ty, pos := pos, after := after, guard := guard } = wholeSem 43 (a.eval x) := rfl
theorem stz_Command (a : Act) (dst : Option Tmp) (x y : Operand) (ty : TypeId) (pos : String) (after : Array Edge) (guard : Option (Nat × Bool)) : execOp a.eval { dst := dst, op := .store 43 x y, type := ty, pos := pos, after := after, guard := guard } = storeSem 43 (a.eval x) (a.eval y) := rfl
theorem bdz_Command (a : Act) (dst : Option Tmp) (parts : Array (Nat × Operand)) (ty : TypeId) (pos : String) (after : Array Edge) (guard : Option (Nat × Bool)) : execOp a.eval { dst := dst, op := .build 43 parts, type := ty, pos := pos, after := after, guard := guard } = buildSem 43 (parts.map fun x => (x.1, a.eval x.2)) := rfl
theorem rGReply_open {w : World} {p : Nat → Prop} {cs : List Value} {x : GReply} (h : rGReply w p cs x) : ∃ aPairs cPairs aTxns cTxns aCatalogTables cCatalogTables aCatalogIndexes cCatalogIndexes aRoutesSpans cRoutesSpans aRoutesCut cRoutesCut, cs = [.int .i64 x.fErr, .int .u64 x.fTxn, .int .i64 x.fN, .bool x.fFlag, .slice aPairs x.fPairs.length cPairs, .slice aTxns x.fTxns.length cTxns, .int .i64 x.fCatalog.fVersion, .int .i64 x.fCatalog.fNext, .slice aCatalogTables x.fCatalog.fTables.length cCatalogTables, .slice aCatalogIndexes x.fCatalog.fIndexes.length cCatalogIndexes, .int .i64 x.fRoutes.fEpoch, .int .i64 x.fRoutes.fBase, .slice aRoutesSpans x.fRoutes.fSpans.length cRoutesSpans, .int .i64 x.fRoutes.fMoving, .slice aRoutesCut x.fRoutes.fCut.length cRoutesCut] ∧ isI64 x.fErr ∧ isU64 x.fTxn ∧ isI64 x.fN ∧ rList rGPair w p [.slice aPairs x.fPairs.length cPairs] x.fPairs ∧ rList (rInt .u64) w p [.slice aTxns x.fTxns.length cTxns] x.fTxns ∧ rGCatalog w p [.int .i64 x.fCatalog.fVersion, .int .i64 x.fCatalog.fNext, .slice aCatalogTables x.fCatalog.fTables.length cCatalogTables, .slice aCatalogIndexes x.fCatalog.fIndexes.length cCatalogIndexes] x.fCatalog ∧ rGRoutes w p [.int .i64 x.fRoutes.fEpoch, .int .i64 x.fRoutes.fBase, .slice aRoutesSpans x.fRoutes.fSpans.length cRoutesSpans, .int .i64 x.fRoutes.fMoving, .slice aRoutesCut x.fRoutes.fCut.length cRoutesCut] x.fRoutes ∧ True := by
  obtain ⟨k0, k1, k2, k3, k4, k5, k6, k7, rfl, h0, h1, h2, h3, h4, h5, h6, h7⟩ := h
  obtain ⟨rfl, f0⟩ := h0
  obtain ⟨rfl, f1⟩ := h1
  obtain ⟨rfl, f2⟩ := h2
  obtain rfl := h3
  obtain ⟨aPairs, cPairs, rfl, f4⟩ := rList_open h4
  obtain ⟨aTxns, cTxns, rfl, f5⟩ := rList_open h5
  have f6 := h6
  obtain ⟨aCatalogTables, cCatalogTables, aCatalogIndexes, cCatalogIndexes, rfl, -⟩ := rGCatalog_open h6
  have f7 := h7
  obtain ⟨aRoutesSpans, cRoutesSpans, aRoutesCut, cRoutesCut, rfl, -⟩ := rGRoutes_open h7
  exact ⟨aPairs, cPairs, aTxns, cTxns, aCatalogTables, cCatalogTables, aCatalogIndexes, cCatalogIndexes, aRoutesSpans, cRoutesSpans, aRoutesCut, cRoutesCut, rfl, isI64_wf f0, isU64_wf f1, isI64_wf f2, f4, f5, f6, f7, trivial⟩
theorem rGReply_ones {w : World} {p : Nat → Prop} {cs : List Value} {x : GReply} (h : rGReply w p cs x) : ones cs = true := by
  obtain ⟨_, _, _, _, _, _, _, _, _, _, _, _, rfl, -⟩ := rGReply_open h
  rfl
theorem rGReply_mk (w : World) (p : Nat → Prop) {x : GReply} {aPairs aTxns aCatalogTables aCatalogIndexes aRoutesSpans aRoutesCut : Option Addr} {cPairs cTxns cCatalogTables cCatalogIndexes cRoutesSpans cRoutesCut : Nat} (h0 : isI64 x.fErr) (h1 : isU64 x.fTxn) (h2 : isI64 x.fN) (h4 : rList rGPair w p [.slice aPairs x.fPairs.length cPairs] x.fPairs) (h5 : rList (rInt .u64) w p [.slice aTxns x.fTxns.length cTxns] x.fTxns) (h6 : rGCatalog w p [.int .i64 x.fCatalog.fVersion, .int .i64 x.fCatalog.fNext, .slice aCatalogTables x.fCatalog.fTables.length cCatalogTables, .slice aCatalogIndexes x.fCatalog.fIndexes.length cCatalogIndexes] x.fCatalog) (h7 : rGRoutes w p [.int .i64 x.fRoutes.fEpoch, .int .i64 x.fRoutes.fBase, .slice aRoutesSpans x.fRoutes.fSpans.length cRoutesSpans, .int .i64 x.fRoutes.fMoving, .slice aRoutesCut x.fRoutes.fCut.length cRoutesCut] x.fRoutes) : rGReply w p [.int .i64 x.fErr, .int .u64 x.fTxn, .int .i64 x.fN, .bool x.fFlag, .slice aPairs x.fPairs.length cPairs, .slice aTxns x.fTxns.length cTxns, .int .i64 x.fCatalog.fVersion, .int .i64 x.fCatalog.fNext, .slice aCatalogTables x.fCatalog.fTables.length cCatalogTables, .slice aCatalogIndexes x.fCatalog.fIndexes.length cCatalogIndexes, .int .i64 x.fRoutes.fEpoch, .int .i64 x.fRoutes.fBase, .slice aRoutesSpans x.fRoutes.fSpans.length cRoutesSpans, .int .i64 x.fRoutes.fMoving, .slice aRoutesCut x.fRoutes.fCut.length cRoutesCut] x :=
  ⟨[.int .i64 x.fErr], [.int .u64 x.fTxn], [.int .i64 x.fN], [.bool x.fFlag], [.slice aPairs x.fPairs.length cPairs], [.slice aTxns x.fTxns.length cTxns], [.int .i64 x.fCatalog.fVersion, .int .i64 x.fCatalog.fNext, .slice aCatalogTables x.fCatalog.fTables.length cCatalogTables, .slice aCatalogIndexes x.fCatalog.fIndexes.length cCatalogIndexes], [.int .i64 x.fRoutes.fEpoch, .int .i64 x.fRoutes.fBase, .slice aRoutesSpans x.fRoutes.fSpans.length cRoutesSpans, .int .i64 x.fRoutes.fMoving, .slice aRoutesCut x.fRoutes.fCut.length cRoutesCut], rfl, ⟨rfl, wf_of_isI64 h0⟩, ⟨rfl, wf_of_isU64 h1⟩, ⟨rfl, wf_of_isI64 h2⟩, rfl, h4, h5, h6, h7⟩
theorem S_Reply : StructT Tryz.prog 55 15 := ⟨⟨_, Tryz.underlying55⟩, by kernel_rfl⟩
theorem B_Reply : BuildT Tryz.prog 55 [1, 1, 1, 1, 1, 1, 4, 5] := by
  obtain ⟨i, hi, hz, -, -⟩ := info_parts (by kernel_rfl : (Tryz.prog.info? 55).map (fun i => (i.zero, i.size, i.bytes)) = some (some (.agg #[.int .i64 0, .int .u64 0, .int .i64 0, .bool false, .slice none 0 0, .slice none 0 0, .int .i64 0, .int .i64 0, .slice none 0 0, .slice none 0 0, .int .i64 0, .int .i64 0, .slice none 0 0, .int .i64 0, .slice none 0 0]), 15, 216))
  exact ⟨_, i, _, [(0, 1), (1, 1), (2, 1), (3, 1), (4, 1), (5, 1), (6, 4), (10, 5)], Tryz.underlying55, hi, hz, rfl, by kernel_rfl, rfl, by decide⟩
theorem ldz_Reply (a : Act) (dst : Option Tmp) (x : Operand) (ty : TypeId) (pos : String) (after : Array Edge) (guard : Option (Nat × Bool)) : execOp a.eval { dst := dst, op := .load 55 x, type := ty, pos := pos, after := after, guard := guard } = wholeSem 55 (a.eval x) := rfl
theorem stz_Reply (a : Act) (dst : Option Tmp) (x y : Operand) (ty : TypeId) (pos : String) (after : Array Edge) (guard : Option (Nat × Bool)) : execOp a.eval { dst := dst, op := .store 55 x y, type := ty, pos := pos, after := after, guard := guard } = storeSem 55 (a.eval x) (a.eval y) := rfl
theorem bdz_Reply (a : Act) (dst : Option Tmp) (parts : Array (Nat × Operand)) (ty : TypeId) (pos : String) (after : Array Edge) (guard : Option (Nat × Bool)) : execOp a.eval { dst := dst, op := .build 55 parts, type := ty, pos := pos, after := after, guard := guard } = buildSem 55 (parts.map fun x => (x.1, a.eval x.2)) := rfl
theorem rGOp_open {w : World} {p : Nat → Prop} {cs : List Value} {x : GOp} (h : rGOp w p cs x) : ∃ aCKey cCKey aCSpanFrom cCSpanFrom aCSpanTo cCSpanTo aCPairs cCPairs aCSeens cCSeens aCWrites cCWrites aCTableColumns cCTableColumns aCTableKey cCTableKey aCIndexColumns cCIndexColumns aRaw cRaw, cs = [.int .i64 x.fC.fKind, .int .i64 x.fC.fEpoch, .int .u64 x.fC.fTxn, .int .i64 x.fC.fN, .int .i64 x.fC.fFrom, .int .i64 x.fC.fTo, .bool x.fC.fFlag, .slice aCKey x.fC.fKey.length cCKey, .slice aCSpanFrom x.fC.fSpan.fFrom.length cCSpanFrom, .slice aCSpanTo x.fC.fSpan.fTo.length cCSpanTo, .slice aCPairs x.fC.fPairs.length cCPairs, .slice aCSeens x.fC.fSeens.length cCSeens, .slice aCWrites x.fC.fWrites.length cCWrites, .int .i64 x.fC.fTable.fID, .string (strB x.fC.fTable.fName), .slice aCTableColumns x.fC.fTable.fColumns.length cCTableColumns, .slice aCTableKey x.fC.fTable.fKey.length cCTableKey, .int .i64 x.fC.fIndex.fID, .int .i64 x.fC.fIndex.fTable, .string (strB x.fC.fIndex.fName), .slice aCIndexColumns x.fC.fIndex.fColumns.length cCIndexColumns, .bool x.fC.fIndex.fUnique, .int .i64 x.fC.fIndex.fState, .bool x.fC.fIndex.fBad, .string (strB x.fC.fName), .slice aRaw x.fRaw.length cRaw, .bool x.fLoad] ∧ rGCommand w p [.int .i64 x.fC.fKind, .int .i64 x.fC.fEpoch, .int .u64 x.fC.fTxn, .int .i64 x.fC.fN, .int .i64 x.fC.fFrom, .int .i64 x.fC.fTo, .bool x.fC.fFlag, .slice aCKey x.fC.fKey.length cCKey, .slice aCSpanFrom x.fC.fSpan.fFrom.length cCSpanFrom, .slice aCSpanTo x.fC.fSpan.fTo.length cCSpanTo, .slice aCPairs x.fC.fPairs.length cCPairs, .slice aCSeens x.fC.fSeens.length cCSeens, .slice aCWrites x.fC.fWrites.length cCWrites, .int .i64 x.fC.fTable.fID, .string (strB x.fC.fTable.fName), .slice aCTableColumns x.fC.fTable.fColumns.length cCTableColumns, .slice aCTableKey x.fC.fTable.fKey.length cCTableKey, .int .i64 x.fC.fIndex.fID, .int .i64 x.fC.fIndex.fTable, .string (strB x.fC.fIndex.fName), .slice aCIndexColumns x.fC.fIndex.fColumns.length cCIndexColumns, .bool x.fC.fIndex.fUnique, .int .i64 x.fC.fIndex.fState, .bool x.fC.fIndex.fBad, .string (strB x.fC.fName)] x.fC ∧ (Lies w p aRaw (x.fRaw.map bv) ∧ x.fRaw.length ≤ cRaw ∧ x.fRaw.length ≤ far) ∧ True := by
  obtain ⟨k0, k1, k2, rfl, h0, h1, h2⟩ := h
  have f0 := h0
  obtain ⟨aCKey, cCKey, aCSpanFrom, cCSpanFrom, aCSpanTo, cCSpanTo, aCPairs, cCPairs, aCSeens, cCSeens, aCWrites, cCWrites, aCTableColumns, cCTableColumns, aCTableKey, cCTableKey, aCIndexColumns, cCIndexColumns, rfl, -⟩ := rGCommand_open h0
  obtain ⟨aRaw, cRaw, rfl, f1⟩ := h1
  obtain rfl := h2
  exact ⟨aCKey, cCKey, aCSpanFrom, cCSpanFrom, aCSpanTo, cCSpanTo, aCPairs, cCPairs, aCSeens, cCSeens, aCWrites, cCWrites, aCTableColumns, cCTableColumns, aCTableKey, cCTableKey, aCIndexColumns, cCIndexColumns, aRaw, cRaw, rfl, f0, f1, trivial⟩
theorem rGOp_ones {w : World} {p : Nat → Prop} {cs : List Value} {x : GOp} (h : rGOp w p cs x) : ones cs = true := by
  obtain ⟨_, _, _, _, _, _, _, _, _, _, _, _, _, _, _, _, _, _, _, _, rfl, -⟩ := rGOp_open h
  rfl
theorem rGOp_mk (w : World) (p : Nat → Prop) {x : GOp} {aCKey aCSpanFrom aCSpanTo aCPairs aCSeens aCWrites aCTableColumns aCTableKey aCIndexColumns aRaw : Option Addr} {cCKey cCSpanFrom cCSpanTo cCPairs cCSeens cCWrites cCTableColumns cCTableKey cCIndexColumns cRaw : Nat} (h0 : rGCommand w p [.int .i64 x.fC.fKind, .int .i64 x.fC.fEpoch, .int .u64 x.fC.fTxn, .int .i64 x.fC.fN, .int .i64 x.fC.fFrom, .int .i64 x.fC.fTo, .bool x.fC.fFlag, .slice aCKey x.fC.fKey.length cCKey, .slice aCSpanFrom x.fC.fSpan.fFrom.length cCSpanFrom, .slice aCSpanTo x.fC.fSpan.fTo.length cCSpanTo, .slice aCPairs x.fC.fPairs.length cCPairs, .slice aCSeens x.fC.fSeens.length cCSeens, .slice aCWrites x.fC.fWrites.length cCWrites, .int .i64 x.fC.fTable.fID, .string (strB x.fC.fTable.fName), .slice aCTableColumns x.fC.fTable.fColumns.length cCTableColumns, .slice aCTableKey x.fC.fTable.fKey.length cCTableKey, .int .i64 x.fC.fIndex.fID, .int .i64 x.fC.fIndex.fTable, .string (strB x.fC.fIndex.fName), .slice aCIndexColumns x.fC.fIndex.fColumns.length cCIndexColumns, .bool x.fC.fIndex.fUnique, .int .i64 x.fC.fIndex.fState, .bool x.fC.fIndex.fBad, .string (strB x.fC.fName)] x.fC) (h1 : (Lies w p aRaw (x.fRaw.map bv) ∧ x.fRaw.length ≤ cRaw ∧ x.fRaw.length ≤ far)) : rGOp w p [.int .i64 x.fC.fKind, .int .i64 x.fC.fEpoch, .int .u64 x.fC.fTxn, .int .i64 x.fC.fN, .int .i64 x.fC.fFrom, .int .i64 x.fC.fTo, .bool x.fC.fFlag, .slice aCKey x.fC.fKey.length cCKey, .slice aCSpanFrom x.fC.fSpan.fFrom.length cCSpanFrom, .slice aCSpanTo x.fC.fSpan.fTo.length cCSpanTo, .slice aCPairs x.fC.fPairs.length cCPairs, .slice aCSeens x.fC.fSeens.length cCSeens, .slice aCWrites x.fC.fWrites.length cCWrites, .int .i64 x.fC.fTable.fID, .string (strB x.fC.fTable.fName), .slice aCTableColumns x.fC.fTable.fColumns.length cCTableColumns, .slice aCTableKey x.fC.fTable.fKey.length cCTableKey, .int .i64 x.fC.fIndex.fID, .int .i64 x.fC.fIndex.fTable, .string (strB x.fC.fIndex.fName), .slice aCIndexColumns x.fC.fIndex.fColumns.length cCIndexColumns, .bool x.fC.fIndex.fUnique, .int .i64 x.fC.fIndex.fState, .bool x.fC.fIndex.fBad, .string (strB x.fC.fName), .slice aRaw x.fRaw.length cRaw, .bool x.fLoad] x :=
  ⟨[.int .i64 x.fC.fKind, .int .i64 x.fC.fEpoch, .int .u64 x.fC.fTxn, .int .i64 x.fC.fN, .int .i64 x.fC.fFrom, .int .i64 x.fC.fTo, .bool x.fC.fFlag, .slice aCKey x.fC.fKey.length cCKey, .slice aCSpanFrom x.fC.fSpan.fFrom.length cCSpanFrom, .slice aCSpanTo x.fC.fSpan.fTo.length cCSpanTo, .slice aCPairs x.fC.fPairs.length cCPairs, .slice aCSeens x.fC.fSeens.length cCSeens, .slice aCWrites x.fC.fWrites.length cCWrites, .int .i64 x.fC.fTable.fID, .string (strB x.fC.fTable.fName), .slice aCTableColumns x.fC.fTable.fColumns.length cCTableColumns, .slice aCTableKey x.fC.fTable.fKey.length cCTableKey, .int .i64 x.fC.fIndex.fID, .int .i64 x.fC.fIndex.fTable, .string (strB x.fC.fIndex.fName), .slice aCIndexColumns x.fC.fIndex.fColumns.length cCIndexColumns, .bool x.fC.fIndex.fUnique, .int .i64 x.fC.fIndex.fState, .bool x.fC.fIndex.fBad, .string (strB x.fC.fName)], [.slice aRaw x.fRaw.length cRaw], [.bool x.fLoad], rfl, h0, ⟨_, _, rfl, h1⟩, rfl⟩
theorem S_Op : StructT Tryz.prog 45 27 := ⟨⟨_, Tryz.underlying45⟩, by kernel_rfl⟩
theorem B_Op : BuildT Tryz.prog 45 [25, 1, 1] := by
  obtain ⟨i, hi, hz, -, -⟩ := info_parts (by kernel_rfl : (Tryz.prog.info? 45).map (fun i => (i.zero, i.size, i.bytes)) = some (some (.agg #[.int .i64 0, .int .i64 0, .int .u64 0, .int .i64 0, .int .i64 0, .int .i64 0, .bool false, .slice none 0 0, .slice none 0 0, .slice none 0 0, .slice none 0 0, .slice none 0 0, .slice none 0 0, .int .i64 0, .string ByteArray.empty, .slice none 0 0, .slice none 0 0, .int .i64 0, .int .i64 0, .string ByteArray.empty, .slice none 0 0, .bool false, .int .i64 0, .bool false, .string ByteArray.empty, .slice none 0 0, .bool false]), 27, 400))
  exact ⟨_, i, _, [(0, 25), (25, 1), (26, 1)], Tryz.underlying45, hi, hz, rfl, by kernel_rfl, rfl, by decide⟩
theorem ldz_Op (a : Act) (dst : Option Tmp) (x : Operand) (ty : TypeId) (pos : String) (after : Array Edge) (guard : Option (Nat × Bool)) : execOp a.eval { dst := dst, op := .load 45 x, type := ty, pos := pos, after := after, guard := guard } = wholeSem 45 (a.eval x) := rfl
theorem stz_Op (a : Act) (dst : Option Tmp) (x y : Operand) (ty : TypeId) (pos : String) (after : Array Edge) (guard : Option (Nat × Bool)) : execOp a.eval { dst := dst, op := .store 45 x y, type := ty, pos := pos, after := after, guard := guard } = storeSem 45 (a.eval x) (a.eval y) := rfl
theorem bdz_Op (a : Act) (dst : Option Tmp) (parts : Array (Nat × Operand)) (ty : TypeId) (pos : String) (after : Array Edge) (guard : Option (Nat × Bool)) : execOp a.eval { dst := dst, op := .build 45 parts, type := ty, pos := pos, after := after, guard := guard } = buildSem 45 (parts.map fun x => (x.1, a.eval x.2)) := rfl
theorem T_lOp : SliceT Tryz.prog 22 45 27 400 := SliceT.mk' Tryz.underlying22 (z := .agg #[.int .i64 0, .int .i64 0, .int .u64 0, .int .i64 0, .int .i64 0, .int .i64 0, .bool false, .slice none 0 0, .slice none 0 0, .slice none 0 0, .slice none 0 0, .slice none 0 0, .slice none 0 0, .int .i64 0, .string { data := #[] }, .slice none 0 0, .slice none 0 0, .int .i64 0, .int .i64 0, .string { data := #[] }, .slice none 0 0, .bool false, .int .i64 0, .bool false, .string { data := #[] }, .slice none 0 0, .bool false]) (by kernel_rfl) rfl (by decide)
theorem lsz_Op (a : Act) (dst : Option Tmp) (parts : Array (Nat × Operand)) (ty : TypeId) (pos : String) (after : Array Edge) (guard : Option (Nat × Bool)) : execOp a.eval { dst := dst, op := .buildSlice 22 1 parts, type := ty, pos := pos, after := after, guard := guard } = listSem 22 1 (parts.map fun x => (x.1, a.eval x.2)) := rfl
theorem rInt_ones {k : IntKind} {w : World} {p : Nat → Prop} {cs : List Value} {x : Int} (h : rInt k w p cs x) : ones cs = true := by rw [h.1]; rfl
theorem T_lint : SliceT Tryz.prog 37 3 1 8 := SliceT.mk' Tryz.underlying37 (z := .int .i64 0) (by kernel_rfl) rfl (by decide)
end Go.Proofs.YtibaehlfpgipfaaGreat
