/- THE STRUCTS: their cells written out, their rows in the table. Printed by gen16.py. -/
import Derived.Test.YtfogbbnfedcldaaTypes
import Derived.Test.YtfogbbnfedcldaaLst
namespace Go.Proofs.Ytfogbbnfedcldaa
open Go.RowKit

theorem wf_of_isI64 {n : Int} (h : isI64 n) : (Lit.int .i64 n).wf = true := Go.WalkArith.wf_i64 h
theorem wf_of_isU64 {n : Int} (h : isU64 n) : (Lit.int .u64 n).wf = true := Go.WalkArith.wf_u64 h
theorem rGColumn_open {w : World} {p : Nat → Prop} {cs : List Value} {x : GColumn} (h : rGColumn w p cs x) : cs = [.string (strB x.fName), .int .i64 x.fKind, .bool x.fNull] ∧ x.fName.length ≤ far ∧ isI64 x.fKind ∧ True := by
  obtain ⟨k0, k1, k2, rfl, h0, h1, h2⟩ := h
  obtain ⟨rfl, f0⟩ := h0
  obtain ⟨rfl, f1⟩ := h1
  obtain rfl := h2
  exact ⟨rfl, f0, isI64_wf f1, trivial⟩
theorem rGColumn_ones {w : World} {p : Nat → Prop} {cs : List Value} {x : GColumn} (h : rGColumn w p cs x) : ones cs = true := by
  obtain ⟨rfl, -⟩ := rGColumn_open h
  rfl
theorem rGColumn_mk (w : World) (p : Nat → Prop) {x : GColumn} (h0 : x.fName.length ≤ far) (h1 : isI64 x.fKind) : rGColumn w p [.string (strB x.fName), .int .i64 x.fKind, .bool x.fNull] x :=
  ⟨[.string (strB x.fName)], [.int .i64 x.fKind], [.bool x.fNull], rfl, ⟨rfl, h0⟩, ⟨rfl, wf_of_isI64 h1⟩, rfl⟩
theorem S_Column : StructT Try.prog 64 3 := ⟨⟨_, Try.underlying64⟩, by kernel_rfl⟩
theorem B_Column : BuildT Try.prog 64 [1, 1, 1] := by
  obtain ⟨i, hi, hz, -, -⟩ := info_parts (by kernel_rfl : (Try.prog.info? 64).map (fun i => (i.zero, i.size, i.bytes)) = some (some (.agg #[.string ByteArray.empty, .int .i64 0, .bool false]), 3, 32))
  exact ⟨_, i, _, [(0, 1), (1, 1), (2, 1)], Try.underlying64, hi, hz, rfl, by kernel_rfl, rfl, by decide⟩
theorem ldz_Column (a : Act) (dst : Option Tmp) (x : Operand) (ty : TypeId) (pos : String) (after : Array Edge) (guard : Option (Nat × Bool)) : execOp a.eval { dst := dst, op := .load 64 x, type := ty, pos := pos, after := after, guard := guard } = wholeSem 64 (a.eval x) := rfl
theorem stz_Column (a : Act) (dst : Option Tmp) (x y : Operand) (ty : TypeId) (pos : String) (after : Array Edge) (guard : Option (Nat × Bool)) : execOp a.eval { dst := dst, op := .store 64 x y, type := ty, pos := pos, after := after, guard := guard } = storeSem 64 (a.eval x) (a.eval y) := rfl
theorem bdz_Column (a : Act) (dst : Option Tmp) (parts : Array (Nat × Operand)) (ty : TypeId) (pos : String) (after : Array Edge) (guard : Option (Nat × Bool)) : execOp a.eval { dst := dst, op := .build 64 parts, type := ty, pos := pos, after := after, guard := guard } = buildSem 64 (parts.map fun x => (x.1, a.eval x.2)) := rfl
theorem T_lColumn : SliceT Try.prog 30 64 3 32 := SliceT.mk' Try.underlying30 (z := .agg #[.string { data := #[] }, .int .i64 0, .bool false]) (by kernel_rfl) rfl (by decide)
theorem lsz_Column (a : Act) (dst : Option Tmp) (parts : Array (Nat × Operand)) (ty : TypeId) (pos : String) (after : Array Edge) (guard : Option (Nat × Bool)) : execOp a.eval { dst := dst, op := .buildSlice 30 1 parts, type := ty, pos := pos, after := after, guard := guard } = listSem 30 1 (parts.map fun x => (x.1, a.eval x.2)) := rfl
theorem rGTable_open {w : World} {p : Nat → Prop} {cs : List Value} {x : GTable} (h : rGTable w p cs x) : ∃ aColumns cColumns aKey cKey, cs = [.int .i64 x.fID, .string (strB x.fName), .slice aColumns x.fColumns.length cColumns, .slice aKey x.fKey.length cKey] ∧ isI64 x.fID ∧ x.fName.length ≤ far ∧ rList rGColumn w p [.slice aColumns x.fColumns.length cColumns] x.fColumns ∧ rList (rInt .i64) w p [.slice aKey x.fKey.length cKey] x.fKey ∧ True := by
  obtain ⟨k0, k1, k2, k3, rfl, h0, h1, h2, h3⟩ := h
  obtain ⟨rfl, f0⟩ := h0
  obtain ⟨rfl, f1⟩ := h1
  obtain ⟨aColumns, cColumns, rfl, f2⟩ := rList_open h2
  obtain ⟨aKey, cKey, rfl, f3⟩ := rList_open h3
  exact ⟨aColumns, cColumns, aKey, cKey, rfl, isI64_wf f0, f1, f2, f3, trivial⟩
theorem rGTable_ones {w : World} {p : Nat → Prop} {cs : List Value} {x : GTable} (h : rGTable w p cs x) : ones cs = true := by
  obtain ⟨_, _, _, _, rfl, -⟩ := rGTable_open h
  rfl
theorem rGTable_mk (w : World) (p : Nat → Prop) {x : GTable} {aColumns aKey : Option Addr} {cColumns cKey : Nat} (h0 : isI64 x.fID) (h1 : x.fName.length ≤ far) (h2 : rList rGColumn w p [.slice aColumns x.fColumns.length cColumns] x.fColumns) (h3 : rList (rInt .i64) w p [.slice aKey x.fKey.length cKey] x.fKey) : rGTable w p [.int .i64 x.fID, .string (strB x.fName), .slice aColumns x.fColumns.length cColumns, .slice aKey x.fKey.length cKey] x :=
  ⟨[.int .i64 x.fID], [.string (strB x.fName)], [.slice aColumns x.fColumns.length cColumns], [.slice aKey x.fKey.length cKey], rfl, ⟨rfl, wf_of_isI64 h0⟩, ⟨rfl, h1⟩, h2, h3⟩
theorem S_Table : StructT Try.prog 33 4 := ⟨⟨_, Try.underlying33⟩, by kernel_rfl⟩
theorem B_Table : BuildT Try.prog 33 [1, 1, 1, 1] := by
  obtain ⟨i, hi, hz, -, -⟩ := info_parts (by kernel_rfl : (Try.prog.info? 33).map (fun i => (i.zero, i.size, i.bytes)) = some (some (.agg #[.int .i64 0, .string ByteArray.empty, .slice none 0 0, .slice none 0 0]), 4, 72))
  exact ⟨_, i, _, [(0, 1), (1, 1), (2, 1), (3, 1)], Try.underlying33, hi, hz, rfl, by kernel_rfl, rfl, by decide⟩
theorem ldz_Table (a : Act) (dst : Option Tmp) (x : Operand) (ty : TypeId) (pos : String) (after : Array Edge) (guard : Option (Nat × Bool)) : execOp a.eval { dst := dst, op := .load 33 x, type := ty, pos := pos, after := after, guard := guard } = wholeSem 33 (a.eval x) := rfl
theorem stz_Table (a : Act) (dst : Option Tmp) (x y : Operand) (ty : TypeId) (pos : String) (after : Array Edge) (guard : Option (Nat × Bool)) : execOp a.eval { dst := dst, op := .store 33 x y, type := ty, pos := pos, after := after, guard := guard } = storeSem 33 (a.eval x) (a.eval y) := rfl
theorem bdz_Table (a : Act) (dst : Option Tmp) (parts : Array (Nat × Operand)) (ty : TypeId) (pos : String) (after : Array Edge) (guard : Option (Nat × Bool)) : execOp a.eval { dst := dst, op := .build 33 parts, type := ty, pos := pos, after := after, guard := guard } = buildSem 33 (parts.map fun x => (x.1, a.eval x.2)) := rfl
theorem T_lTable : SliceT Try.prog 22 33 4 72 := SliceT.mk' Try.underlying22 (z := .agg #[.int .i64 0, .string { data := #[] }, .slice none 0 0, .slice none 0 0]) (by kernel_rfl) rfl (by decide)
theorem lsz_Table (a : Act) (dst : Option Tmp) (parts : Array (Nat × Operand)) (ty : TypeId) (pos : String) (after : Array Edge) (guard : Option (Nat × Bool)) : execOp a.eval { dst := dst, op := .buildSlice 22 1 parts, type := ty, pos := pos, after := after, guard := guard } = listSem 22 1 (parts.map fun x => (x.1, a.eval x.2)) := rfl
theorem rGIndex_open {w : World} {p : Nat → Prop} {cs : List Value} {x : GIndex} (h : rGIndex w p cs x) : ∃ aColumns cColumns, cs = [.int .i64 x.fID, .int .i64 x.fTable, .string (strB x.fName), .slice aColumns x.fColumns.length cColumns, .bool x.fUnique, .int .i64 x.fState, .bool x.fBad] ∧ isI64 x.fID ∧ isI64 x.fTable ∧ x.fName.length ≤ far ∧ rList (rInt .i64) w p [.slice aColumns x.fColumns.length cColumns] x.fColumns ∧ isI64 x.fState ∧ True := by
  obtain ⟨k0, k1, k2, k3, k4, k5, k6, rfl, h0, h1, h2, h3, h4, h5, h6⟩ := h
  obtain ⟨rfl, f0⟩ := h0
  obtain ⟨rfl, f1⟩ := h1
  obtain ⟨rfl, f2⟩ := h2
  obtain ⟨aColumns, cColumns, rfl, f3⟩ := rList_open h3
  obtain rfl := h4
  obtain ⟨rfl, f5⟩ := h5
  obtain rfl := h6
  exact ⟨aColumns, cColumns, rfl, isI64_wf f0, isI64_wf f1, f2, f3, isI64_wf f5, trivial⟩
theorem rGIndex_ones {w : World} {p : Nat → Prop} {cs : List Value} {x : GIndex} (h : rGIndex w p cs x) : ones cs = true := by
  obtain ⟨_, _, rfl, -⟩ := rGIndex_open h
  rfl
theorem rGIndex_mk (w : World) (p : Nat → Prop) {x : GIndex} {aColumns : Option Addr} {cColumns : Nat} (h0 : isI64 x.fID) (h1 : isI64 x.fTable) (h2 : x.fName.length ≤ far) (h3 : rList (rInt .i64) w p [.slice aColumns x.fColumns.length cColumns] x.fColumns) (h5 : isI64 x.fState) : rGIndex w p [.int .i64 x.fID, .int .i64 x.fTable, .string (strB x.fName), .slice aColumns x.fColumns.length cColumns, .bool x.fUnique, .int .i64 x.fState, .bool x.fBad] x :=
  ⟨[.int .i64 x.fID], [.int .i64 x.fTable], [.string (strB x.fName)], [.slice aColumns x.fColumns.length cColumns], [.bool x.fUnique], [.int .i64 x.fState], [.bool x.fBad], rfl, ⟨rfl, wf_of_isI64 h0⟩, ⟨rfl, wf_of_isI64 h1⟩, ⟨rfl, h2⟩, h3, rfl, ⟨rfl, wf_of_isI64 h5⟩, rfl⟩
theorem S_Index : StructT Try.prog 37 7 := ⟨⟨_, Try.underlying37⟩, by kernel_rfl⟩
theorem B_Index : BuildT Try.prog 37 [1, 1, 1, 1, 1, 1, 1] := by
  obtain ⟨i, hi, hz, -, -⟩ := info_parts (by kernel_rfl : (Try.prog.info? 37).map (fun i => (i.zero, i.size, i.bytes)) = some (some (.agg #[.int .i64 0, .int .i64 0, .string ByteArray.empty, .slice none 0 0, .bool false, .int .i64 0, .bool false]), 7, 80))
  exact ⟨_, i, _, [(0, 1), (1, 1), (2, 1), (3, 1), (4, 1), (5, 1), (6, 1)], Try.underlying37, hi, hz, rfl, by kernel_rfl, rfl, by decide⟩
theorem ldz_Index (a : Act) (dst : Option Tmp) (x : Operand) (ty : TypeId) (pos : String) (after : Array Edge) (guard : Option (Nat × Bool)) : execOp a.eval { dst := dst, op := .load 37 x, type := ty, pos := pos, after := after, guard := guard } = wholeSem 37 (a.eval x) := rfl
theorem stz_Index (a : Act) (dst : Option Tmp) (x y : Operand) (ty : TypeId) (pos : String) (after : Array Edge) (guard : Option (Nat × Bool)) : execOp a.eval { dst := dst, op := .store 37 x y, type := ty, pos := pos, after := after, guard := guard } = storeSem 37 (a.eval x) (a.eval y) := rfl
theorem bdz_Index (a : Act) (dst : Option Tmp) (parts : Array (Nat × Operand)) (ty : TypeId) (pos : String) (after : Array Edge) (guard : Option (Nat × Bool)) : execOp a.eval { dst := dst, op := .build 37 parts, type := ty, pos := pos, after := after, guard := guard } = buildSem 37 (parts.map fun x => (x.1, a.eval x.2)) := rfl
theorem T_lIndex : SliceT Try.prog 23 37 7 80 := SliceT.mk' Try.underlying23 (z := .agg #[.int .i64 0, .int .i64 0, .string { data := #[] }, .slice none 0 0, .bool false, .int .i64 0, .bool false]) (by kernel_rfl) rfl (by decide)
theorem lsz_Index (a : Act) (dst : Option Tmp) (parts : Array (Nat × Operand)) (ty : TypeId) (pos : String) (after : Array Edge) (guard : Option (Nat × Bool)) : execOp a.eval { dst := dst, op := .buildSlice 23 1 parts, type := ty, pos := pos, after := after, guard := guard } = listSem 23 1 (parts.map fun x => (x.1, a.eval x.2)) := rfl
theorem rGCatalog_open {w : World} {p : Nat → Prop} {cs : List Value} {x : GCatalog} (h : rGCatalog w p cs x) : ∃ aTables cTables aIndexes cIndexes, cs = [.int .i64 x.fVersion, .int .i64 x.fNext, .slice aTables x.fTables.length cTables, .slice aIndexes x.fIndexes.length cIndexes] ∧ isI64 x.fVersion ∧ isI64 x.fNext ∧ rList rGTable w p [.slice aTables x.fTables.length cTables] x.fTables ∧ rList rGIndex w p [.slice aIndexes x.fIndexes.length cIndexes] x.fIndexes ∧ True := by
  obtain ⟨k0, k1, k2, k3, rfl, h0, h1, h2, h3⟩ := h
  obtain ⟨rfl, f0⟩ := h0
  obtain ⟨rfl, f1⟩ := h1
  obtain ⟨aTables, cTables, rfl, f2⟩ := rList_open h2
  obtain ⟨aIndexes, cIndexes, rfl, f3⟩ := rList_open h3
  exact ⟨aTables, cTables, aIndexes, cIndexes, rfl, isI64_wf f0, isI64_wf f1, f2, f3, trivial⟩
theorem rGCatalog_ones {w : World} {p : Nat → Prop} {cs : List Value} {x : GCatalog} (h : rGCatalog w p cs x) : ones cs = true := by
  obtain ⟨_, _, _, _, rfl, -⟩ := rGCatalog_open h
  rfl
theorem rGCatalog_mk (w : World) (p : Nat → Prop) {x : GCatalog} {aTables aIndexes : Option Addr} {cTables cIndexes : Nat} (h0 : isI64 x.fVersion) (h1 : isI64 x.fNext) (h2 : rList rGTable w p [.slice aTables x.fTables.length cTables] x.fTables) (h3 : rList rGIndex w p [.slice aIndexes x.fIndexes.length cIndexes] x.fIndexes) : rGCatalog w p [.int .i64 x.fVersion, .int .i64 x.fNext, .slice aTables x.fTables.length cTables, .slice aIndexes x.fIndexes.length cIndexes] x :=
  ⟨[.int .i64 x.fVersion], [.int .i64 x.fNext], [.slice aTables x.fTables.length cTables], [.slice aIndexes x.fIndexes.length cIndexes], rfl, ⟨rfl, wf_of_isI64 h0⟩, ⟨rfl, wf_of_isI64 h1⟩, h2, h3⟩
theorem S_Catalog : StructT Try.prog 25 4 := ⟨⟨_, Try.underlying25⟩, by kernel_rfl⟩
theorem B_Catalog : BuildT Try.prog 25 [1, 1, 1, 1] := by
  obtain ⟨i, hi, hz, -, -⟩ := info_parts (by kernel_rfl : (Try.prog.info? 25).map (fun i => (i.zero, i.size, i.bytes)) = some (some (.agg #[.int .i64 0, .int .i64 0, .slice none 0 0, .slice none 0 0]), 4, 64))
  exact ⟨_, i, _, [(0, 1), (1, 1), (2, 1), (3, 1)], Try.underlying25, hi, hz, rfl, by kernel_rfl, rfl, by decide⟩
theorem ldz_Catalog (a : Act) (dst : Option Tmp) (x : Operand) (ty : TypeId) (pos : String) (after : Array Edge) (guard : Option (Nat × Bool)) : execOp a.eval { dst := dst, op := .load 25 x, type := ty, pos := pos, after := after, guard := guard } = wholeSem 25 (a.eval x) := rfl
theorem stz_Catalog (a : Act) (dst : Option Tmp) (x y : Operand) (ty : TypeId) (pos : String) (after : Array Edge) (guard : Option (Nat × Bool)) : execOp a.eval { dst := dst, op := .store 25 x y, type := ty, pos := pos, after := after, guard := guard } = storeSem 25 (a.eval x) (a.eval y) := rfl
theorem bdz_Catalog (a : Act) (dst : Option Tmp) (parts : Array (Nat × Operand)) (ty : TypeId) (pos : String) (after : Array Edge) (guard : Option (Nat × Bool)) : execOp a.eval { dst := dst, op := .build 25 parts, type := ty, pos := pos, after := after, guard := guard } = buildSem 25 (parts.map fun x => (x.1, a.eval x.2)) := rfl
theorem rGOp_open {w : World} {p : Nat → Prop} {cs : List Value} {x : GOp} (h : rGOp w p cs x) : ∃ aTColumns cTColumns aTKey cTKey aXColumns cXColumns, cs = [.int .i64 x.fKind, .int .i64 x.fT.fID, .string (strB x.fT.fName), .slice aTColumns x.fT.fColumns.length cTColumns, .slice aTKey x.fT.fKey.length cTKey, .int .i64 x.fX.fID, .int .i64 x.fX.fTable, .string (strB x.fX.fName), .slice aXColumns x.fX.fColumns.length cXColumns, .bool x.fX.fUnique, .int .i64 x.fX.fState, .bool x.fX.fBad, .string (strB x.fName), .int .i64 x.fID, .int .i64 x.fFrom, .int .i64 x.fTo, .bool x.fBad] ∧ isI64 x.fKind ∧ rGTable w p [.int .i64 x.fT.fID, .string (strB x.fT.fName), .slice aTColumns x.fT.fColumns.length cTColumns, .slice aTKey x.fT.fKey.length cTKey] x.fT ∧ rGIndex w p [.int .i64 x.fX.fID, .int .i64 x.fX.fTable, .string (strB x.fX.fName), .slice aXColumns x.fX.fColumns.length cXColumns, .bool x.fX.fUnique, .int .i64 x.fX.fState, .bool x.fX.fBad] x.fX ∧ x.fName.length ≤ far ∧ isI64 x.fID ∧ isI64 x.fFrom ∧ isI64 x.fTo ∧ True := by
  obtain ⟨k0, k1, k2, k3, k4, k5, k6, k7, rfl, h0, h1, h2, h3, h4, h5, h6, h7⟩ := h
  obtain ⟨rfl, f0⟩ := h0
  have f1 := h1
  obtain ⟨aTColumns, cTColumns, aTKey, cTKey, rfl, -⟩ := rGTable_open h1
  have f2 := h2
  obtain ⟨aXColumns, cXColumns, rfl, -⟩ := rGIndex_open h2
  obtain ⟨rfl, f3⟩ := h3
  obtain ⟨rfl, f4⟩ := h4
  obtain ⟨rfl, f5⟩ := h5
  obtain ⟨rfl, f6⟩ := h6
  obtain rfl := h7
  exact ⟨aTColumns, cTColumns, aTKey, cTKey, aXColumns, cXColumns, rfl, isI64_wf f0, f1, f2, f3, isI64_wf f4, isI64_wf f5, isI64_wf f6, trivial⟩
theorem rGOp_ones {w : World} {p : Nat → Prop} {cs : List Value} {x : GOp} (h : rGOp w p cs x) : ones cs = true := by
  obtain ⟨_, _, _, _, _, _, rfl, -⟩ := rGOp_open h
  rfl
theorem rGOp_mk (w : World) (p : Nat → Prop) {x : GOp} {aTColumns aTKey aXColumns : Option Addr} {cTColumns cTKey cXColumns : Nat} (h0 : isI64 x.fKind) (h1 : rGTable w p [.int .i64 x.fT.fID, .string (strB x.fT.fName), .slice aTColumns x.fT.fColumns.length cTColumns, .slice aTKey x.fT.fKey.length cTKey] x.fT) (h2 : rGIndex w p [.int .i64 x.fX.fID, .int .i64 x.fX.fTable, .string (strB x.fX.fName), .slice aXColumns x.fX.fColumns.length cXColumns, .bool x.fX.fUnique, .int .i64 x.fX.fState, .bool x.fX.fBad] x.fX) (h3 : x.fName.length ≤ far) (h4 : isI64 x.fID) (h5 : isI64 x.fFrom) (h6 : isI64 x.fTo) : rGOp w p [.int .i64 x.fKind, .int .i64 x.fT.fID, .string (strB x.fT.fName), .slice aTColumns x.fT.fColumns.length cTColumns, .slice aTKey x.fT.fKey.length cTKey, .int .i64 x.fX.fID, .int .i64 x.fX.fTable, .string (strB x.fX.fName), .slice aXColumns x.fX.fColumns.length cXColumns, .bool x.fX.fUnique, .int .i64 x.fX.fState, .bool x.fX.fBad, .string (strB x.fName), .int .i64 x.fID, .int .i64 x.fFrom, .int .i64 x.fTo, .bool x.fBad] x :=
  ⟨[.int .i64 x.fKind], [.int .i64 x.fT.fID, .string (strB x.fT.fName), .slice aTColumns x.fT.fColumns.length cTColumns, .slice aTKey x.fT.fKey.length cTKey], [.int .i64 x.fX.fID, .int .i64 x.fX.fTable, .string (strB x.fX.fName), .slice aXColumns x.fX.fColumns.length cXColumns, .bool x.fX.fUnique, .int .i64 x.fX.fState, .bool x.fX.fBad], [.string (strB x.fName)], [.int .i64 x.fID], [.int .i64 x.fFrom], [.int .i64 x.fTo], [.bool x.fBad], rfl, ⟨rfl, wf_of_isI64 h0⟩, h1, h2, ⟨rfl, h3⟩, ⟨rfl, wf_of_isI64 h4⟩, ⟨rfl, wf_of_isI64 h5⟩, ⟨rfl, wf_of_isI64 h6⟩, rfl⟩
theorem S_Op : StructT Try.prog 57 17 := ⟨⟨_, Try.underlying57⟩, by kernel_rfl⟩
theorem B_Op : BuildT Try.prog 57 [1, 4, 7, 1, 1, 1, 1, 1] := by
  obtain ⟨i, hi, hz, -, -⟩ := info_parts (by kernel_rfl : (Try.prog.info? 57).map (fun i => (i.zero, i.size, i.bytes)) = some (some (.agg #[.int .i64 0, .int .i64 0, .string ByteArray.empty, .slice none 0 0, .slice none 0 0, .int .i64 0, .int .i64 0, .string ByteArray.empty, .slice none 0 0, .bool false, .int .i64 0, .bool false, .string ByteArray.empty, .int .i64 0, .int .i64 0, .int .i64 0, .bool false]), 17, 208))
  exact ⟨_, i, _, [(0, 1), (1, 4), (5, 7), (12, 1), (13, 1), (14, 1), (15, 1), (16, 1)], Try.underlying57, hi, hz, rfl, by kernel_rfl, rfl, by decide⟩
theorem ldz_Op (a : Act) (dst : Option Tmp) (x : Operand) (ty : TypeId) (pos : String) (after : Array Edge) (guard : Option (Nat × Bool)) : execOp a.eval { dst := dst, op := .load 57 x, type := ty, pos := pos, after := after, guard := guard } = wholeSem 57 (a.eval x) := rfl
theorem stz_Op (a : Act) (dst : Option Tmp) (x y : Operand) (ty : TypeId) (pos : String) (after : Array Edge) (guard : Option (Nat × Bool)) : execOp a.eval { dst := dst, op := .store 57 x y, type := ty, pos := pos, after := after, guard := guard } = storeSem 57 (a.eval x) (a.eval y) := rfl
theorem bdz_Op (a : Act) (dst : Option Tmp) (parts : Array (Nat × Operand)) (ty : TypeId) (pos : String) (after : Array Edge) (guard : Option (Nat × Bool)) : execOp a.eval { dst := dst, op := .build 57 parts, type := ty, pos := pos, after := after, guard := guard } = buildSem 57 (parts.map fun x => (x.1, a.eval x.2)) := rfl
theorem T_lOp : SliceT Try.prog 55 57 17 208 := SliceT.mk' Try.underlying55 (z := .agg #[.int .i64 0, .int .i64 0, .string { data := #[] }, .slice none 0 0, .slice none 0 0, .int .i64 0, .int .i64 0, .string { data := #[] }, .slice none 0 0, .bool false, .int .i64 0, .bool false, .string { data := #[] }, .int .i64 0, .int .i64 0, .int .i64 0, .bool false]) (by kernel_rfl) rfl (by decide)
theorem lsz_Op (a : Act) (dst : Option Tmp) (parts : Array (Nat × Operand)) (ty : TypeId) (pos : String) (after : Array Edge) (guard : Option (Nat × Bool)) : execOp a.eval { dst := dst, op := .buildSlice 55 1 parts, type := ty, pos := pos, after := after, guard := guard } = listSem 55 1 (parts.map fun x => (x.1, a.eval x.2)) := rfl
theorem rInt_ones {k : IntKind} {w : World} {p : Nat → Prop} {cs : List Value} {x : Int} (h : rInt k w p cs x) : ones cs = true := by rw [h.1]; rfl
theorem T_lint : SliceT Try.prog 31 3 1 8 := SliceT.mk' Try.underlying31 (z := .int .i64 0) (by kernel_rfl) rfl (by decide)
end Go.Proofs.Ytfogbbnfedcldaa
