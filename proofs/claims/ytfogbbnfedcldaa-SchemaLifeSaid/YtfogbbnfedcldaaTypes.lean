/- THE STRUCTS of package api: what cells read as them. Written by gen.py. -/
import Derived.Test.YtfogbbnfedcldaaData
namespace Go.Proofs.Ytfogbbnfedcldaa
open Go.RowKit
theorem cells3 : Try.prog.cellsOf 3 = 1 := by kernel_rfl
theorem cells4 : Try.prog.cellsOf 4 = 1 := by kernel_rfl
theorem cells9 : Try.prog.cellsOf 9 = 1 := by kernel_rfl
theorem cells22 : Try.prog.cellsOf 22 = 1 := by kernel_rfl
theorem cells23 : Try.prog.cellsOf 23 = 1 := by kernel_rfl
theorem cells25 : Try.prog.cellsOf 25 = 4 := by kernel_rfl
theorem cells30 : Try.prog.cellsOf 30 = 1 := by kernel_rfl
theorem cells31 : Try.prog.cellsOf 31 = 1 := by kernel_rfl
theorem cells33 : Try.prog.cellsOf 33 = 4 := by kernel_rfl
theorem cells37 : Try.prog.cellsOf 37 = 7 := by kernel_rfl
theorem cells57 : Try.prog.cellsOf 57 = 17 := by kernel_rfl
theorem cells64 : Try.prog.cellsOf 64 = 3 := by kernel_rfl
theorem bytes3 : Try.prog.bytesOf 3 = 8 := by kernel_rfl
theorem bytes33 : Try.prog.bytesOf 33 = 72 := by kernel_rfl
theorem bytes37 : Try.prog.bytesOf 37 = 80 := by kernel_rfl
theorem bytes64 : Try.prog.bytesOf 64 = 32 := by kernel_rfl
/-- armoire/api.Column -/
structure GColumn where
  fName : (List UInt8)
  fKind : Int
  fNull : Bool
  deriving DecidableEq
def rGColumn : RD GColumn := fun w p cs x => ∃ c0 c1 c2 : List Value, cs = List.flatten [c0, c1, c2] ∧ rStr w p c0 x.fName ∧ (rInt .i64) w p c1 x.fKind ∧ rBool w p c2 x.fNull
theorem rGColumn_lawful : Lawful rGColumn 3 :=
  ⟨fun ⟨c0, c1, c2, h, h0, h1, h2⟩ => by rw [h]; simp only [List.flatten_cons, List.flatten_nil, List.append_nil, List.length_append, rStr_lawful.len h0, (rInt_lawful _).len h1, rBool_lawful.len h2],
   fun ⟨c0, c1, c2, h, h0, h1, h2⟩ k hs => ⟨c0, c1, c2, h, rStr_lawful.keep h0 k hs, (rInt_lawful _).keep h1 k hs, rBool_lawful.keep h2 k hs⟩,
   fun ⟨c0, c1, c2, h, h0, h1, h2⟩ hq => ⟨c0, c1, c2, h, rStr_lawful.mono h0 hq, (rInt_lawful _).mono h1 hq, rBool_lawful.mono h2 hq⟩⟩
def GColumn.size (x : GColumn) : Nat := (fun x : List UInt8 => x.length + 1) x.fName + (fun _ => 1) x.fKind + (fun _ => 1) x.fNull + 1
theorem redGColumn {W : World} {m : Nat} {cs : List Value} (h : Red Try.prog W m 64 cs) : ∃ x, rGColumn W (· < W.heap.size) cs x ∧ x.size ≤ m := by
  obtain ⟨hl, ms, h1, h2, h3⟩ := h.fields Try.underlying64 cells64
  match ms, h1 with
  | [m0, m1, m2], _ =>
    have r0 : Red Try.prog W m0 9 ((cs.drop 0).take 1) := (congrArg (fun k => Red Try.prog W m0 9 ((cs.drop 0).take k)) cells9).mp (h3 0 _ m0 rfl rfl)
    obtain ⟨x0, g0, s0⟩ := Red.toStr Try.underlying9 r0
    have r1 : Red Try.prog W m1 3 ((cs.drop 1).take 1) := (congrArg (fun k => Red Try.prog W m1 3 ((cs.drop 1).take k)) cells3).mp (h3 1 _ m1 rfl rfl)
    obtain ⟨x1, g1, s1⟩ := Red.toInt Try.underlying3 r1
    have r2 : Red Try.prog W m2 4 ((cs.drop 2).take 1) := (congrArg (fun k => Red Try.prog W m2 4 ((cs.drop 2).take k)) cells4).mp (h3 2 _ m2 rfl rfl)
    obtain ⟨x2, g2, s2⟩ := Red.toBool Try.underlying4 r2
    have hp := parts_flat cs [1, 1, 1] 0 (by simpa using hl)
    simp only [parts, List.drop_zero, Nat.zero_add, Nat.reduceAdd] at hp
    refine ⟨⟨x0, x1, x2⟩, ⟨_, _, _, hp.symm, g0, g1, g2⟩, ?_⟩
    simp only [List.sum_cons, List.sum_nil] at h2
    simp only [GColumn.size] at *
    omega

/-- armoire/api.Table -/
structure GTable where
  fID : Int
  fName : (List UInt8)
  fColumns : (List GColumn)
  fKey : (List Int)
  deriving DecidableEq
def rGTable : RD GTable := fun w p cs x => ∃ c0 c1 c2 c3 : List Value, cs = List.flatten [c0, c1, c2, c3] ∧ (rInt .i64) w p c0 x.fID ∧ rStr w p c1 x.fName ∧ (rList rGColumn) w p c2 x.fColumns ∧ (rList (rInt .i64)) w p c3 x.fKey
theorem rGTable_lawful : Lawful rGTable 4 :=
  ⟨fun ⟨c0, c1, c2, c3, h, h0, h1, h2, h3⟩ => by rw [h]; simp only [List.flatten_cons, List.flatten_nil, List.append_nil, List.length_append, (rInt_lawful _).len h0, rStr_lawful.len h1, (rList_lawful rGColumn_lawful).len h2, (rList_lawful (rInt_lawful _)).len h3],
   fun ⟨c0, c1, c2, c3, h, h0, h1, h2, h3⟩ k hs => ⟨c0, c1, c2, c3, h, (rInt_lawful _).keep h0 k hs, rStr_lawful.keep h1 k hs, (rList_lawful rGColumn_lawful).keep h2 k hs, (rList_lawful (rInt_lawful _)).keep h3 k hs⟩,
   fun ⟨c0, c1, c2, c3, h, h0, h1, h2, h3⟩ hq => ⟨c0, c1, c2, c3, h, (rInt_lawful _).mono h0 hq, rStr_lawful.mono h1 hq, (rList_lawful rGColumn_lawful).mono h2 hq, (rList_lawful (rInt_lawful _)).mono h3 hq⟩⟩
def GTable.size (x : GTable) : Nat := (fun _ => 1) x.fID + (fun x : List UInt8 => x.length + 1) x.fName + (sumOf GColumn.size) x.fColumns + (sumOf (fun _ => 1)) x.fKey + 1
theorem redGTable {W : World} {m : Nat} {cs : List Value} (h : Red Try.prog W m 33 cs) : ∃ x, rGTable W (· < W.heap.size) cs x ∧ x.size ≤ m := by
  obtain ⟨hl, ms, h1, h2, h3⟩ := h.fields Try.underlying33 cells33
  match ms, h1 with
  | [m0, m1, m2, m3], _ =>
    have r0 : Red Try.prog W m0 3 ((cs.drop 0).take 1) := (congrArg (fun k => Red Try.prog W m0 3 ((cs.drop 0).take k)) cells3).mp (h3 0 _ m0 rfl rfl)
    obtain ⟨x0, g0, s0⟩ := Red.toInt Try.underlying3 r0
    have r1 : Red Try.prog W m1 9 ((cs.drop 1).take 1) := (congrArg (fun k => Red Try.prog W m1 9 ((cs.drop 1).take k)) cells9).mp (h3 1 _ m1 rfl rfl)
    obtain ⟨x1, g1, s1⟩ := Red.toStr Try.underlying9 r1
    have r2 : Red Try.prog W m2 30 ((cs.drop 2).take 1) := (congrArg (fun k => Red Try.prog W m2 30 ((cs.drop 2).take k)) cells30).mp (h3 2 _ m2 rfl rfl)
    obtain ⟨x2, g2, s2⟩ := Red.toList (GColumn.size) Try.underlying30 cells64 bytes64 (by decide) (by decide) (fun h => redGColumn h) r2
    have r3 : Red Try.prog W m3 31 ((cs.drop 3).take 1) := (congrArg (fun k => Red Try.prog W m3 31 ((cs.drop 3).take k)) cells31).mp (h3 3 _ m3 rfl rfl)
    obtain ⟨x3, g3, s3⟩ := Red.toList ((fun _ => 1)) Try.underlying31 cells3 bytes3 (by decide) (by decide) (fun h => Red.toInt Try.underlying3 h) r3
    have hp := parts_flat cs [1, 1, 1, 1] 0 (by simpa using hl)
    simp only [parts, List.drop_zero, Nat.zero_add, Nat.reduceAdd] at hp
    refine ⟨⟨x0, x1, x2, x3⟩, ⟨_, _, _, _, hp.symm, g0, g1, g2, g3⟩, ?_⟩
    simp only [List.sum_cons, List.sum_nil] at h2
    simp only [GTable.size] at *
    omega

/-- armoire/api.Index -/
structure GIndex where
  fID : Int
  fTable : Int
  fName : (List UInt8)
  fColumns : (List Int)
  fUnique : Bool
  fState : Int
  fBad : Bool
  deriving DecidableEq
def rGIndex : RD GIndex := fun w p cs x => ∃ c0 c1 c2 c3 c4 c5 c6 : List Value, cs = List.flatten [c0, c1, c2, c3, c4, c5, c6] ∧ (rInt .i64) w p c0 x.fID ∧ (rInt .i64) w p c1 x.fTable ∧ rStr w p c2 x.fName ∧ (rList (rInt .i64)) w p c3 x.fColumns ∧ rBool w p c4 x.fUnique ∧ (rInt .i64) w p c5 x.fState ∧ rBool w p c6 x.fBad
theorem rGIndex_lawful : Lawful rGIndex 7 :=
  ⟨fun ⟨c0, c1, c2, c3, c4, c5, c6, h, h0, h1, h2, h3, h4, h5, h6⟩ => by rw [h]; simp only [List.flatten_cons, List.flatten_nil, List.append_nil, List.length_append, (rInt_lawful _).len h0, (rInt_lawful _).len h1, rStr_lawful.len h2, (rList_lawful (rInt_lawful _)).len h3, rBool_lawful.len h4, (rInt_lawful _).len h5, rBool_lawful.len h6],
   fun ⟨c0, c1, c2, c3, c4, c5, c6, h, h0, h1, h2, h3, h4, h5, h6⟩ k hs => ⟨c0, c1, c2, c3, c4, c5, c6, h, (rInt_lawful _).keep h0 k hs, (rInt_lawful _).keep h1 k hs, rStr_lawful.keep h2 k hs, (rList_lawful (rInt_lawful _)).keep h3 k hs, rBool_lawful.keep h4 k hs, (rInt_lawful _).keep h5 k hs, rBool_lawful.keep h6 k hs⟩,
   fun ⟨c0, c1, c2, c3, c4, c5, c6, h, h0, h1, h2, h3, h4, h5, h6⟩ hq => ⟨c0, c1, c2, c3, c4, c5, c6, h, (rInt_lawful _).mono h0 hq, (rInt_lawful _).mono h1 hq, rStr_lawful.mono h2 hq, (rList_lawful (rInt_lawful _)).mono h3 hq, rBool_lawful.mono h4 hq, (rInt_lawful _).mono h5 hq, rBool_lawful.mono h6 hq⟩⟩
def GIndex.size (x : GIndex) : Nat := (fun _ => 1) x.fID + (fun _ => 1) x.fTable + (fun x : List UInt8 => x.length + 1) x.fName + (sumOf (fun _ => 1)) x.fColumns + (fun _ => 1) x.fUnique + (fun _ => 1) x.fState + (fun _ => 1) x.fBad + 1
theorem redGIndex {W : World} {m : Nat} {cs : List Value} (h : Red Try.prog W m 37 cs) : ∃ x, rGIndex W (· < W.heap.size) cs x ∧ x.size ≤ m := by
  obtain ⟨hl, ms, h1, h2, h3⟩ := h.fields Try.underlying37 cells37
  match ms, h1 with
  | [m0, m1, m2, m3, m4, m5, m6], _ =>
    have r0 : Red Try.prog W m0 3 ((cs.drop 0).take 1) := (congrArg (fun k => Red Try.prog W m0 3 ((cs.drop 0).take k)) cells3).mp (h3 0 _ m0 rfl rfl)
    obtain ⟨x0, g0, s0⟩ := Red.toInt Try.underlying3 r0
    have r1 : Red Try.prog W m1 3 ((cs.drop 1).take 1) := (congrArg (fun k => Red Try.prog W m1 3 ((cs.drop 1).take k)) cells3).mp (h3 1 _ m1 rfl rfl)
    obtain ⟨x1, g1, s1⟩ := Red.toInt Try.underlying3 r1
    have r2 : Red Try.prog W m2 9 ((cs.drop 2).take 1) := (congrArg (fun k => Red Try.prog W m2 9 ((cs.drop 2).take k)) cells9).mp (h3 2 _ m2 rfl rfl)
    obtain ⟨x2, g2, s2⟩ := Red.toStr Try.underlying9 r2
    have r3 : Red Try.prog W m3 31 ((cs.drop 3).take 1) := (congrArg (fun k => Red Try.prog W m3 31 ((cs.drop 3).take k)) cells31).mp (h3 3 _ m3 rfl rfl)
    obtain ⟨x3, g3, s3⟩ := Red.toList ((fun _ => 1)) Try.underlying31 cells3 bytes3 (by decide) (by decide) (fun h => Red.toInt Try.underlying3 h) r3
    have r4 : Red Try.prog W m4 4 ((cs.drop 4).take 1) := (congrArg (fun k => Red Try.prog W m4 4 ((cs.drop 4).take k)) cells4).mp (h3 4 _ m4 rfl rfl)
    obtain ⟨x4, g4, s4⟩ := Red.toBool Try.underlying4 r4
    have r5 : Red Try.prog W m5 3 ((cs.drop 5).take 1) := (congrArg (fun k => Red Try.prog W m5 3 ((cs.drop 5).take k)) cells3).mp (h3 5 _ m5 rfl rfl)
    obtain ⟨x5, g5, s5⟩ := Red.toInt Try.underlying3 r5
    have r6 : Red Try.prog W m6 4 ((cs.drop 6).take 1) := (congrArg (fun k => Red Try.prog W m6 4 ((cs.drop 6).take k)) cells4).mp (h3 6 _ m6 rfl rfl)
    obtain ⟨x6, g6, s6⟩ := Red.toBool Try.underlying4 r6
    have hp := parts_flat cs [1, 1, 1, 1, 1, 1, 1] 0 (by simpa using hl)
    simp only [parts, List.drop_zero, Nat.zero_add, Nat.reduceAdd] at hp
    refine ⟨⟨x0, x1, x2, x3, x4, x5, x6⟩, ⟨_, _, _, _, _, _, _, hp.symm, g0, g1, g2, g3, g4, g5, g6⟩, ?_⟩
    simp only [List.sum_cons, List.sum_nil] at h2
    simp only [GIndex.size] at *
    omega

/-- armoire/api.Catalog -/
structure GCatalog where
  fVersion : Int
  fNext : Int
  fTables : (List GTable)
  fIndexes : (List GIndex)
  deriving DecidableEq
def rGCatalog : RD GCatalog := fun w p cs x => ∃ c0 c1 c2 c3 : List Value, cs = List.flatten [c0, c1, c2, c3] ∧ (rInt .i64) w p c0 x.fVersion ∧ (rInt .i64) w p c1 x.fNext ∧ (rList rGTable) w p c2 x.fTables ∧ (rList rGIndex) w p c3 x.fIndexes
theorem rGCatalog_lawful : Lawful rGCatalog 4 :=
  ⟨fun ⟨c0, c1, c2, c3, h, h0, h1, h2, h3⟩ => by rw [h]; simp only [List.flatten_cons, List.flatten_nil, List.append_nil, List.length_append, (rInt_lawful _).len h0, (rInt_lawful _).len h1, (rList_lawful rGTable_lawful).len h2, (rList_lawful rGIndex_lawful).len h3],
   fun ⟨c0, c1, c2, c3, h, h0, h1, h2, h3⟩ k hs => ⟨c0, c1, c2, c3, h, (rInt_lawful _).keep h0 k hs, (rInt_lawful _).keep h1 k hs, (rList_lawful rGTable_lawful).keep h2 k hs, (rList_lawful rGIndex_lawful).keep h3 k hs⟩,
   fun ⟨c0, c1, c2, c3, h, h0, h1, h2, h3⟩ hq => ⟨c0, c1, c2, c3, h, (rInt_lawful _).mono h0 hq, (rInt_lawful _).mono h1 hq, (rList_lawful rGTable_lawful).mono h2 hq, (rList_lawful rGIndex_lawful).mono h3 hq⟩⟩
def GCatalog.size (x : GCatalog) : Nat := (fun _ => 1) x.fVersion + (fun _ => 1) x.fNext + (sumOf GTable.size) x.fTables + (sumOf GIndex.size) x.fIndexes + 1
theorem redGCatalog {W : World} {m : Nat} {cs : List Value} (h : Red Try.prog W m 25 cs) : ∃ x, rGCatalog W (· < W.heap.size) cs x ∧ x.size ≤ m := by
  obtain ⟨hl, ms, h1, h2, h3⟩ := h.fields Try.underlying25 cells25
  match ms, h1 with
  | [m0, m1, m2, m3], _ =>
    have r0 : Red Try.prog W m0 3 ((cs.drop 0).take 1) := (congrArg (fun k => Red Try.prog W m0 3 ((cs.drop 0).take k)) cells3).mp (h3 0 _ m0 rfl rfl)
    obtain ⟨x0, g0, s0⟩ := Red.toInt Try.underlying3 r0
    have r1 : Red Try.prog W m1 3 ((cs.drop 1).take 1) := (congrArg (fun k => Red Try.prog W m1 3 ((cs.drop 1).take k)) cells3).mp (h3 1 _ m1 rfl rfl)
    obtain ⟨x1, g1, s1⟩ := Red.toInt Try.underlying3 r1
    have r2 : Red Try.prog W m2 22 ((cs.drop 2).take 1) := (congrArg (fun k => Red Try.prog W m2 22 ((cs.drop 2).take k)) cells22).mp (h3 2 _ m2 rfl rfl)
    obtain ⟨x2, g2, s2⟩ := Red.toList (GTable.size) Try.underlying22 cells33 bytes33 (by decide) (by decide) (fun h => redGTable h) r2
    have r3 : Red Try.prog W m3 23 ((cs.drop 3).take 1) := (congrArg (fun k => Red Try.prog W m3 23 ((cs.drop 3).take k)) cells23).mp (h3 3 _ m3 rfl rfl)
    obtain ⟨x3, g3, s3⟩ := Red.toList (GIndex.size) Try.underlying23 cells37 bytes37 (by decide) (by decide) (fun h => redGIndex h) r3
    have hp := parts_flat cs [1, 1, 1, 1] 0 (by simpa using hl)
    simp only [parts, List.drop_zero, Nat.zero_add, Nat.reduceAdd] at hp
    refine ⟨⟨x0, x1, x2, x3⟩, ⟨_, _, _, _, hp.symm, g0, g1, g2, g3⟩, ?_⟩
    simp only [List.sum_cons, List.sum_nil] at h2
    simp only [GCatalog.size] at *
    omega

/-- armoire/armoirelaw12.Op -/
structure GOp where
  fKind : Int
  fT : GTable
  fX : GIndex
  fName : (List UInt8)
  fID : Int
  fFrom : Int
  fTo : Int
  fBad : Bool
  deriving DecidableEq
def rGOp : RD GOp := fun w p cs x => ∃ c0 c1 c2 c3 c4 c5 c6 c7 : List Value, cs = List.flatten [c0, c1, c2, c3, c4, c5, c6, c7] ∧ (rInt .i64) w p c0 x.fKind ∧ rGTable w p c1 x.fT ∧ rGIndex w p c2 x.fX ∧ rStr w p c3 x.fName ∧ (rInt .i64) w p c4 x.fID ∧ (rInt .i64) w p c5 x.fFrom ∧ (rInt .i64) w p c6 x.fTo ∧ rBool w p c7 x.fBad
theorem rGOp_lawful : Lawful rGOp 17 :=
  ⟨fun ⟨c0, c1, c2, c3, c4, c5, c6, c7, h, h0, h1, h2, h3, h4, h5, h6, h7⟩ => by rw [h]; simp only [List.flatten_cons, List.flatten_nil, List.append_nil, List.length_append, (rInt_lawful _).len h0, rGTable_lawful.len h1, rGIndex_lawful.len h2, rStr_lawful.len h3, (rInt_lawful _).len h4, (rInt_lawful _).len h5, (rInt_lawful _).len h6, rBool_lawful.len h7],
   fun ⟨c0, c1, c2, c3, c4, c5, c6, c7, h, h0, h1, h2, h3, h4, h5, h6, h7⟩ k hs => ⟨c0, c1, c2, c3, c4, c5, c6, c7, h, (rInt_lawful _).keep h0 k hs, rGTable_lawful.keep h1 k hs, rGIndex_lawful.keep h2 k hs, rStr_lawful.keep h3 k hs, (rInt_lawful _).keep h4 k hs, (rInt_lawful _).keep h5 k hs, (rInt_lawful _).keep h6 k hs, rBool_lawful.keep h7 k hs⟩,
   fun ⟨c0, c1, c2, c3, c4, c5, c6, c7, h, h0, h1, h2, h3, h4, h5, h6, h7⟩ hq => ⟨c0, c1, c2, c3, c4, c5, c6, c7, h, (rInt_lawful _).mono h0 hq, rGTable_lawful.mono h1 hq, rGIndex_lawful.mono h2 hq, rStr_lawful.mono h3 hq, (rInt_lawful _).mono h4 hq, (rInt_lawful _).mono h5 hq, (rInt_lawful _).mono h6 hq, rBool_lawful.mono h7 hq⟩⟩
def GOp.size (x : GOp) : Nat := (fun _ => 1) x.fKind + GTable.size x.fT + GIndex.size x.fX + (fun x : List UInt8 => x.length + 1) x.fName + (fun _ => 1) x.fID + (fun _ => 1) x.fFrom + (fun _ => 1) x.fTo + (fun _ => 1) x.fBad + 1
theorem redGOp {W : World} {m : Nat} {cs : List Value} (h : Red Try.prog W m 57 cs) : ∃ x, rGOp W (· < W.heap.size) cs x ∧ x.size ≤ m := by
  obtain ⟨hl, ms, h1, h2, h3⟩ := h.fields Try.underlying57 cells57
  match ms, h1 with
  | [m0, m1, m2, m3, m4, m5, m6, m7], _ =>
    have r0 : Red Try.prog W m0 3 ((cs.drop 0).take 1) := (congrArg (fun k => Red Try.prog W m0 3 ((cs.drop 0).take k)) cells3).mp (h3 0 _ m0 rfl rfl)
    obtain ⟨x0, g0, s0⟩ := Red.toInt Try.underlying3 r0
    have r1 : Red Try.prog W m1 33 ((cs.drop 1).take 4) := (congrArg (fun k => Red Try.prog W m1 33 ((cs.drop 1).take k)) cells33).mp (h3 1 _ m1 rfl rfl)
    obtain ⟨x1, g1, s1⟩ := redGTable r1
    have r2 : Red Try.prog W m2 37 ((cs.drop 5).take 7) := (congrArg (fun k => Red Try.prog W m2 37 ((cs.drop 5).take k)) cells37).mp (h3 2 _ m2 rfl rfl)
    obtain ⟨x2, g2, s2⟩ := redGIndex r2
    have r3 : Red Try.prog W m3 9 ((cs.drop 12).take 1) := (congrArg (fun k => Red Try.prog W m3 9 ((cs.drop 12).take k)) cells9).mp (h3 3 _ m3 rfl rfl)
    obtain ⟨x3, g3, s3⟩ := Red.toStr Try.underlying9 r3
    have r4 : Red Try.prog W m4 3 ((cs.drop 13).take 1) := (congrArg (fun k => Red Try.prog W m4 3 ((cs.drop 13).take k)) cells3).mp (h3 4 _ m4 rfl rfl)
    obtain ⟨x4, g4, s4⟩ := Red.toInt Try.underlying3 r4
    have r5 : Red Try.prog W m5 3 ((cs.drop 14).take 1) := (congrArg (fun k => Red Try.prog W m5 3 ((cs.drop 14).take k)) cells3).mp (h3 5 _ m5 rfl rfl)
    obtain ⟨x5, g5, s5⟩ := Red.toInt Try.underlying3 r5
    have r6 : Red Try.prog W m6 3 ((cs.drop 15).take 1) := (congrArg (fun k => Red Try.prog W m6 3 ((cs.drop 15).take k)) cells3).mp (h3 6 _ m6 rfl rfl)
    obtain ⟨x6, g6, s6⟩ := Red.toInt Try.underlying3 r6
    have r7 : Red Try.prog W m7 4 ((cs.drop 16).take 1) := (congrArg (fun k => Red Try.prog W m7 4 ((cs.drop 16).take k)) cells4).mp (h3 7 _ m7 rfl rfl)
    obtain ⟨x7, g7, s7⟩ := Red.toBool Try.underlying4 r7
    have hp := parts_flat cs [1, 4, 7, 1, 1, 1, 1, 1] 0 (by simpa using hl)
    simp only [parts, List.drop_zero, Nat.zero_add, Nat.reduceAdd] at hp
    refine ⟨⟨x0, x1, x2, x3, x4, x5, x6, x7⟩, ⟨_, _, _, _, _, _, _, _, hp.symm, g0, g1, g2, g3, g4, g5, g6, g7⟩, ?_⟩
    simp only [List.sum_cons, List.sum_nil] at h2
    simp only [GOp.size] at *
    omega
end Go.Proofs.Ytfogbbnfedcldaa
