/- THE STRUCTS of package api: what cells read as them. Written by gen.py. -/
import Derived.Test.YtibaehlfpgipfaaGreatQZData
namespace Go.Proofs.YtibaehlfpgipfaaGreat
open Go.RowKit
theorem cells3 : Tryz.prog.cellsOf 3 = 1 := by kernel_rfl
theorem cells4 : Tryz.prog.cellsOf 4 = 1 := by kernel_rfl
theorem cells5 : Tryz.prog.cellsOf 5 = 1 := by kernel_rfl
theorem cells9 : Tryz.prog.cellsOf 9 = 1 := by kernel_rfl
theorem cells28 : Tryz.prog.cellsOf 28 = 1 := by kernel_rfl
theorem cells30 : Tryz.prog.cellsOf 30 = 1 := by kernel_rfl
theorem cells32 : Tryz.prog.cellsOf 32 = 2 := by kernel_rfl
theorem cells33 : Tryz.prog.cellsOf 33 = 1 := by kernel_rfl
theorem cells34 : Tryz.prog.cellsOf 34 = 1 := by kernel_rfl
theorem cells35 : Tryz.prog.cellsOf 35 = 1 := by kernel_rfl
theorem cells36 : Tryz.prog.cellsOf 36 = 1 := by kernel_rfl
theorem cells37 : Tryz.prog.cellsOf 37 = 1 := by kernel_rfl
theorem cells39 : Tryz.prog.cellsOf 39 = 4 := by kernel_rfl
theorem cells41 : Tryz.prog.cellsOf 41 = 7 := by kernel_rfl
theorem cells43 : Tryz.prog.cellsOf 43 = 25 := by kernel_rfl
theorem cells45 : Tryz.prog.cellsOf 45 = 27 := by kernel_rfl
theorem cells114 : Tryz.prog.cellsOf 114 = 3 := by kernel_rfl
theorem cells148 : Tryz.prog.cellsOf 148 = 3 := by kernel_rfl
theorem cells212 : Tryz.prog.cellsOf 212 = 3 := by kernel_rfl
theorem cells216 : Tryz.prog.cellsOf 216 = 3 := by kernel_rfl
theorem bytes3 : Tryz.prog.bytesOf 3 = 8 := by kernel_rfl
theorem bytes5 : Tryz.prog.bytesOf 5 = 1 := by kernel_rfl
theorem bytes114 : Tryz.prog.bytesOf 114 = 56 := by kernel_rfl
theorem bytes148 : Tryz.prog.bytesOf 148 = 32 := by kernel_rfl
theorem bytes212 : Tryz.prog.bytesOf 212 = 72 := by kernel_rfl
theorem bytes216 : Tryz.prog.bytesOf 216 = 56 := by kernel_rfl
structure GOwner where
  fGroup : Int
  fFrom : (List UInt8)
  deriving DecidableEq
def rGOwner : RD GOwner := fun w p cs x => ∃ c0 c1 : List Value, cs = List.flatten [c0, c1] ∧ (rInt .i64) w p c0 x.fGroup ∧ rBytes w p c1 x.fFrom
theorem rGOwner_lawful : Lawful rGOwner 2 :=
  ⟨fun ⟨c0, c1, h, h0, h1⟩ => by rw [h]; simp only [List.flatten_cons, List.flatten_nil, List.append_nil, List.length_append, (rInt_lawful _).len h0, rBytes_lawful.len h1],
   fun ⟨c0, c1, h, h0, h1⟩ k hs => ⟨c0, c1, h, (rInt_lawful _).keep h0 k hs, rBytes_lawful.keep h1 k hs⟩,
   fun ⟨c0, c1, h, h0, h1⟩ hq => ⟨c0, c1, h, (rInt_lawful _).mono h0 hq, rBytes_lawful.mono h1 hq⟩⟩
def GOwner.size (x : GOwner) : Nat := (fun _ => 1) x.fGroup + (fun x : List UInt8 => x.length + 1) x.fFrom + 1
structure GRoutes where
  fEpoch : Int
  fBase : Int
  fSpans : (List GOwner)
  fMoving : Int
  fCut : (List UInt8)
  deriving DecidableEq
def rGRoutes : RD GRoutes := fun w p cs x => ∃ c0 c1 c2 c3 c4 : List Value, cs = List.flatten [c0, c1, c2, c3, c4] ∧ (rInt .i64) w p c0 x.fEpoch ∧ (rInt .i64) w p c1 x.fBase ∧ (rList rGOwner) w p c2 x.fSpans ∧ (rInt .i64) w p c3 x.fMoving ∧ rBytes w p c4 x.fCut
theorem rGRoutes_lawful : Lawful rGRoutes 5 :=
  ⟨fun ⟨c0, c1, c2, c3, c4, h, h0, h1, h2, h3, h4⟩ => by rw [h]; simp only [List.flatten_cons, List.flatten_nil, List.append_nil, List.length_append, (rInt_lawful _).len h0, (rInt_lawful _).len h1, (rList_lawful rGOwner_lawful).len h2, (rInt_lawful _).len h3, rBytes_lawful.len h4],
   fun ⟨c0, c1, c2, c3, c4, h, h0, h1, h2, h3, h4⟩ k hs => ⟨c0, c1, c2, c3, c4, h, (rInt_lawful _).keep h0 k hs, (rInt_lawful _).keep h1 k hs, (rList_lawful rGOwner_lawful).keep h2 k hs, (rInt_lawful _).keep h3 k hs, rBytes_lawful.keep h4 k hs⟩,
   fun ⟨c0, c1, c2, c3, c4, h, h0, h1, h2, h3, h4⟩ hq => ⟨c0, c1, c2, c3, c4, h, (rInt_lawful _).mono h0 hq, (rInt_lawful _).mono h1 hq, (rList_lawful rGOwner_lawful).mono h2 hq, (rInt_lawful _).mono h3 hq, rBytes_lawful.mono h4 hq⟩⟩
def GRoutes.size (x : GRoutes) : Nat := (fun _ => 1) x.fEpoch + (fun _ => 1) x.fBase + (sumOf GOwner.size) x.fSpans + (fun _ => 1) x.fMoving + (fun x : List UInt8 => x.length + 1) x.fCut + 1
structure GColumn where
  fName : (List UInt8)
  fKind : Int
  fNull : Bool
  deriving DecidableEq
def rGColumn : RD GColumn := fun w p cs x => ∃ c0 c1 c2 : List Value, cs = List.flatten [c0, c1, c2] ∧ rStr w p c0 x.fName ∧ (rInt .i64) w p c1 x.fKind ∧ rBool w p c2 x.fNull
theorem rGColumn_lawful : Lawful rGColumn 3 :=
  ⟨fun ⟨c0, c1, c2, h, h0, h1, h2⟩ => by rw [h]; simp only [List.flatten_cons, List.flatten_nil, List.append_nil, List.length_append, rStr_lawful.len h0, (rInt_lawful _).len h1, rBool_lawful.len h2],
   fun ⟨c0, c1, c2, h, h0, h1, h2⟩ k hs => ⟨c0, c1, c2, h, rStr_lawful.keep h0 k hs, (rInt_lawful _).keep h1 k hs, rBool_lawful.keep h2 k hs⟩,
   fun ⟨c0, c1, c2, h, h0, h1, h2⟩ hq => ⟨c0, c1, c2, h, rStr_lawful.mono h0 hq, (rInt_lawful _).mono h1 hq, rBool_lawful.mono h2 hq⟩⟩
def GColumn.size (x : GColumn) : Nat := (fun x : List UInt8 => x.length + 1) x.fName + (fun _ => 1) x.fKind + (fun _ => 1) x.fNull + 1
theorem redGColumn {W : World} {m : Nat} {cs : List Value} (h : Red Tryz.prog W m 148 cs) : ∃ x, rGColumn W (· < W.heap.size) cs x ∧ x.size ≤ m := by
  obtain ⟨hl, ms, h1, h2, h3⟩ := h.fields Tryz.underlying148 cells148
  match ms, h1 with
  | [m0, m1, m2], _ =>
    have r0 : Red Tryz.prog W m0 9 ((cs.drop 0).take 1) := (congrArg (fun k => Red Tryz.prog W m0 9 ((cs.drop 0).take k)) cells9).mp (h3 0 _ m0 rfl rfl)
    obtain ⟨x0, g0, s0⟩ := Red.toStr Tryz.underlying9 r0
    have r1 : Red Tryz.prog W m1 3 ((cs.drop 1).take 1) := (congrArg (fun k => Red Tryz.prog W m1 3 ((cs.drop 1).take k)) cells3).mp (h3 1 _ m1 rfl rfl)
    obtain ⟨x1, g1, s1⟩ := Red.toInt Tryz.underlying3 r1
    have r2 : Red Tryz.prog W m2 4 ((cs.drop 2).take 1) := (congrArg (fun k => Red Tryz.prog W m2 4 ((cs.drop 2).take k)) cells4).mp (h3 2 _ m2 rfl rfl)
    obtain ⟨x2, g2, s2⟩ := Red.toBool Tryz.underlying4 r2
    have hp := parts_flat cs [1, 1, 1] 0 (by simpa using hl)
    simp only [parts, List.drop_zero, Nat.zero_add, Nat.reduceAdd] at hp
    refine ⟨⟨x0, x1, x2⟩, ⟨_, _, _, hp.symm, g0, g1, g2⟩, ?_⟩
    simp only [List.sum_cons, List.sum_nil] at h2
    simp only [GColumn.size] at *
    omega
structure GTable where
  fID : Int
  fName : (List UInt8)
  fColumns : (List GColumn)
  fKey : (List Int)
  deriving DecidableEq
def rGTable : RD GTable := fun w p cs x => ∃ c0 c1 c2 c3 : List Value, cs = List.flatten [c0, c1, c2, c3] ∧ (rInt .i64) w p c0 x.fID ∧ rStr w p c1 x.fName ∧ (rList rGColumn) w p c2 x.fColumns ∧ (rList (rInt .i64)) w p c3 x.fKey
theorem rGTable_lawful : Lawful rGTable 4 :=
  ⟨fun ⟨c0, c1, c2, c3, h, h0, h1, h2, h3⟩ => by rw [h]; simp only [List.flatten_cons, List.flatten_nil, List.append_nil, List.length_append, (rInt_lawful _).len h0, rStr_lawful.len h1, (rList_lawful rGColumn_lawful).len h2, (rList_lawful (rInt_lawful _)).len h3],
   fun ⟨c0, c1, c2, c3, h, h0, h1, h2, h3⟩ k hs => ⟨c0, c1, c2, c3, h, (rInt_lawful _).keep h0 k hs, rStr_lawful.keep h1 k hs, (rList_lawful rGColumn_lawful).keep h2 k hs, (rList_lawful (rInt_lawful _)).keep h3 k hs⟩,
   fun ⟨c0, c1, c2, c3, h, h0, h1, h2, h3⟩ hq => ⟨c0, c1, c2, c3, h, (rInt_lawful _).mono h0 hq, rStr_lawful.mono h1 hq, (rList_lawful rGColumn_lawful).mono h2 hq, (rList_lawful (rInt_lawful _)).mono h3 hq⟩⟩
def GTable.size (x : GTable) : Nat := (fun _ => 1) x.fID + (fun x : List UInt8 => x.length + 1) x.fName + (sumOf GColumn.size) x.fColumns + (sumOf (fun _ => 1)) x.fKey + 1
theorem redGTable {W : World} {m : Nat} {cs : List Value} (h : Red Tryz.prog W m 39 cs) : ∃ x, rGTable W (· < W.heap.size) cs x ∧ x.size ≤ m := by
  obtain ⟨hl, ms, h1, h2, h3⟩ := h.fields Tryz.underlying39 cells39
  match ms, h1 with
  | [m0, m1, m2, m3], _ =>
    have r0 : Red Tryz.prog W m0 3 ((cs.drop 0).take 1) := (congrArg (fun k => Red Tryz.prog W m0 3 ((cs.drop 0).take k)) cells3).mp (h3 0 _ m0 rfl rfl)
    obtain ⟨x0, g0, s0⟩ := Red.toInt Tryz.underlying3 r0
    have r1 : Red Tryz.prog W m1 9 ((cs.drop 1).take 1) := (congrArg (fun k => Red Tryz.prog W m1 9 ((cs.drop 1).take k)) cells9).mp (h3 1 _ m1 rfl rfl)
    obtain ⟨x1, g1, s1⟩ := Red.toStr Tryz.underlying9 r1
    have r2 : Red Tryz.prog W m2 36 ((cs.drop 2).take 1) := (congrArg (fun k => Red Tryz.prog W m2 36 ((cs.drop 2).take k)) cells36).mp (h3 2 _ m2 rfl rfl)
    obtain ⟨x2, g2, s2⟩ := Red.toList (GColumn.size) Tryz.underlying36 cells148 bytes148 (by decide) (by decide) (fun h => redGColumn h) r2
    have r3 : Red Tryz.prog W m3 37 ((cs.drop 3).take 1) := (congrArg (fun k => Red Tryz.prog W m3 37 ((cs.drop 3).take k)) cells37).mp (h3 3 _ m3 rfl rfl)
    obtain ⟨x3, g3, s3⟩ := Red.toList ((fun _ => 1)) Tryz.underlying37 cells3 bytes3 (by decide) (by decide) (fun h => Red.toInt Tryz.underlying3 h) r3
    have hp := parts_flat cs [1, 1, 1, 1] 0 (by simpa using hl)
    simp only [parts, List.drop_zero, Nat.zero_add, Nat.reduceAdd] at hp
    refine ⟨⟨x0, x1, x2, x3⟩, ⟨_, _, _, _, hp.symm, g0, g1, g2, g3⟩, ?_⟩
    simp only [List.sum_cons, List.sum_nil] at h2
    simp only [GTable.size] at *
    omega
structure GIndex where
  fID : Int
  fTable : Int
  fName : (List UInt8)
  fColumns : (List Int)
  fUnique : Bool
  fState : Int
  fBad : Bool
  deriving DecidableEq
def rGIndex : RD GIndex := fun w p cs x => ∃ c0 c1 c2 c3 c4 c5 c6 : List Value, cs = List.flatten [c0, c1, c2, c3, c4, c5, c6] ∧ (rInt .i64) w p c0 x.fID ∧ (rInt .i64) w p c1 x.fTable ∧ rStr w p c2 x.fName ∧ (rList (rInt .i64)) w p c3 x.fColumns ∧ rBool w p c4 x.fUnique ∧ (rInt .i64) w p c5 x.fState ∧ rBool w p c6 x.fBad
theorem rGIndex_lawful : Lawful rGIndex 7 :=
  ⟨fun ⟨c0, c1, c2, c3, c4, c5, c6, h, h0, h1, h2, h3, h4, h5, h6⟩ => by rw [h]; simp only [List.flatten_cons, List.flatten_nil, List.append_nil, List.length_append, (rInt_lawful _).len h0, (rInt_lawful _).len h1, rStr_lawful.len h2, (rList_lawful (rInt_lawful _)).len h3, rBool_lawful.len h4, (rInt_lawful _).len h5, rBool_lawful.len h6],
   fun ⟨c0, c1, c2, c3, c4, c5, c6, h, h0, h1, h2, h3, h4, h5, h6⟩ k hs => ⟨c0, c1, c2, c3, c4, c5, c6, h, (rInt_lawful _).keep h0 k hs, (rInt_lawful _).keep h1 k hs, rStr_lawful.keep h2 k hs, (rList_lawful (rInt_lawful _)).keep h3 k hs, rBool_lawful.keep h4 k hs, (rInt_lawful _).keep h5 k hs, rBool_lawful.keep h6 k hs⟩,
   fun ⟨c0, c1, c2, c3, c4, c5, c6, h, h0, h1, h2, h3, h4, h5, h6⟩ hq => ⟨c0, c1, c2, c3, c4, c5, c6, h, (rInt_lawful _).mono h0 hq, (rInt_lawful _).mono h1 hq, rStr_lawful.mono h2 hq, (rList_lawful (rInt_lawful _)).mono h3 hq, rBool_lawful.mono h4 hq, (rInt_lawful _).mono h5 hq, rBool_lawful.mono h6 hq⟩⟩
def GIndex.size (x : GIndex) : Nat := (fun _ => 1) x.fID + (fun _ => 1) x.fTable + (fun x : List UInt8 => x.length + 1) x.fName + (sumOf (fun _ => 1)) x.fColumns + (fun _ => 1) x.fUnique + (fun _ => 1) x.fState + (fun _ => 1) x.fBad + 1
theorem redGIndex {W : World} {m : Nat} {cs : List Value} (h : Red Tryz.prog W m 41 cs) : ∃ x, rGIndex W (· < W.heap.size) cs x ∧ x.size ≤ m := by
  obtain ⟨hl, ms, h1, h2, h3⟩ := h.fields Tryz.underlying41 cells41
  match ms, h1 with
  | [m0, m1, m2, m3, m4, m5, m6], _ =>
    have r0 : Red Tryz.prog W m0 3 ((cs.drop 0).take 1) := (congrArg (fun k => Red Tryz.prog W m0 3 ((cs.drop 0).take k)) cells3).mp (h3 0 _ m0 rfl rfl)
    obtain ⟨x0, g0, s0⟩ := Red.toInt Tryz.underlying3 r0
    have r1 : Red Tryz.prog W m1 3 ((cs.drop 1).take 1) := (congrArg (fun k => Red Tryz.prog W m1 3 ((cs.drop 1).take k)) cells3).mp (h3 1 _ m1 rfl rfl)
    obtain ⟨x1, g1, s1⟩ := Red.toInt Tryz.underlying3 r1
    have r2 : Red Tryz.prog W m2 9 ((cs.drop 2).take 1) := (congrArg (fun k => Red Tryz.prog W m2 9 ((cs.drop 2).take k)) cells9).mp (h3 2 _ m2 rfl rfl)
    obtain ⟨x2, g2, s2⟩ := Red.toStr Tryz.underlying9 r2
    have r3 : Red Tryz.prog W m3 37 ((cs.drop 3).take 1) := (congrArg (fun k => Red Tryz.prog W m3 37 ((cs.drop 3).take k)) cells37).mp (h3 3 _ m3 rfl rfl)
    obtain ⟨x3, g3, s3⟩ := Red.toList ((fun _ => 1)) Tryz.underlying37 cells3 bytes3 (by decide) (by decide) (fun h => Red.toInt Tryz.underlying3 h) r3
    have r4 : Red Tryz.prog W m4 4 ((cs.drop 4).take 1) := (congrArg (fun k => Red Tryz.prog W m4 4 ((cs.drop 4).take k)) cells4).mp (h3 4 _ m4 rfl rfl)
    obtain ⟨x4, g4, s4⟩ := Red.toBool Tryz.underlying4 r4
    have r5 : Red Tryz.prog W m5 3 ((cs.drop 5).take 1) := (congrArg (fun k => Red Tryz.prog W m5 3 ((cs.drop 5).take k)) cells3).mp (h3 5 _ m5 rfl rfl)
    obtain ⟨x5, g5, s5⟩ := Red.toInt Tryz.underlying3 r5
    have r6 : Red Tryz.prog W m6 4 ((cs.drop 6).take 1) := (congrArg (fun k => Red Tryz.prog W m6 4 ((cs.drop 6).take k)) cells4).mp (h3 6 _ m6 rfl rfl)
    obtain ⟨x6, g6, s6⟩ := Red.toBool Tryz.underlying4 r6
    have hp := parts_flat cs [1, 1, 1, 1, 1, 1, 1] 0 (by simpa using hl)
    simp only [parts, List.drop_zero, Nat.zero_add, Nat.reduceAdd] at hp
    refine ⟨⟨x0, x1, x2, x3, x4, x5, x6⟩, ⟨_, _, _, _, _, _, _, hp.symm, g0, g1, g2, g3, g4, g5, g6⟩, ?_⟩
    simp only [List.sum_cons, List.sum_nil] at h2
    simp only [GIndex.size] at *
    omega
structure GCatalog where
  fVersion : Int
  fNext : Int
  fTables : (List GTable)
  fIndexes : (List GIndex)
  deriving DecidableEq
def rGCatalog : RD GCatalog := fun w p cs x => ∃ c0 c1 c2 c3 : List Value, cs = List.flatten [c0, c1, c2, c3] ∧ (rInt .i64) w p c0 x.fVersion ∧ (rInt .i64) w p c1 x.fNext ∧ (rList rGTable) w p c2 x.fTables ∧ (rList rGIndex) w p c3 x.fIndexes
theorem rGCatalog_lawful : Lawful rGCatalog 4 :=
  ⟨fun ⟨c0, c1, c2, c3, h, h0, h1, h2, h3⟩ => by rw [h]; simp only [List.flatten_cons, List.flatten_nil, List.append_nil, List.length_append, (rInt_lawful _).len h0, (rInt_lawful _).len h1, (rList_lawful rGTable_lawful).len h2, (rList_lawful rGIndex_lawful).len h3],
   fun ⟨c0, c1, c2, c3, h, h0, h1, h2, h3⟩ k hs => ⟨c0, c1, c2, c3, h, (rInt_lawful _).keep h0 k hs, (rInt_lawful _).keep h1 k hs, (rList_lawful rGTable_lawful).keep h2 k hs, (rList_lawful rGIndex_lawful).keep h3 k hs⟩,
   fun ⟨c0, c1, c2, c3, h, h0, h1, h2, h3⟩ hq => ⟨c0, c1, c2, c3, h, (rInt_lawful _).mono h0 hq, (rInt_lawful _).mono h1 hq, (rList_lawful rGTable_lawful).mono h2 hq, (rList_lawful rGIndex_lawful).mono h3 hq⟩⟩
def GCatalog.size (x : GCatalog) : Nat := (fun _ => 1) x.fVersion + (fun _ => 1) x.fNext + (sumOf GTable.size) x.fTables + (sumOf GIndex.size) x.fIndexes + 1
structure GSpan where
  fFrom : (List UInt8)
  fTo : (List UInt8)
  deriving DecidableEq
def rGSpan : RD GSpan := fun w p cs x => ∃ c0 c1 : List Value, cs = List.flatten [c0, c1] ∧ rBytes w p c0 x.fFrom ∧ rBytes w p c1 x.fTo
theorem rGSpan_lawful : Lawful rGSpan 2 :=
  ⟨fun ⟨c0, c1, h, h0, h1⟩ => by rw [h]; simp only [List.flatten_cons, List.flatten_nil, List.append_nil, List.length_append, rBytes_lawful.len h0, rBytes_lawful.len h1],
   fun ⟨c0, c1, h, h0, h1⟩ k hs => ⟨c0, c1, h, rBytes_lawful.keep h0 k hs, rBytes_lawful.keep h1 k hs⟩,
   fun ⟨c0, c1, h, h0, h1⟩ hq => ⟨c0, c1, h, rBytes_lawful.mono h0 hq, rBytes_lawful.mono h1 hq⟩⟩
def GSpan.size (x : GSpan) : Nat := (fun x : List UInt8 => x.length + 1) x.fFrom + (fun x : List UInt8 => x.length + 1) x.fTo + 1
theorem redGSpan {W : World} {m : Nat} {cs : List Value} (h : Red Tryz.prog W m 32 cs) : ∃ x, rGSpan W (· < W.heap.size) cs x ∧ x.size ≤ m := by
  obtain ⟨hl, ms, h1, h2, h3⟩ := h.fields Tryz.underlying32 cells32
  match ms, h1 with
  | [m0, m1], _ =>
    have r0 : Red Tryz.prog W m0 30 ((cs.drop 0).take 1) := (congrArg (fun k => Red Tryz.prog W m0 30 ((cs.drop 0).take k)) cells30).mp (h3 0 _ m0 rfl rfl)
    obtain ⟨x0, g0, s0⟩ := Red.toBytes Tryz.underlying30 Tryz.underlying5 cells5 bytes5 r0
    have r1 : Red Tryz.prog W m1 30 ((cs.drop 1).take 1) := (congrArg (fun k => Red Tryz.prog W m1 30 ((cs.drop 1).take k)) cells30).mp (h3 1 _ m1 rfl rfl)
    obtain ⟨x1, g1, s1⟩ := Red.toBytes Tryz.underlying30 Tryz.underlying5 cells5 bytes5 r1
    have hp := parts_flat cs [1, 1] 0 (by simpa using hl)
    simp only [parts, List.drop_zero, Nat.zero_add] at hp
    refine ⟨⟨x0, x1⟩, ⟨_, _, hp.symm, g0, g1⟩, ?_⟩
    simp only [List.sum_cons, List.sum_nil] at h2
    simp only [GSpan.size] at *
    omega
structure GPair where
  fKey : (List UInt8)
  fValue : (List UInt8)
  fVersion : Int
  deriving DecidableEq
def rGPair : RD GPair := fun w p cs x => ∃ c0 c1 c2 : List Value, cs = List.flatten [c0, c1, c2] ∧ rBytes w p c0 x.fKey ∧ rBytes w p c1 x.fValue ∧ (rInt .i64) w p c2 x.fVersion
theorem rGPair_lawful : Lawful rGPair 3 :=
  ⟨fun ⟨c0, c1, c2, h, h0, h1, h2⟩ => by rw [h]; simp only [List.flatten_cons, List.flatten_nil, List.append_nil, List.length_append, rBytes_lawful.len h0, rBytes_lawful.len h1, (rInt_lawful _).len h2],
   fun ⟨c0, c1, c2, h, h0, h1, h2⟩ k hs => ⟨c0, c1, c2, h, rBytes_lawful.keep h0 k hs, rBytes_lawful.keep h1 k hs, (rInt_lawful _).keep h2 k hs⟩,
   fun ⟨c0, c1, c2, h, h0, h1, h2⟩ hq => ⟨c0, c1, c2, h, rBytes_lawful.mono h0 hq, rBytes_lawful.mono h1 hq, (rInt_lawful _).mono h2 hq⟩⟩
def GPair.size (x : GPair) : Nat := (fun x : List UInt8 => x.length + 1) x.fKey + (fun x : List UInt8 => x.length + 1) x.fValue + (fun _ => 1) x.fVersion + 1
theorem redGPair {W : World} {m : Nat} {cs : List Value} (h : Red Tryz.prog W m 114 cs) : ∃ x, rGPair W (· < W.heap.size) cs x ∧ x.size ≤ m := by
  obtain ⟨hl, ms, h1, h2, h3⟩ := h.fields Tryz.underlying114 cells114
  match ms, h1 with
  | [m0, m1, m2], _ =>
    have r0 : Red Tryz.prog W m0 30 ((cs.drop 0).take 1) := (congrArg (fun k => Red Tryz.prog W m0 30 ((cs.drop 0).take k)) cells30).mp (h3 0 _ m0 rfl rfl)
    obtain ⟨x0, g0, s0⟩ := Red.toBytes Tryz.underlying30 Tryz.underlying5 cells5 bytes5 r0
    have r1 : Red Tryz.prog W m1 30 ((cs.drop 1).take 1) := (congrArg (fun k => Red Tryz.prog W m1 30 ((cs.drop 1).take k)) cells30).mp (h3 1 _ m1 rfl rfl)
    obtain ⟨x1, g1, s1⟩ := Red.toBytes Tryz.underlying30 Tryz.underlying5 cells5 bytes5 r1
    have r2 : Red Tryz.prog W m2 3 ((cs.drop 2).take 1) := (congrArg (fun k => Red Tryz.prog W m2 3 ((cs.drop 2).take k)) cells3).mp (h3 2 _ m2 rfl rfl)
    obtain ⟨x2, g2, s2⟩ := Red.toInt Tryz.underlying3 r2
    have hp := parts_flat cs [1, 1, 1] 0 (by simpa using hl)
    simp only [parts, List.drop_zero, Nat.zero_add, Nat.reduceAdd] at hp
    refine ⟨⟨x0, x1, x2⟩, ⟨_, _, _, hp.symm, g0, g1, g2⟩, ?_⟩
    simp only [List.sum_cons, List.sum_nil] at h2
    simp only [GPair.size] at *
    omega
structure GSeen where
  fSpan : GSpan
  fPairs : (List GPair)
  deriving DecidableEq
def rGSeen : RD GSeen := fun w p cs x => ∃ c0 c1 : List Value, cs = List.flatten [c0, c1] ∧ rGSpan w p c0 x.fSpan ∧ (rList rGPair) w p c1 x.fPairs
theorem rGSeen_lawful : Lawful rGSeen 3 :=
  ⟨fun ⟨c0, c1, h, h0, h1⟩ => by rw [h]; simp only [List.flatten_cons, List.flatten_nil, List.append_nil, List.length_append, rGSpan_lawful.len h0, (rList_lawful rGPair_lawful).len h1],
   fun ⟨c0, c1, h, h0, h1⟩ k hs => ⟨c0, c1, h, rGSpan_lawful.keep h0 k hs, (rList_lawful rGPair_lawful).keep h1 k hs⟩,
   fun ⟨c0, c1, h, h0, h1⟩ hq => ⟨c0, c1, h, rGSpan_lawful.mono h0 hq, (rList_lawful rGPair_lawful).mono h1 hq⟩⟩
def GSeen.size (x : GSeen) : Nat := GSpan.size x.fSpan + (sumOf GPair.size) x.fPairs + 1
theorem redGSeen {W : World} {m : Nat} {cs : List Value} (h : Red Tryz.prog W m 212 cs) : ∃ x, rGSeen W (· < W.heap.size) cs x ∧ x.size ≤ m := by
  obtain ⟨hl, ms, h1, h2, h3⟩ := h.fields Tryz.underlying212 cells212
  match ms, h1 with
  | [m0, m1], _ =>
    have r0 : Red Tryz.prog W m0 32 ((cs.drop 0).take 2) := (congrArg (fun k => Red Tryz.prog W m0 32 ((cs.drop 0).take k)) cells32).mp (h3 0 _ m0 rfl rfl)
    obtain ⟨x0, g0, s0⟩ := redGSpan r0
    have r1 : Red Tryz.prog W m1 33 ((cs.drop 2).take 1) := (congrArg (fun k => Red Tryz.prog W m1 33 ((cs.drop 2).take k)) cells33).mp (h3 1 _ m1 rfl rfl)
    obtain ⟨x1, g1, s1⟩ := Red.toList (GPair.size) Tryz.underlying33 cells114 bytes114 (by decide) (by decide) (fun h => redGPair h) r1
    have hp := parts_flat cs [2, 1] 0 (by simpa using hl)
    simp only [parts, List.drop_zero, Nat.zero_add] at hp
    refine ⟨⟨x0, x1⟩, ⟨_, _, hp.symm, g0, g1⟩, ?_⟩
    simp only [List.sum_cons, List.sum_nil] at h2
    simp only [GSeen.size] at *
    omega
structure GWrite where
  fKey : (List UInt8)
  fValue : (List UInt8)
  fDrop : Bool
  deriving DecidableEq
def rGWrite : RD GWrite := fun w p cs x => ∃ c0 c1 c2 : List Value, cs = List.flatten [c0, c1, c2] ∧ rBytes w p c0 x.fKey ∧ rBytes w p c1 x.fValue ∧ rBool w p c2 x.fDrop
theorem rGWrite_lawful : Lawful rGWrite 3 :=
  ⟨fun ⟨c0, c1, c2, h, h0, h1, h2⟩ => by rw [h]; simp only [List.flatten_cons, List.flatten_nil, List.append_nil, List.length_append, rBytes_lawful.len h0, rBytes_lawful.len h1, rBool_lawful.len h2],
   fun ⟨c0, c1, c2, h, h0, h1, h2⟩ k hs => ⟨c0, c1, c2, h, rBytes_lawful.keep h0 k hs, rBytes_lawful.keep h1 k hs, rBool_lawful.keep h2 k hs⟩,
   fun ⟨c0, c1, c2, h, h0, h1, h2⟩ hq => ⟨c0, c1, c2, h, rBytes_lawful.mono h0 hq, rBytes_lawful.mono h1 hq, rBool_lawful.mono h2 hq⟩⟩
def GWrite.size (x : GWrite) : Nat := (fun x : List UInt8 => x.length + 1) x.fKey + (fun x : List UInt8 => x.length + 1) x.fValue + (fun _ => 1) x.fDrop + 1
theorem redGWrite {W : World} {m : Nat} {cs : List Value} (h : Red Tryz.prog W m 216 cs) : ∃ x, rGWrite W (· < W.heap.size) cs x ∧ x.size ≤ m := by
  obtain ⟨hl, ms, h1, h2, h3⟩ := h.fields Tryz.underlying216 cells216
  match ms, h1 with
  | [m0, m1, m2], _ =>
    have r0 : Red Tryz.prog W m0 30 ((cs.drop 0).take 1) := (congrArg (fun k => Red Tryz.prog W m0 30 ((cs.drop 0).take k)) cells30).mp (h3 0 _ m0 rfl rfl)
    obtain ⟨x0, g0, s0⟩ := Red.toBytes Tryz.underlying30 Tryz.underlying5 cells5 bytes5 r0
    have r1 : Red Tryz.prog W m1 30 ((cs.drop 1).take 1) := (congrArg (fun k => Red Tryz.prog W m1 30 ((cs.drop 1).take k)) cells30).mp (h3 1 _ m1 rfl rfl)
    obtain ⟨x1, g1, s1⟩ := Red.toBytes Tryz.underlying30 Tryz.underlying5 cells5 bytes5 r1
    have r2 : Red Tryz.prog W m2 4 ((cs.drop 2).take 1) := (congrArg (fun k => Red Tryz.prog W m2 4 ((cs.drop 2).take k)) cells4).mp (h3 2 _ m2 rfl rfl)
    obtain ⟨x2, g2, s2⟩ := Red.toBool Tryz.underlying4 r2
    have hp := parts_flat cs [1, 1, 1] 0 (by simpa using hl)
    simp only [parts, List.drop_zero, Nat.zero_add, Nat.reduceAdd] at hp
    refine ⟨⟨x0, x1, x2⟩, ⟨_, _, _, hp.symm, g0, g1, g2⟩, ?_⟩
    simp only [List.sum_cons, List.sum_nil] at h2
    simp only [GWrite.size] at *
    omega
structure GCommand where
  fKind : Int
  fEpoch : Int
  fTxn : Int
  fN : Int
  fFrom : Int
  fTo : Int
  fFlag : Bool
  fKey : (List UInt8)
  fSpan : GSpan
  fPairs : (List GPair)
  fSeens : (List GSeen)
  fWrites : (List GWrite)
  fTable : GTable
  fIndex : GIndex
  fName : (List UInt8)
  deriving DecidableEq
def rGCommand : RD GCommand := fun w p cs x => ∃ c0 c1 c2 c3 c4 c5 c6 c7 c8 c9 c10 c11 c12 c13 c14 : List Value, cs = List.flatten [c0, c1, c2, c3, c4, c5, c6, c7, c8, c9, c10, c11, c12, c13, c14] ∧ (rInt .i64) w p c0 x.fKind ∧ (rInt .i64) w p c1 x.fEpoch ∧ (rInt .u64) w p c2 x.fTxn ∧ (rInt .i64) w p c3 x.fN ∧ (rInt .i64) w p c4 x.fFrom ∧ (rInt .i64) w p c5 x.fTo ∧ rBool w p c6 x.fFlag ∧ rBytes w p c7 x.fKey ∧ rGSpan w p c8 x.fSpan ∧ (rList rGPair) w p c9 x.fPairs ∧ (rList rGSeen) w p c10 x.fSeens ∧ (rList rGWrite) w p c11 x.fWrites ∧ rGTable w p c12 x.fTable ∧ rGIndex w p c13 x.fIndex ∧ rStr w p c14 x.fName
theorem rGCommand_lawful : Lawful rGCommand 25 :=
  ⟨fun ⟨c0, c1, c2, c3, c4, c5, c6, c7, c8, c9, c10, c11, c12, c13, c14, h, h0, h1, h2, h3, h4, h5, h6, h7, h8, h9, h10, h11, h12, h13, h14⟩ => by rw [h]; simp only [List.flatten_cons, List.flatten_nil, List.append_nil, List.length_append, (rInt_lawful _).len h0, (rInt_lawful _).len h1, (rInt_lawful _).len h2, (rInt_lawful _).len h3, (rInt_lawful _).len h4, (rInt_lawful _).len h5, rBool_lawful.len h6, rBytes_lawful.len h7, rGSpan_lawful.len h8, (rList_lawful rGPair_lawful).len h9, (rList_lawful rGSeen_lawful).len h10, (rList_lawful rGWrite_lawful).len h11, rGTable_lawful.len h12, rGIndex_lawful.len h13, rStr_lawful.len h14],
   fun ⟨c0, c1, c2, c3, c4, c5, c6, c7, c8, c9, c10, c11, c12, c13, c14, h, h0, h1, h2, h3, h4, h5, h6, h7, h8, h9, h10, h11, h12, h13, h14⟩ k hs => ⟨c0, c1, c2, c3, c4, c5, c6, c7, c8, c9, c10, c11, c12, c13, c14, h, (rInt_lawful _).keep h0 k hs, (rInt_lawful _).keep h1 k hs, (rInt_lawful _).keep h2 k hs, (rInt_lawful _).keep h3 k hs, (rInt_lawful _).keep h4 k hs, (rInt_lawful _).keep h5 k hs, rBool_lawful.keep h6 k hs, rBytes_lawful.keep h7 k hs, rGSpan_lawful.keep h8 k hs, (rList_lawful rGPair_lawful).keep h9 k hs, (rList_lawful rGSeen_lawful).keep h10 k hs, (rList_lawful rGWrite_lawful).keep h11 k hs, rGTable_lawful.keep h12 k hs, rGIndex_lawful.keep h13 k hs, rStr_lawful.keep h14 k hs⟩,
   fun ⟨c0, c1, c2, c3, c4, c5, c6, c7, c8, c9, c10, c11, c12, c13, c14, h, h0, h1, h2, h3, h4, h5, h6, h7, h8, h9, h10, h11, h12, h13, h14⟩ hq => ⟨c0, c1, c2, c3, c4, c5, c6, c7, c8, c9, c10, c11, c12, c13, c14, h, (rInt_lawful _).mono h0 hq, (rInt_lawful _).mono h1 hq, (rInt_lawful _).mono h2 hq, (rInt_lawful _).mono h3 hq, (rInt_lawful _).mono h4 hq, (rInt_lawful _).mono h5 hq, rBool_lawful.mono h6 hq, rBytes_lawful.mono h7 hq, rGSpan_lawful.mono h8 hq, (rList_lawful rGPair_lawful).mono h9 hq, (rList_lawful rGSeen_lawful).mono h10 hq, (rList_lawful rGWrite_lawful).mono h11 hq, rGTable_lawful.mono h12 hq, rGIndex_lawful.mono h13 hq, rStr_lawful.mono h14 hq⟩⟩
def GCommand.size (x : GCommand) : Nat := (fun _ => 1) x.fKind + (fun _ => 1) x.fEpoch + (fun _ => 1) x.fTxn + (fun _ => 1) x.fN + (fun _ => 1) x.fFrom + (fun _ => 1) x.fTo + (fun _ => 1) x.fFlag + (fun x : List UInt8 => x.length + 1) x.fKey + GSpan.size x.fSpan + (sumOf GPair.size) x.fPairs + (sumOf GSeen.size) x.fSeens + (sumOf GWrite.size) x.fWrites + GTable.size x.fTable + GIndex.size x.fIndex + (fun x : List UInt8 => x.length + 1) x.fName + 1
theorem redGCommand {W : World} {m : Nat} {cs : List Value} (h : Red Tryz.prog W m 43 cs) : ∃ x, rGCommand W (· < W.heap.size) cs x ∧ x.size ≤ m := by
  obtain ⟨hl, ms, h1, h2, h3⟩ := h.fields Tryz.underlying43 cells43
  match ms, h1 with
  | [m0, m1, m2, m3, m4, m5, m6, m7, m8, m9, m10, m11, m12, m13, m14], _ =>
    have r0 : Red Tryz.prog W m0 3 ((cs.drop 0).take 1) := (congrArg (fun k => Red Tryz.prog W m0 3 ((cs.drop 0).take k)) cells3).mp (h3 0 _ m0 rfl rfl)
    obtain ⟨x0, g0, s0⟩ := Red.toInt Tryz.underlying3 r0
    have r1 : Red Tryz.prog W m1 3 ((cs.drop 1).take 1) := (congrArg (fun k => Red Tryz.prog W m1 3 ((cs.drop 1).take k)) cells3).mp (h3 1 _ m1 rfl rfl)
    obtain ⟨x1, g1, s1⟩ := Red.toInt Tryz.underlying3 r1
    have r2 : Red Tryz.prog W m2 28 ((cs.drop 2).take 1) := (congrArg (fun k => Red Tryz.prog W m2 28 ((cs.drop 2).take k)) cells28).mp (h3 2 _ m2 rfl rfl)
    obtain ⟨x2, g2, s2⟩ := Red.toInt Tryz.underlying28 r2
    have r3 : Red Tryz.prog W m3 3 ((cs.drop 3).take 1) := (congrArg (fun k => Red Tryz.prog W m3 3 ((cs.drop 3).take k)) cells3).mp (h3 3 _ m3 rfl rfl)
    obtain ⟨x3, g3, s3⟩ := Red.toInt Tryz.underlying3 r3
    have r4 : Red Tryz.prog W m4 3 ((cs.drop 4).take 1) := (congrArg (fun k => Red Tryz.prog W m4 3 ((cs.drop 4).take k)) cells3).mp (h3 4 _ m4 rfl rfl)
    obtain ⟨x4, g4, s4⟩ := Red.toInt Tryz.underlying3 r4
    have r5 : Red Tryz.prog W m5 3 ((cs.drop 5).take 1) := (congrArg (fun k => Red Tryz.prog W m5 3 ((cs.drop 5).take k)) cells3).mp (h3 5 _ m5 rfl rfl)
    obtain ⟨x5, g5, s5⟩ := Red.toInt Tryz.underlying3 r5
    have r6 : Red Tryz.prog W m6 4 ((cs.drop 6).take 1) := (congrArg (fun k => Red Tryz.prog W m6 4 ((cs.drop 6).take k)) cells4).mp (h3 6 _ m6 rfl rfl)
    obtain ⟨x6, g6, s6⟩ := Red.toBool Tryz.underlying4 r6
    have r7 : Red Tryz.prog W m7 30 ((cs.drop 7).take 1) := (congrArg (fun k => Red Tryz.prog W m7 30 ((cs.drop 7).take k)) cells30).mp (h3 7 _ m7 rfl rfl)
    obtain ⟨x7, g7, s7⟩ := Red.toBytes Tryz.underlying30 Tryz.underlying5 cells5 bytes5 r7
    have r8 : Red Tryz.prog W m8 32 ((cs.drop 8).take 2) := (congrArg (fun k => Red Tryz.prog W m8 32 ((cs.drop 8).take k)) cells32).mp (h3 8 _ m8 rfl rfl)
    obtain ⟨x8, g8, s8⟩ := redGSpan r8
    have r9 : Red Tryz.prog W m9 33 ((cs.drop 10).take 1) := (congrArg (fun k => Red Tryz.prog W m9 33 ((cs.drop 10).take k)) cells33).mp (h3 9 _ m9 rfl rfl)
    obtain ⟨x9, g9, s9⟩ := Red.toList (GPair.size) Tryz.underlying33 cells114 bytes114 (by decide) (by decide) (fun h => redGPair h) r9
    have r10 : Red Tryz.prog W m10 34 ((cs.drop 11).take 1) := (congrArg (fun k => Red Tryz.prog W m10 34 ((cs.drop 11).take k)) cells34).mp (h3 10 _ m10 rfl rfl)
    obtain ⟨x10, g10, s10⟩ := Red.toList (GSeen.size) Tryz.underlying34 cells212 bytes212 (by decide) (by decide) (fun h => redGSeen h) r10
    have r11 : Red Tryz.prog W m11 35 ((cs.drop 12).take 1) := (congrArg (fun k => Red Tryz.prog W m11 35 ((cs.drop 12).take k)) cells35).mp (h3 11 _ m11 rfl rfl)
    obtain ⟨x11, g11, s11⟩ := Red.toList (GWrite.size) Tryz.underlying35 cells216 bytes216 (by decide) (by decide) (fun h => redGWrite h) r11
    have r12 : Red Tryz.prog W m12 39 ((cs.drop 13).take 4) := (congrArg (fun k => Red Tryz.prog W m12 39 ((cs.drop 13).take k)) cells39).mp (h3 12 _ m12 rfl rfl)
    obtain ⟨x12, g12, s12⟩ := redGTable r12
    have r13 : Red Tryz.prog W m13 41 ((cs.drop 17).take 7) := (congrArg (fun k => Red Tryz.prog W m13 41 ((cs.drop 17).take k)) cells41).mp (h3 13 _ m13 rfl rfl)
    obtain ⟨x13, g13, s13⟩ := redGIndex r13
    have r14 : Red Tryz.prog W m14 9 ((cs.drop 24).take 1) := (congrArg (fun k => Red Tryz.prog W m14 9 ((cs.drop 24).take k)) cells9).mp (h3 14 _ m14 rfl rfl)
    obtain ⟨x14, g14, s14⟩ := Red.toStr Tryz.underlying9 r14
    have hp := parts_flat cs [1, 1, 1, 1, 1, 1, 1, 1, 2, 1, 1, 1, 4, 7, 1] 0 (by simpa using hl)
    simp only [parts, List.drop_zero, Nat.zero_add, Nat.reduceAdd] at hp
    refine ⟨⟨x0, x1, x2, x3, x4, x5, x6, x7, x8, x9, x10, x11, x12, x13, x14⟩, ⟨_, _, _, _, _, _, _, _, _, _, _, _, _, _, _, hp.symm, g0, g1, g2, g3, g4, g5, g6, g7, g8, g9, g10, g11, g12, g13, g14⟩, ?_⟩
    simp only [List.sum_cons, List.sum_nil] at h2
    simp only [GCommand.size] at *
    omega
structure GReply where
  fErr : Int
  fTxn : Int
  fN : Int
  fFlag : Bool
  fPairs : (List GPair)
  fTxns : (List Int)
  fCatalog : GCatalog
  fRoutes : GRoutes
  deriving DecidableEq
def rGReply : RD GReply := fun w p cs x => ∃ c0 c1 c2 c3 c4 c5 c6 c7 : List Value, cs = List.flatten [c0, c1, c2, c3, c4, c5, c6, c7] ∧ (rInt .i64) w p c0 x.fErr ∧ (rInt .u64) w p c1 x.fTxn ∧ (rInt .i64) w p c2 x.fN ∧ rBool w p c3 x.fFlag ∧ (rList rGPair) w p c4 x.fPairs ∧ (rList (rInt .u64)) w p c5 x.fTxns ∧ rGCatalog w p c6 x.fCatalog ∧ rGRoutes w p c7 x.fRoutes
theorem rGReply_lawful : Lawful rGReply 15 :=
  ⟨fun ⟨c0, c1, c2, c3, c4, c5, c6, c7, h, h0, h1, h2, h3, h4, h5, h6, h7⟩ => by rw [h]; simp only [List.flatten_cons, List.flatten_nil, List.append_nil, List.length_append, (rInt_lawful _).len h0, (rInt_lawful _).len h1, (rInt_lawful _).len h2, rBool_lawful.len h3, (rList_lawful rGPair_lawful).len h4, (rList_lawful (rInt_lawful _)).len h5, rGCatalog_lawful.len h6, rGRoutes_lawful.len h7],
   fun ⟨c0, c1, c2, c3, c4, c5, c6, c7, h, h0, h1, h2, h3, h4, h5, h6, h7⟩ k hs => ⟨c0, c1, c2, c3, c4, c5, c6, c7, h, (rInt_lawful _).keep h0 k hs, (rInt_lawful _).keep h1 k hs, (rInt_lawful _).keep h2 k hs, rBool_lawful.keep h3 k hs, (rList_lawful rGPair_lawful).keep h4 k hs, (rList_lawful (rInt_lawful _)).keep h5 k hs, rGCatalog_lawful.keep h6 k hs, rGRoutes_lawful.keep h7 k hs⟩,
   fun ⟨c0, c1, c2, c3, c4, c5, c6, c7, h, h0, h1, h2, h3, h4, h5, h6, h7⟩ hq => ⟨c0, c1, c2, c3, c4, c5, c6, c7, h, (rInt_lawful _).mono h0 hq, (rInt_lawful _).mono h1 hq, (rInt_lawful _).mono h2 hq, rBool_lawful.mono h3 hq, (rList_lawful rGPair_lawful).mono h4 hq, (rList_lawful (rInt_lawful _)).mono h5 hq, rGCatalog_lawful.mono h6 hq, rGRoutes_lawful.mono h7 hq⟩⟩
def GReply.size (x : GReply) : Nat := (fun _ => 1) x.fErr + (fun _ => 1) x.fTxn + (fun _ => 1) x.fN + (fun _ => 1) x.fFlag + (sumOf GPair.size) x.fPairs + (sumOf (fun _ => 1)) x.fTxns + GCatalog.size x.fCatalog + GRoutes.size x.fRoutes + 1
structure GOp where
  fC : GCommand
  fRaw : (List UInt8)
  fLoad : Bool
  deriving DecidableEq
def rGOp : RD GOp := fun w p cs x => ∃ c0 c1 c2 : List Value, cs = List.flatten [c0, c1, c2] ∧ rGCommand w p c0 x.fC ∧ rBytes w p c1 x.fRaw ∧ rBool w p c2 x.fLoad
theorem rGOp_lawful : Lawful rGOp 27 :=
  ⟨fun ⟨c0, c1, c2, h, h0, h1, h2⟩ => by rw [h]; simp only [List.flatten_cons, List.flatten_nil, List.append_nil, List.length_append, rGCommand_lawful.len h0, rBytes_lawful.len h1, rBool_lawful.len h2],
   fun ⟨c0, c1, c2, h, h0, h1, h2⟩ k hs => ⟨c0, c1, c2, h, rGCommand_lawful.keep h0 k hs, rBytes_lawful.keep h1 k hs, rBool_lawful.keep h2 k hs⟩,
   fun ⟨c0, c1, c2, h, h0, h1, h2⟩ hq => ⟨c0, c1, c2, h, rGCommand_lawful.mono h0 hq, rBytes_lawful.mono h1 hq, rBool_lawful.mono h2 hq⟩⟩
def GOp.size (x : GOp) : Nat := GCommand.size x.fC + (fun x : List UInt8 => x.length + 1) x.fRaw + (fun _ => 1) x.fLoad + 1
theorem redGOp {W : World} {m : Nat} {cs : List Value} (h : Red Tryz.prog W m 45 cs) : ∃ x, rGOp W (· < W.heap.size) cs x ∧ x.size ≤ m := by
  obtain ⟨hl, ms, h1, h2, h3⟩ := h.fields Tryz.underlying45 cells45
  match ms, h1 with
  | [m0, m1, m2], _ =>
    have r0 : Red Tryz.prog W m0 43 ((cs.drop 0).take 25) := (congrArg (fun k => Red Tryz.prog W m0 43 ((cs.drop 0).take k)) cells43).mp (h3 0 _ m0 rfl rfl)
    obtain ⟨x0, g0, s0⟩ := redGCommand r0
    have r1 : Red Tryz.prog W m1 30 ((cs.drop 25).take 1) := (congrArg (fun k => Red Tryz.prog W m1 30 ((cs.drop 25).take k)) cells30).mp (h3 1 _ m1 rfl rfl)
    obtain ⟨x1, g1, s1⟩ := Red.toBytes Tryz.underlying30 Tryz.underlying5 cells5 bytes5 r1
    have r2 : Red Tryz.prog W m2 4 ((cs.drop 26).take 1) := (congrArg (fun k => Red Tryz.prog W m2 4 ((cs.drop 26).take k)) cells4).mp (h3 2 _ m2 rfl rfl)
    obtain ⟨x2, g2, s2⟩ := Red.toBool Tryz.underlying4 r2
    have hp := parts_flat cs [25, 1, 1] 0 (by simpa using hl)
    simp only [parts, List.drop_zero, Nat.zero_add, Nat.reduceAdd] at hp
    refine ⟨⟨x0, x1, x2⟩, ⟨_, _, _, hp.symm, g0, g1, g2⟩, ?_⟩
    simp only [List.sum_cons, List.sum_nil] at h2
    simp only [GOp.size] at *
    omega
end Go.Proofs.YtibaehlfpgipfaaGreat
