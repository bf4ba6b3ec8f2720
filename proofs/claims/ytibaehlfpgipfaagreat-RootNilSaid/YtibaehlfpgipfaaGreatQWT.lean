/- READINGS of structs whose bytes may be written. Printed by gen12.py. -/
import Derived.Test.YtibaehlfpgipfaaGreatQEnc
namespace Go.Proofs.YtibaehlfpgipfaaGreat
open Go.RowKit

def wGColumn : RD GColumn := fun w p cs x => ∃ c0 c1 c2 : List Value, cs = List.flatten [c0, c1, c2] ∧ rStr w p c0 x.fName ∧ (rInt .i64) w p c1 x.fKind ∧ rBool w p c2 x.fNull
theorem wGColumn_lawful : Lawful wGColumn 3 :=
  ⟨fun ⟨c0, c1, c2, h, h0, h1, h2⟩ => by rw [h]; simp only [List.flatten_cons, List.flatten_nil, List.append_nil, List.length_append, rStr_lawful.len h0, (rInt_lawful _).len h1, rBool_lawful.len h2],
   fun ⟨c0, c1, c2, h, h0, h1, h2⟩ k hs => ⟨c0, c1, c2, h, rStr_lawful.keep h0 k hs, (rInt_lawful _).keep h1 k hs, rBool_lawful.keep h2 k hs⟩,
   fun ⟨c0, c1, c2, h, h0, h1, h2⟩ hq => ⟨c0, c1, c2, h, rStr_lawful.mono h0 hq, (rInt_lawful _).mono h1 hq, rBool_lawful.mono h2 hq⟩⟩
theorem wGColumn_to {w : World} {p : Nat → Prop} {cs : List Value} {x : GColumn} (h : wGColumn w p cs x) : rGColumn w p cs x := by
  obtain ⟨c0, c1, c2, h, h0, h1, h2⟩ := h
  exact ⟨c0, c1, c2, h, h0, h1, h2⟩
def wGTable : RD GTable := fun w p cs x => ∃ c0 c1 c2 c3 : List Value, cs = List.flatten [c0, c1, c2, c3] ∧ (rInt .i64) w p c0 x.fID ∧ rStr w p c1 x.fName ∧ (rList wGColumn) w p c2 x.fColumns ∧ (rList (rInt .i64)) w p c3 x.fKey
theorem wGTable_lawful : Lawful wGTable 4 :=
  ⟨fun ⟨c0, c1, c2, c3, h, h0, h1, h2, h3⟩ => by rw [h]; simp only [List.flatten_cons, List.flatten_nil, List.append_nil, List.length_append, (rInt_lawful _).len h0, rStr_lawful.len h1, (rList_lawful wGColumn_lawful).len h2, (rList_lawful (rInt_lawful _)).len h3],
   fun ⟨c0, c1, c2, c3, h, h0, h1, h2, h3⟩ k hs => ⟨c0, c1, c2, c3, h, (rInt_lawful _).keep h0 k hs, rStr_lawful.keep h1 k hs, (rList_lawful wGColumn_lawful).keep h2 k hs, (rList_lawful (rInt_lawful _)).keep h3 k hs⟩,
   fun ⟨c0, c1, c2, c3, h, h0, h1, h2, h3⟩ hq => ⟨c0, c1, c2, c3, h, (rInt_lawful _).mono h0 hq, rStr_lawful.mono h1 hq, (rList_lawful wGColumn_lawful).mono h2 hq, (rList_lawful (rInt_lawful _)).mono h3 hq⟩⟩
theorem wGTable_to {w : World} {p : Nat → Prop} {cs : List Value} {x : GTable} (h : wGTable w p cs x) : rGTable w p cs x := by
  obtain ⟨c0, c1, c2, c3, h, h0, h1, h2, h3⟩ := h
  exact ⟨c0, c1, c2, c3, h, h0, h1, (rList_to wGColumn_to) h2, (rList_to (fun h => h)) h3⟩
def wGIndex : RD GIndex := fun w p cs x => ∃ c0 c1 c2 c3 c4 c5 c6 : List Value, cs = List.flatten [c0, c1, c2, c3, c4, c5, c6] ∧ (rInt .i64) w p c0 x.fID ∧ (rInt .i64) w p c1 x.fTable ∧ rStr w p c2 x.fName ∧ (rList (rInt .i64)) w p c3 x.fColumns ∧ rBool w p c4 x.fUnique ∧ (rInt .i64) w p c5 x.fState ∧ rBool w p c6 x.fBad
theorem wGIndex_lawful : Lawful wGIndex 7 :=
  ⟨fun ⟨c0, c1, c2, c3, c4, c5, c6, h, h0, h1, h2, h3, h4, h5, h6⟩ => by rw [h]; simp only [List.flatten_cons, List.flatten_nil, List.append_nil, List.length_append, (rInt_lawful _).len h0, (rInt_lawful _).len h1, rStr_lawful.len h2, (rList_lawful (rInt_lawful _)).len h3, rBool_lawful.len h4, (rInt_lawful _).len h5, rBool_lawful.len h6],
   fun ⟨c0, c1, c2, c3, c4, c5, c6, h, h0, h1, h2, h3, h4, h5, h6⟩ k hs => ⟨c0, c1, c2, c3, c4, c5, c6, h, (rInt_lawful _).keep h0 k hs, (rInt_lawful _).keep h1 k hs, rStr_lawful.keep h2 k hs, (rList_lawful (rInt_lawful _)).keep h3 k hs, rBool_lawful.keep h4 k hs, (rInt_lawful _).keep h5 k hs, rBool_lawful.keep h6 k hs⟩,
   fun ⟨c0, c1, c2, c3, c4, c5, c6, h, h0, h1, h2, h3, h4, h5, h6⟩ hq => ⟨c0, c1, c2, c3, c4, c5, c6, h, (rInt_lawful _).mono h0 hq, (rInt_lawful _).mono h1 hq, rStr_lawful.mono h2 hq, (rList_lawful (rInt_lawful _)).mono h3 hq, rBool_lawful.mono h4 hq, (rInt_lawful _).mono h5 hq, rBool_lawful.mono h6 hq⟩⟩
theorem wGIndex_to {w : World} {p : Nat → Prop} {cs : List Value} {x : GIndex} (h : wGIndex w p cs x) : rGIndex w p cs x := by
  obtain ⟨c0, c1, c2, c3, c4, c5, c6, h, h0, h1, h2, h3, h4, h5, h6⟩ := h
  exact ⟨c0, c1, c2, c3, c4, c5, c6, h, h0, h1, h2, (rList_to (fun h => h)) h3, h4, h5, h6⟩
def wGCatalog : RD GCatalog := fun w p cs x => ∃ c0 c1 c2 c3 : List Value, cs = List.flatten [c0, c1, c2, c3] ∧ (rInt .i64) w p c0 x.fVersion ∧ (rInt .i64) w p c1 x.fNext ∧ (rList wGTable) w p c2 x.fTables ∧ (rList wGIndex) w p c3 x.fIndexes
theorem wGCatalog_lawful : Lawful wGCatalog 4 :=
  ⟨fun ⟨c0, c1, c2, c3, h, h0, h1, h2, h3⟩ => by rw [h]; simp only [List.flatten_cons, List.flatten_nil, List.append_nil, List.length_append, (rInt_lawful _).len h0, (rInt_lawful _).len h1, (rList_lawful wGTable_lawful).len h2, (rList_lawful wGIndex_lawful).len h3],
   fun ⟨c0, c1, c2, c3, h, h0, h1, h2, h3⟩ k hs => ⟨c0, c1, c2, c3, h, (rInt_lawful _).keep h0 k hs, (rInt_lawful _).keep h1 k hs, (rList_lawful wGTable_lawful).keep h2 k hs, (rList_lawful wGIndex_lawful).keep h3 k hs⟩,
   fun ⟨c0, c1, c2, c3, h, h0, h1, h2, h3⟩ hq => ⟨c0, c1, c2, c3, h, (rInt_lawful _).mono h0 hq, (rInt_lawful _).mono h1 hq, (rList_lawful wGTable_lawful).mono h2 hq, (rList_lawful wGIndex_lawful).mono h3 hq⟩⟩
theorem wGCatalog_to {w : World} {p : Nat → Prop} {cs : List Value} {x : GCatalog} (h : wGCatalog w p cs x) : rGCatalog w p cs x := by
  obtain ⟨c0, c1, c2, c3, h, h0, h1, h2, h3⟩ := h
  exact ⟨c0, c1, c2, c3, h, h0, h1, (rList_to wGTable_to) h2, (rList_to wGIndex_to) h3⟩
def wGPair : RD GPair := fun w p cs x => ∃ c0 c1 c2 : List Value, cs = List.flatten [c0, c1, c2] ∧ rBytesW w p c0 x.fKey ∧ rBytesW w p c1 x.fValue ∧ (rInt .i64) w p c2 x.fVersion
theorem wGPair_lawful : Lawful wGPair 3 :=
  ⟨fun ⟨c0, c1, c2, h, h0, h1, h2⟩ => by rw [h]; simp only [List.flatten_cons, List.flatten_nil, List.append_nil, List.length_append, rBytesW_lawful.len h0, rBytesW_lawful.len h1, (rInt_lawful _).len h2],
   fun ⟨c0, c1, c2, h, h0, h1, h2⟩ k hs => ⟨c0, c1, c2, h, rBytesW_lawful.keep h0 k hs, rBytesW_lawful.keep h1 k hs, (rInt_lawful _).keep h2 k hs⟩,
   fun ⟨c0, c1, c2, h, h0, h1, h2⟩ hq => ⟨c0, c1, c2, h, rBytesW_lawful.mono h0 hq, rBytesW_lawful.mono h1 hq, (rInt_lawful _).mono h2 hq⟩⟩
theorem wGPair_to {w : World} {p : Nat → Prop} {cs : List Value} {x : GPair} (h : wGPair w p cs x) : rGPair w p cs x := by
  obtain ⟨c0, c1, c2, h, h0, h1, h2⟩ := h
  exact ⟨c0, c1, c2, h, rBytesW_to h0, rBytesW_to h1, h2⟩
def wGWrite : RD GWrite := fun w p cs x => ∃ c0 c1 c2 : List Value, cs = List.flatten [c0, c1, c2] ∧ rBytesW w p c0 x.fKey ∧ rBytesW w p c1 x.fValue ∧ rBool w p c2 x.fDrop
theorem wGWrite_lawful : Lawful wGWrite 3 :=
  ⟨fun ⟨c0, c1, c2, h, h0, h1, h2⟩ => by rw [h]; simp only [List.flatten_cons, List.flatten_nil, List.append_nil, List.length_append, rBytesW_lawful.len h0, rBytesW_lawful.len h1, rBool_lawful.len h2],
   fun ⟨c0, c1, c2, h, h0, h1, h2⟩ k hs => ⟨c0, c1, c2, h, rBytesW_lawful.keep h0 k hs, rBytesW_lawful.keep h1 k hs, rBool_lawful.keep h2 k hs⟩,
   fun ⟨c0, c1, c2, h, h0, h1, h2⟩ hq => ⟨c0, c1, c2, h, rBytesW_lawful.mono h0 hq, rBytesW_lawful.mono h1 hq, rBool_lawful.mono h2 hq⟩⟩
theorem wGWrite_to {w : World} {p : Nat → Prop} {cs : List Value} {x : GWrite} (h : wGWrite w p cs x) : rGWrite w p cs x := by
  obtain ⟨c0, c1, c2, h, h0, h1, h2⟩ := h
  exact ⟨c0, c1, c2, h, rBytesW_to h0, rBytesW_to h1, h2⟩
def wGSpan : RD GSpan := fun w p cs x => ∃ c0 c1 : List Value, cs = List.flatten [c0, c1] ∧ rBytesW w p c0 x.fFrom ∧ rBytesW w p c1 x.fTo
theorem wGSpan_lawful : Lawful wGSpan 2 :=
  ⟨fun ⟨c0, c1, h, h0, h1⟩ => by rw [h]; simp only [List.flatten_cons, List.flatten_nil, List.append_nil, List.length_append, rBytesW_lawful.len h0, rBytesW_lawful.len h1],
   fun ⟨c0, c1, h, h0, h1⟩ k hs => ⟨c0, c1, h, rBytesW_lawful.keep h0 k hs, rBytesW_lawful.keep h1 k hs⟩,
   fun ⟨c0, c1, h, h0, h1⟩ hq => ⟨c0, c1, h, rBytesW_lawful.mono h0 hq, rBytesW_lawful.mono h1 hq⟩⟩
theorem wGSpan_to {w : World} {p : Nat → Prop} {cs : List Value} {x : GSpan} (h : wGSpan w p cs x) : rGSpan w p cs x := by
  obtain ⟨c0, c1, h, h0, h1⟩ := h
  exact ⟨c0, c1, h, rBytesW_to h0, rBytesW_to h1⟩
def wGSeen : RD GSeen := fun w p cs x => ∃ c0 c1 : List Value, cs = List.flatten [c0, c1] ∧ wGSpan w p c0 x.fSpan ∧ (rList wGPair) w p c1 x.fPairs
theorem wGSeen_lawful : Lawful wGSeen 3 :=
  ⟨fun ⟨c0, c1, h, h0, h1⟩ => by rw [h]; simp only [List.flatten_cons, List.flatten_nil, List.append_nil, List.length_append, wGSpan_lawful.len h0, (rList_lawful wGPair_lawful).len h1],
   fun ⟨c0, c1, h, h0, h1⟩ k hs => ⟨c0, c1, h, wGSpan_lawful.keep h0 k hs, (rList_lawful wGPair_lawful).keep h1 k hs⟩,
   fun ⟨c0, c1, h, h0, h1⟩ hq => ⟨c0, c1, h, wGSpan_lawful.mono h0 hq, (rList_lawful wGPair_lawful).mono h1 hq⟩⟩
theorem wGSeen_to {w : World} {p : Nat → Prop} {cs : List Value} {x : GSeen} (h : wGSeen w p cs x) : rGSeen w p cs x := by
  obtain ⟨c0, c1, h, h0, h1⟩ := h
  exact ⟨c0, c1, h, wGSpan_to h0, (rList_to wGPair_to) h1⟩
def wGOwner : RD GOwner := fun w p cs x => ∃ c0 c1 : List Value, cs = List.flatten [c0, c1] ∧ (rInt .i64) w p c0 x.fGroup ∧ rBytesW w p c1 x.fFrom
theorem wGOwner_lawful : Lawful wGOwner 2 :=
  ⟨fun ⟨c0, c1, h, h0, h1⟩ => by rw [h]; simp only [List.flatten_cons, List.flatten_nil, List.append_nil, List.length_append, (rInt_lawful _).len h0, rBytesW_lawful.len h1],
   fun ⟨c0, c1, h, h0, h1⟩ k hs => ⟨c0, c1, h, (rInt_lawful _).keep h0 k hs, rBytesW_lawful.keep h1 k hs⟩,
   fun ⟨c0, c1, h, h0, h1⟩ hq => ⟨c0, c1, h, (rInt_lawful _).mono h0 hq, rBytesW_lawful.mono h1 hq⟩⟩
theorem wGOwner_to {w : World} {p : Nat → Prop} {cs : List Value} {x : GOwner} (h : wGOwner w p cs x) : rGOwner w p cs x := by
  obtain ⟨c0, c1, h, h0, h1⟩ := h
  exact ⟨c0, c1, h, h0, rBytesW_to h1⟩
def wGRoutes : RD GRoutes := fun w p cs x => ∃ c0 c1 c2 c3 c4 : List Value, cs = List.flatten [c0, c1, c2, c3, c4] ∧ (rInt .i64) w p c0 x.fEpoch ∧ (rInt .i64) w p c1 x.fBase ∧ (rList wGOwner) w p c2 x.fSpans ∧ (rInt .i64) w p c3 x.fMoving ∧ rBytesW w p c4 x.fCut
theorem wGRoutes_lawful : Lawful wGRoutes 5 :=
  ⟨fun ⟨c0, c1, c2, c3, c4, h, h0, h1, h2, h3, h4⟩ => by rw [h]; simp only [List.flatten_cons, List.flatten_nil, List.append_nil, List.length_append, (rInt_lawful _).len h0, (rInt_lawful _).len h1, (rList_lawful wGOwner_lawful).len h2, (rInt_lawful _).len h3, rBytesW_lawful.len h4],
   fun ⟨c0, c1, c2, c3, c4, h, h0, h1, h2, h3, h4⟩ k hs => ⟨c0, c1, c2, c3, c4, h, (rInt_lawful _).keep h0 k hs, (rInt_lawful _).keep h1 k hs, (rList_lawful wGOwner_lawful).keep h2 k hs, (rInt_lawful _).keep h3 k hs, rBytesW_lawful.keep h4 k hs⟩,
   fun ⟨c0, c1, c2, c3, c4, h, h0, h1, h2, h3, h4⟩ hq => ⟨c0, c1, c2, c3, c4, h, (rInt_lawful _).mono h0 hq, (rInt_lawful _).mono h1 hq, (rList_lawful wGOwner_lawful).mono h2 hq, (rInt_lawful _).mono h3 hq, rBytesW_lawful.mono h4 hq⟩⟩
theorem wGRoutes_to {w : World} {p : Nat → Prop} {cs : List Value} {x : GRoutes} (h : wGRoutes w p cs x) : rGRoutes w p cs x := by
  obtain ⟨c0, c1, c2, c3, c4, h, h0, h1, h2, h3, h4⟩ := h
  exact ⟨c0, c1, c2, c3, c4, h, h0, h1, (rList_to wGOwner_to) h2, h3, rBytesW_to h4⟩
def wGCommand : RD GCommand := fun w p cs x => ∃ c0 c1 c2 c3 c4 c5 c6 c7 c8 c9 c10 c11 c12 c13 c14 : List Value, cs = List.flatten [c0, c1, c2, c3, c4, c5, c6, c7, c8, c9, c10, c11, c12, c13, c14] ∧ (rInt .i64) w p c0 x.fKind ∧ (rInt .i64) w p c1 x.fEpoch ∧ (rInt .u64) w p c2 x.fTxn ∧ (rInt .i64) w p c3 x.fN ∧ (rInt .i64) w p c4 x.fFrom ∧ (rInt .i64) w p c5 x.fTo ∧ rBool w p c6 x.fFlag ∧ rBytesW w p c7 x.fKey ∧ wGSpan w p c8 x.fSpan ∧ (rList wGPair) w p c9 x.fPairs ∧ (rList wGSeen) w p c10 x.fSeens ∧ (rList wGWrite) w p c11 x.fWrites ∧ wGTable w p c12 x.fTable ∧ wGIndex w p c13 x.fIndex ∧ rStr w p c14 x.fName
theorem wGCommand_lawful : Lawful wGCommand 25 :=
  ⟨fun ⟨c0, c1, c2, c3, c4, c5, c6, c7, c8, c9, c10, c11, c12, c13, c14, h, h0, h1, h2, h3, h4, h5, h6, h7, h8, h9, h10, h11, h12, h13, h14⟩ => by rw [h]; simp only [List.flatten_cons, List.flatten_nil, List.append_nil, List.length_append, (rInt_lawful _).len h0, (rInt_lawful _).len h1, (rInt_lawful _).len h2, (rInt_lawful _).len h3, (rInt_lawful _).len h4, (rInt_lawful _).len h5, rBool_lawful.len h6, rBytesW_lawful.len h7, wGSpan_lawful.len h8, (rList_lawful wGPair_lawful).len h9, (rList_lawful wGSeen_lawful).len h10, (rList_lawful wGWrite_lawful).len h11, wGTable_lawful.len h12, wGIndex_lawful.len h13, rStr_lawful.len h14],
   fun ⟨c0, c1, c2, c3, c4, c5, c6, c7, c8, c9, c10, c11, c12, c13, c14, h, h0, h1, h2, h3, h4, h5, h6, h7, h8, h9, h10, h11, h12, h13, h14⟩ k hs => ⟨c0, c1, c2, c3, c4, c5, c6, c7, c8, c9, c10, c11, c12, c13, c14, h, (rInt_lawful _).keep h0 k hs, (rInt_lawful _).keep h1 k hs, (rInt_lawful _).keep h2 k hs, (rInt_lawful _).keep h3 k hs, (rInt_lawful _).keep h4 k hs, (rInt_lawful _).keep h5 k hs, rBool_lawful.keep h6 k hs, rBytesW_lawful.keep h7 k hs, wGSpan_lawful.keep h8 k hs, (rList_lawful wGPair_lawful).keep h9 k hs, (rList_lawful wGSeen_lawful).keep h10 k hs, (rList_lawful wGWrite_lawful).keep h11 k hs, wGTable_lawful.keep h12 k hs, wGIndex_lawful.keep h13 k hs, rStr_lawful.keep h14 k hs⟩,
   fun ⟨c0, c1, c2, c3, c4, c5, c6, c7, c8, c9, c10, c11, c12, c13, c14, h, h0, h1, h2, h3, h4, h5, h6, h7, h8, h9, h10, h11, h12, h13, h14⟩ hq => ⟨c0, c1, c2, c3, c4, c5, c6, c7, c8, c9, c10, c11, c12, c13, c14, h, (rInt_lawful _).mono h0 hq, (rInt_lawful _).mono h1 hq, (rInt_lawful _).mono h2 hq, (rInt_lawful _).mono h3 hq, (rInt_lawful _).mono h4 hq, (rInt_lawful _).mono h5 hq, rBool_lawful.mono h6 hq, rBytesW_lawful.mono h7 hq, wGSpan_lawful.mono h8 hq, (rList_lawful wGPair_lawful).mono h9 hq, (rList_lawful wGSeen_lawful).mono h10 hq, (rList_lawful wGWrite_lawful).mono h11 hq, wGTable_lawful.mono h12 hq, wGIndex_lawful.mono h13 hq, rStr_lawful.mono h14 hq⟩⟩
theorem wGCommand_to {w : World} {p : Nat → Prop} {cs : List Value} {x : GCommand} (h : wGCommand w p cs x) : rGCommand w p cs x := by
  obtain ⟨c0, c1, c2, c3, c4, c5, c6, c7, c8, c9, c10, c11, c12, c13, c14, h, h0, h1, h2, h3, h4, h5, h6, h7, h8, h9, h10, h11, h12, h13, h14⟩ := h
  exact ⟨c0, c1, c2, c3, c4, c5, c6, c7, c8, c9, c10, c11, c12, c13, c14, h, h0, h1, h2, h3, h4, h5, h6, rBytesW_to h7, wGSpan_to h8, (rList_to wGPair_to) h9, (rList_to wGSeen_to) h10, (rList_to wGWrite_to) h11, wGTable_to h12, wGIndex_to h13, h14⟩
def wGReply : RD GReply := fun w p cs x => ∃ c0 c1 c2 c3 c4 c5 c6 c7 : List Value, cs = List.flatten [c0, c1, c2, c3, c4, c5, c6, c7] ∧ (rInt .i64) w p c0 x.fErr ∧ (rInt .u64) w p c1 x.fTxn ∧ (rInt .i64) w p c2 x.fN ∧ rBool w p c3 x.fFlag ∧ (rList wGPair) w p c4 x.fPairs ∧ (rList (rInt .u64)) w p c5 x.fTxns ∧ wGCatalog w p c6 x.fCatalog ∧ wGRoutes w p c7 x.fRoutes
theorem wGReply_lawful : Lawful wGReply 15 :=
  ⟨fun ⟨c0, c1, c2, c3, c4, c5, c6, c7, h, h0, h1, h2, h3, h4, h5, h6, h7⟩ => by rw [h]; simp only [List.flatten_cons, List.flatten_nil, List.append_nil, List.length_append, (rInt_lawful _).len h0, (rInt_lawful _).len h1, (rInt_lawful _).len h2, rBool_lawful.len h3, (rList_lawful wGPair_lawful).len h4, (rList_lawful (rInt_lawful _)).len h5, wGCatalog_lawful.len h6, wGRoutes_lawful.len h7],
   fun ⟨c0, c1, c2, c3, c4, c5, c6, c7, h, h0, h1, h2, h3, h4, h5, h6, h7⟩ k hs => ⟨c0, c1, c2, c3, c4, c5, c6, c7, h, (rInt_lawful _).keep h0 k hs, (rInt_lawful _).keep h1 k hs, (rInt_lawful _).keep h2 k hs, rBool_lawful.keep h3 k hs, (rList_lawful wGPair_lawful).keep h4 k hs, (rList_lawful (rInt_lawful _)).keep h5 k hs, wGCatalog_lawful.keep h6 k hs, wGRoutes_lawful.keep h7 k hs⟩,
   fun ⟨c0, c1, c2, c3, c4, c5, c6, c7, h, h0, h1, h2, h3, h4, h5, h6, h7⟩ hq => ⟨c0, c1, c2, c3, c4, c5, c6, c7, h, (rInt_lawful _).mono h0 hq, (rInt_lawful _).mono h1 hq, (rInt_lawful _).mono h2 hq, rBool_lawful.mono h3 hq, (rList_lawful wGPair_lawful).mono h4 hq, (rList_lawful (rInt_lawful _)).mono h5 hq, wGCatalog_lawful.mono h6 hq, wGRoutes_lawful.mono h7 hq⟩⟩
theorem wGReply_to {w : World} {p : Nat → Prop} {cs : List Value} {x : GReply} (h : wGReply w p cs x) : rGReply w p cs x := by
  obtain ⟨c0, c1, c2, c3, c4, c5, c6, c7, h, h0, h1, h2, h3, h4, h5, h6, h7⟩ := h
  exact ⟨c0, c1, c2, c3, c4, c5, c6, c7, h, h0, h1, h2, h3, (rList_to wGPair_to) h4, (rList_to (fun h => h)) h5, wGCatalog_to h6, wGRoutes_to h7⟩
end Go.Proofs.YtibaehlfpgipfaaGreat
