/- THE WALKS of the reference's writer on lists and structs. Printed by gen5.py. -/
import Derived.Test.YtabgbleldbapbaaOutB
import Derived.Test.YtabgbleldbapbaaOutT
namespace Go.Proofs.Ytabgbleldbapbaa
open Go.RowKit

set_option maxRecDepth 100000 in
set_option maxHeartbeats 16000000 in
theorem oTCommand_c (w : World) (p : Nat → Prop) (hp : ∀ b, p b → b < w.heap.size) (x : GCommand) (cs : List Value) (hx : rGCommand w p cs x) (hb : (encGCommand x).length ≤ far) :
    Calls Try.prog 16 #[.agg cs.toArray] w (Made (encGCommand x) w) := by
  obtain ⟨aKey, cKey, aSpanFrom, cSpanFrom, aSpanTo, cSpanTo, aPairs, cPairs, aSeens, cSeens, aWrites, cWrites, aTableColumns, cTableColumns, aTableKey, cTableKey, aIndexColumns, cIndexColumns, rfl, h0, h1, h2, h3, h4, h5, h7, h8, h9, h10, h11, h12, h13, h14, -⟩ := rGCommand_open hx
  obtain ⟨out, hout⟩ : ∃ out : List UInt8, Hid (out = []) := ⟨[], rfl⟩
  obtain ⟨g, hg⟩ : ∃ g : Option Nat, Hid (g = none) := ⟨none, rfl⟩
  have hw0 : Wr ((w.alloc (.cells #[.int .i64 x.fKind, .int .i64 x.fEpoch, .int .u64 x.fTxn, .int .i64 x.fN, .int .i64 x.fFrom, .int .i64 x.fTo, .bool x.fFlag, .slice aKey x.fKey.length cKey, .slice aSpanFrom x.fSpan.fFrom.length cSpanFrom, .slice aSpanTo x.fSpan.fTo.length cSpanTo, .slice aPairs x.fPairs.length cPairs, .slice aSeens x.fSeens.length cSeens, .slice aWrites x.fWrites.length cWrites, .int .i64 x.fTable.fID, .string (strB x.fTable.fName), .slice aTableColumns x.fTable.fColumns.length cTableColumns, .slice aTableKey x.fTable.fKey.length cTableKey, .int .i64 x.fIndex.fID, .int .i64 x.fIndex.fTable, .string (strB x.fIndex.fName), .slice aIndexColumns x.fIndex.fColumns.length cIndexColumns, .bool x.fIndex.fUnique, .int .i64 x.fIndex.fState, .bool x.fIndex.fBad, .string (strB x.fName)] 50)).alloc (.cells #[.slice none 0 0] 74)) 74 (w.heap.size + 1) g out (PB p w.heap.size) := by
    rw [hout.out, hg.out]
    have := Wr.new (w.alloc (.cells #[.int .i64 x.fKind, .int .i64 x.fEpoch, .int .u64 x.fTxn, .int .i64 x.fN, .int .i64 x.fFrom, .int .i64 x.fTo, .bool x.fFlag, .slice aKey x.fKey.length cKey, .slice aSpanFrom x.fSpan.fFrom.length cSpanFrom, .slice aSpanTo x.fSpan.fTo.length cSpanTo, .slice aPairs x.fPairs.length cPairs, .slice aSeens x.fSeens.length cSeens, .slice aWrites x.fWrites.length cWrites, .int .i64 x.fTable.fID, .string (strB x.fTable.fName), .slice aTableColumns x.fTable.fColumns.length cTableColumns, .slice aTableKey x.fTable.fKey.length cTableKey, .int .i64 x.fIndex.fID, .int .i64 x.fIndex.fTable, .string (strB x.fIndex.fName), .slice aIndexColumns x.fIndex.fColumns.length cIndexColumns, .bool x.fIndex.fUnique, .int .i64 x.fIndex.fState, .bool x.fIndex.fBad, .string (strB x.fName)] 50)) 74 (PB p w.heap.size) (fun b hb => by
      rcases hb with hb | rfl
      · have := hp b hb; simp; omega
      · simp)
    simpa using this
  have row0 : RowIs ((w.alloc (.cells #[.int .i64 x.fKind, .int .i64 x.fEpoch, .int .u64 x.fTxn, .int .i64 x.fN, .int .i64 x.fFrom, .int .i64 x.fTo, .bool x.fFlag, .slice aKey x.fKey.length cKey, .slice aSpanFrom x.fSpan.fFrom.length cSpanFrom, .slice aSpanTo x.fSpan.fTo.length cSpanTo, .slice aPairs x.fPairs.length cPairs, .slice aSeens x.fSeens.length cSeens, .slice aWrites x.fWrites.length cWrites, .int .i64 x.fTable.fID, .string (strB x.fTable.fName), .slice aTableColumns x.fTable.fColumns.length cTableColumns, .slice aTableKey x.fTable.fKey.length cTableKey, .int .i64 x.fIndex.fID, .int .i64 x.fIndex.fTable, .string (strB x.fIndex.fName), .slice aIndexColumns x.fIndex.fColumns.length cIndexColumns, .bool x.fIndex.fUnique, .int .i64 x.fIndex.fState, .bool x.fIndex.fBad, .string (strB x.fName)] 50)).alloc (.cells #[.slice none 0 0] 74)) w.heap.size 50 [.int .i64 x.fKind, .int .i64 x.fEpoch, .int .u64 x.fTxn, .int .i64 x.fN, .int .i64 x.fFrom, .int .i64 x.fTo, .bool x.fFlag, .slice aKey x.fKey.length cKey, .slice aSpanFrom x.fSpan.fFrom.length cSpanFrom, .slice aSpanTo x.fSpan.fTo.length cSpanTo, .slice aPairs x.fPairs.length cPairs, .slice aSeens x.fSeens.length cSeens, .slice aWrites x.fWrites.length cWrites, .int .i64 x.fTable.fID, .string (strB x.fTable.fName), .slice aTableColumns x.fTable.fColumns.length cTableColumns, .slice aTableKey x.fTable.fKey.length cTableKey, .int .i64 x.fIndex.fID, .int .i64 x.fIndex.fTable, .string (strB x.fIndex.fName), .slice aIndexColumns x.fIndex.fColumns.length cIndexColumns, .bool x.fIndex.fUnique, .int .i64 x.fIndex.fState, .bool x.fIndex.fBad, .string (strB x.fName)] := (RowIs.alloc w _ _).keep ((Keep.refl Nix _).alloc _) id
  replace h0 := Lib.hid h0
  replace h1 := Lib.hid h1
  replace h2 := Lib.hid h2
  replace h3 := Lib.hid h3
  replace h4 := Lib.hid h4
  replace h5 := Lib.hid h5
  replace h7 := And.intro ((h7.1.box (.cells #[.int .i64 x.fKind, .int .i64 x.fEpoch, .int .u64 x.fTxn, .int .i64 x.fN, .int .i64 x.fFrom, .int .i64 x.fTo, .bool x.fFlag, .slice aKey x.fKey.length cKey, .slice aSpanFrom x.fSpan.fFrom.length cSpanFrom, .slice aSpanTo x.fSpan.fTo.length cSpanTo, .slice aPairs x.fPairs.length cPairs, .slice aSeens x.fSeens.length cSeens, .slice aWrites x.fWrites.length cWrites, .int .i64 x.fTable.fID, .string (strB x.fTable.fName), .slice aTableColumns x.fTable.fColumns.length cTableColumns, .slice aTableKey x.fTable.fKey.length cTableKey, .int .i64 x.fIndex.fID, .int .i64 x.fIndex.fTable, .string (strB x.fIndex.fName), .slice aIndexColumns x.fIndex.fColumns.length cIndexColumns, .bool x.fIndex.fUnique, .int .i64 x.fIndex.fState, .bool x.fIndex.fBad, .string (strB x.fName)] 50)).keep ((Keep.refl Nix _).alloc (.cells #[.slice none 0 0] 74)) (fun _ _ h => h)) h7.2
  replace h7 := Lib.hid h7
  replace h8 := rGSpan_lawful.nix (rGSpan_lawful.box h8 (.cells #[.int .i64 x.fKind, .int .i64 x.fEpoch, .int .u64 x.fTxn, .int .i64 x.fN, .int .i64 x.fFrom, .int .i64 x.fTo, .bool x.fFlag, .slice aKey x.fKey.length cKey, .slice aSpanFrom x.fSpan.fFrom.length cSpanFrom, .slice aSpanTo x.fSpan.fTo.length cSpanTo, .slice aPairs x.fPairs.length cPairs, .slice aSeens x.fSeens.length cSeens, .slice aWrites x.fWrites.length cWrites, .int .i64 x.fTable.fID, .string (strB x.fTable.fName), .slice aTableColumns x.fTable.fColumns.length cTableColumns, .slice aTableKey x.fTable.fKey.length cTableKey, .int .i64 x.fIndex.fID, .int .i64 x.fIndex.fTable, .string (strB x.fIndex.fName), .slice aIndexColumns x.fIndex.fColumns.length cIndexColumns, .bool x.fIndex.fUnique, .int .i64 x.fIndex.fState, .bool x.fIndex.fBad, .string (strB x.fName)] 50)) ((Keep.refl Nix _).alloc (.cells #[.slice none 0 0] 74))
  replace h8 := Lib.hid h8
  replace h9 := (rList_lawful rGPair_lawful).nix ((rList_lawful rGPair_lawful).box h9 (.cells #[.int .i64 x.fKind, .int .i64 x.fEpoch, .int .u64 x.fTxn, .int .i64 x.fN, .int .i64 x.fFrom, .int .i64 x.fTo, .bool x.fFlag, .slice aKey x.fKey.length cKey, .slice aSpanFrom x.fSpan.fFrom.length cSpanFrom, .slice aSpanTo x.fSpan.fTo.length cSpanTo, .slice aPairs x.fPairs.length cPairs, .slice aSeens x.fSeens.length cSeens, .slice aWrites x.fWrites.length cWrites, .int .i64 x.fTable.fID, .string (strB x.fTable.fName), .slice aTableColumns x.fTable.fColumns.length cTableColumns, .slice aTableKey x.fTable.fKey.length cTableKey, .int .i64 x.fIndex.fID, .int .i64 x.fIndex.fTable, .string (strB x.fIndex.fName), .slice aIndexColumns x.fIndex.fColumns.length cIndexColumns, .bool x.fIndex.fUnique, .int .i64 x.fIndex.fState, .bool x.fIndex.fBad, .string (strB x.fName)] 50)) ((Keep.refl Nix _).alloc (.cells #[.slice none 0 0] 74))
  replace h9 := Lib.hid h9
  replace h10 := (rList_lawful rGSeen_lawful).nix ((rList_lawful rGSeen_lawful).box h10 (.cells #[.int .i64 x.fKind, .int .i64 x.fEpoch, .int .u64 x.fTxn, .int .i64 x.fN, .int .i64 x.fFrom, .int .i64 x.fTo, .bool x.fFlag, .slice aKey x.fKey.length cKey, .slice aSpanFrom x.fSpan.fFrom.length cSpanFrom, .slice aSpanTo x.fSpan.fTo.length cSpanTo, .slice aPairs x.fPairs.length cPairs, .slice aSeens x.fSeens.length cSeens, .slice aWrites x.fWrites.length cWrites, .int .i64 x.fTable.fID, .string (strB x.fTable.fName), .slice aTableColumns x.fTable.fColumns.length cTableColumns, .slice aTableKey x.fTable.fKey.length cTableKey, .int .i64 x.fIndex.fID, .int .i64 x.fIndex.fTable, .string (strB x.fIndex.fName), .slice aIndexColumns x.fIndex.fColumns.length cIndexColumns, .bool x.fIndex.fUnique, .int .i64 x.fIndex.fState, .bool x.fIndex.fBad, .string (strB x.fName)] 50)) ((Keep.refl Nix _).alloc (.cells #[.slice none 0 0] 74))
  replace h10 := Lib.hid h10
  replace h11 := (rList_lawful rGWrite_lawful).nix ((rList_lawful rGWrite_lawful).box h11 (.cells #[.int .i64 x.fKind, .int .i64 x.fEpoch, .int .u64 x.fTxn, .int .i64 x.fN, .int .i64 x.fFrom, .int .i64 x.fTo, .bool x.fFlag, .slice aKey x.fKey.length cKey, .slice aSpanFrom x.fSpan.fFrom.length cSpanFrom, .slice aSpanTo x.fSpan.fTo.length cSpanTo, .slice aPairs x.fPairs.length cPairs, .slice aSeens x.fSeens.length cSeens, .slice aWrites x.fWrites.length cWrites, .int .i64 x.fTable.fID, .string (strB x.fTable.fName), .slice aTableColumns x.fTable.fColumns.length cTableColumns, .slice aTableKey x.fTable.fKey.length cTableKey, .int .i64 x.fIndex.fID, .int .i64 x.fIndex.fTable, .string (strB x.fIndex.fName), .slice aIndexColumns x.fIndex.fColumns.length cIndexColumns, .bool x.fIndex.fUnique, .int .i64 x.fIndex.fState, .bool x.fIndex.fBad, .string (strB x.fName)] 50)) ((Keep.refl Nix _).alloc (.cells #[.slice none 0 0] 74))
  replace h11 := Lib.hid h11
  replace h12 := rGTable_lawful.nix (rGTable_lawful.box h12 (.cells #[.int .i64 x.fKind, .int .i64 x.fEpoch, .int .u64 x.fTxn, .int .i64 x.fN, .int .i64 x.fFrom, .int .i64 x.fTo, .bool x.fFlag, .slice aKey x.fKey.length cKey, .slice aSpanFrom x.fSpan.fFrom.length cSpanFrom, .slice aSpanTo x.fSpan.fTo.length cSpanTo, .slice aPairs x.fPairs.length cPairs, .slice aSeens x.fSeens.length cSeens, .slice aWrites x.fWrites.length cWrites, .int .i64 x.fTable.fID, .string (strB x.fTable.fName), .slice aTableColumns x.fTable.fColumns.length cTableColumns, .slice aTableKey x.fTable.fKey.length cTableKey, .int .i64 x.fIndex.fID, .int .i64 x.fIndex.fTable, .string (strB x.fIndex.fName), .slice aIndexColumns x.fIndex.fColumns.length cIndexColumns, .bool x.fIndex.fUnique, .int .i64 x.fIndex.fState, .bool x.fIndex.fBad, .string (strB x.fName)] 50)) ((Keep.refl Nix _).alloc (.cells #[.slice none 0 0] 74))
  replace h12 := Lib.hid h12
  replace h13 := rGIndex_lawful.nix (rGIndex_lawful.box h13 (.cells #[.int .i64 x.fKind, .int .i64 x.fEpoch, .int .u64 x.fTxn, .int .i64 x.fN, .int .i64 x.fFrom, .int .i64 x.fTo, .bool x.fFlag, .slice aKey x.fKey.length cKey, .slice aSpanFrom x.fSpan.fFrom.length cSpanFrom, .slice aSpanTo x.fSpan.fTo.length cSpanTo, .slice aPairs x.fPairs.length cPairs, .slice aSeens x.fSeens.length cSeens, .slice aWrites x.fWrites.length cWrites, .int .i64 x.fTable.fID, .string (strB x.fTable.fName), .slice aTableColumns x.fTable.fColumns.length cTableColumns, .slice aTableKey x.fTable.fKey.length cTableKey, .int .i64 x.fIndex.fID, .int .i64 x.fIndex.fTable, .string (strB x.fIndex.fName), .slice aIndexColumns x.fIndex.fColumns.length cIndexColumns, .bool x.fIndex.fUnique, .int .i64 x.fIndex.fState, .bool x.fIndex.fBad, .string (strB x.fName)] 50)) ((Keep.refl Nix _).alloc (.cells #[.slice none 0 0] 74))
  replace h13 := Lib.hid h13
  replace h14 := Lib.hid h14
  have HL : Hid (out.length + ((encI x.fKind).length + (encI x.fEpoch).length + (encU x.fTxn).length + (encI x.fN).length + (encI x.fFrom).length + (encI x.fTo).length + (encF x.fFlag).length + (textB x.fKey).length + (encGSpan x.fSpan).length + (encL encGPair x.fPairs).length + (encL encGSeen x.fSeens).length + (encL encGWrite x.fWrites).length + (encGTable x.fTable).length + (encGIndex x.fIndex).length + (textB x.fName).length) ≤ far) := by
    show _ ≤ _
    rw [hout.out]
    simp only [encGCommand, List.length_append] at hb; simp only [List.length_nil]; omega
  have c0 : Chain (w.heap.size + 1) ((w.alloc (.cells #[.int .i64 x.fKind, .int .i64 x.fEpoch, .int .u64 x.fTxn, .int .i64 x.fN, .int .i64 x.fFrom, .int .i64 x.fTo, .bool x.fFlag, .slice aKey x.fKey.length cKey, .slice aSpanFrom x.fSpan.fFrom.length cSpanFrom, .slice aSpanTo x.fSpan.fTo.length cSpanTo, .slice aPairs x.fPairs.length cPairs, .slice aSeens x.fSeens.length cSeens, .slice aWrites x.fWrites.length cWrites, .int .i64 x.fTable.fID, .string (strB x.fTable.fName), .slice aTableColumns x.fTable.fColumns.length cTableColumns, .slice aTableKey x.fTable.fKey.length cTableKey, .int .i64 x.fIndex.fID, .int .i64 x.fIndex.fTable, .string (strB x.fIndex.fName), .slice aIndexColumns x.fIndex.fColumns.length cIndexColumns, .bool x.fIndex.fUnique, .int .i64 x.fIndex.fState, .bool x.fIndex.fBad, .string (strB x.fName)] 50)).alloc (.cells #[.slice none 0 0] 74)) g ((w.alloc (.cells #[.int .i64 x.fKind, .int .i64 x.fEpoch, .int .u64 x.fTxn, .int .i64 x.fN, .int .i64 x.fFrom, .int .i64 x.fTo, .bool x.fFlag, .slice aKey x.fKey.length cKey, .slice aSpanFrom x.fSpan.fFrom.length cSpanFrom, .slice aSpanTo x.fSpan.fTo.length cSpanTo, .slice aPairs x.fPairs.length cPairs, .slice aSeens x.fSeens.length cSeens, .slice aWrites x.fWrites.length cWrites, .int .i64 x.fTable.fID, .string (strB x.fTable.fName), .slice aTableColumns x.fTable.fColumns.length cTableColumns, .slice aTableKey x.fTable.fKey.length cTableKey, .int .i64 x.fIndex.fID, .int .i64 x.fIndex.fTable, .string (strB x.fIndex.fName), .slice aIndexColumns x.fIndex.fColumns.length cIndexColumns, .bool x.fIndex.fUnique, .int .i64 x.fIndex.fState, .bool x.fIndex.fBad, .string (strB x.fName)] 50)).alloc (.cells #[.slice none 0 0] 74)) g := Chain.refl _ _ _
  clear hb hx
  go_enter Try.func16, Try.ntmps16
  have HX9 : Hid ((encL encGPair x.fPairs).length = (numB x.fPairs.length).length + (x.fPairs.flatMap encGPair).length) := List.length_append
  have HX10 : Hid ((encL encGSeen x.fSeens).length = (numB x.fSeens.length).length + (x.fSeens.flatMap encGSeen).length) := List.length_append
  have HX11 : Hid ((encL encGWrite x.fWrites).length = (numB x.fWrites.length).length + (x.fWrites.flatMap encGWrite).length) := List.length_append
  go_wp2_with fail
  go_fit (oint_e _ (w.heap.size + 1) _ _ _ x.fKind hw0 h0.out (by have := HL.out; have := HX9.out; have := HX10.out; have := HX11.out; (try simp only [List.length_append]); omega))
  rintro e w1 ⟨rfl, g1, wr1, ch⟩
  have c1 := c0.trans ch
  clear ch c0
  have c0 := c1
  clear c1
  have x1 : w1.cell? ⟨w.heap.size, 1, none⟩ = some (.int .i64 x.fEpoch) := (row0.go hw0 c0 (.inr rfl)).cell 1
  go_wp2_with fail
  go_fit (oint_e _ (w.heap.size + 1) _ _ _ x.fEpoch wr1 h1.out (by have := HL.out; have := HX9.out; have := HX10.out; have := HX11.out; (try simp only [List.length_append]); omega))
  rintro e w2 ⟨rfl, g2, wr2, ch⟩
  have c2 := c0.trans ch
  clear ch c0 wr1 x1
  have c0 := c2
  clear c2
  have x2 : w2.cell? ⟨w.heap.size, 2, none⟩ = some (.int .u64 x.fTxn) := (row0.go hw0 c0 (.inr rfl)).cell 2
  go_wp2_with fail
  go_fit (onum_e _ (w.heap.size + 1) _ _ _ x.fTxn wr2 h2.out (by have := HL.out; have := HX9.out; have := HX10.out; have := HX11.out; (try simp only [List.length_append]); omega))
  rintro e w3 ⟨rfl, g3, wr3, ch⟩
  have c3 := c0.trans ch
  clear ch c0 wr2 x2
  have c0 := c3
  clear c3
  have x3 : w3.cell? ⟨w.heap.size, 3, none⟩ = some (.int .i64 x.fN) := (row0.go hw0 c0 (.inr rfl)).cell 3
  go_wp2_with fail
  go_fit (oint_e _ (w.heap.size + 1) _ _ _ x.fN wr3 h3.out (by have := HL.out; have := HX9.out; have := HX10.out; have := HX11.out; (try simp only [List.length_append]); omega))
  rintro e w4 ⟨rfl, g4, wr4, ch⟩
  have c4 := c0.trans ch
  clear ch c0 wr3 x3
  have c0 := c4
  clear c4
  have x4 : w4.cell? ⟨w.heap.size, 4, none⟩ = some (.int .i64 x.fFrom) := (row0.go hw0 c0 (.inr rfl)).cell 4
  go_wp2_with fail
  go_fit (oint_e _ (w.heap.size + 1) _ _ _ x.fFrom wr4 h4.out (by have := HL.out; have := HX9.out; have := HX10.out; have := HX11.out; (try simp only [List.length_append]); omega))
  rintro e w5 ⟨rfl, g5, wr5, ch⟩
  have c5 := c0.trans ch
  clear ch c0 wr4 x4
  have c0 := c5
  clear c5
  have x5 : w5.cell? ⟨w.heap.size, 5, none⟩ = some (.int .i64 x.fTo) := (row0.go hw0 c0 (.inr rfl)).cell 5
  go_wp2_with fail
  go_fit (oint_e _ (w.heap.size + 1) _ _ _ x.fTo wr5 h5.out (by have := HL.out; have := HX9.out; have := HX10.out; have := HX11.out; (try simp only [List.length_append]); omega))
  rintro e w6 ⟨rfl, g6, wr6, ch⟩
  have c6 := c0.trans ch
  clear ch c0 wr5 x5
  have c0 := c6
  clear c6
  have x6 : w6.cell? ⟨w.heap.size, 6, none⟩ = some (.bool x.fFlag) := (row0.go hw0 c0 (.inr rfl)).cell 6
  go_wp2_with fail
  go_fit (oflag_c _ (w.heap.size + 1) _ _ _ x.fFlag wr6 (by have := HL.out; have := HX9.out; have := HX10.out; have := HX11.out; (try simp only [List.length_append]); omega))
  rintro e w7 ⟨rfl, g7, wr7, ch⟩
  have c7 := c0.trans ch
  clear ch c0 wr6 x6
  have c0 := c7
  clear c7
  have x7 : w7.cell? ⟨w.heap.size, 7, none⟩ = some (.slice aKey x.fKey.length cKey) := (row0.go hw0 c0 (.inr rfl)).cell 7
  go_wp2_with fail
  go_fit (obytes_c _ (w.heap.size + 1) _ _ _ aKey _ cKey x.fKey wr7 rfl (h7.out.1.go hw0 c0) (by have := h7.out.2.2; have := far_len; omega) (by have := HL.out; have := HX9.out; have := HX10.out; have := HX11.out; (try simp only [List.length_append]); omega))
  rintro e w8 ⟨rfl, g8, wr8, ch⟩
  have c8 := c0.trans ch
  clear ch c0 wr7 x7
  have c0 := c8
  clear c8
  have x8 : w8.cell? ⟨w.heap.size, 8, none⟩ = some (.slice aSpanFrom x.fSpan.fFrom.length cSpanFrom) := (row0.go hw0 c0 (.inr rfl)).cell 8
  have x9 : w8.cell? ⟨w.heap.size, 9, none⟩ = some (.slice aSpanTo x.fSpan.fTo.length cSpanTo) := (row0.go hw0 c0 (.inr rfl)).cell 9
  go_wp2_with fail
  go_fit (oSpan_c _ (w.heap.size + 1) _ _ _ x.fSpan _ (rGSpan_lawful.go h8.out hw0 c0) wr8 (by have := HL.out; have := HX9.out; have := HX10.out; have := HX11.out; (try simp only [List.length_append]); omega))
  rintro e w9 ⟨rfl, g9, wr9, ch⟩
  have c9 := c0.trans ch
  clear ch c0 wr8 x8 x9
  have c0 := c9
  clear c9
  have x10 : w9.cell? ⟨w.heap.size, 10, none⟩ = some (.slice aPairs x.fPairs.length cPairs) := (row0.go hw0 c0 (.inr rfl)).cell 10
  obtain ⟨hn9, -, hf9⟩ := rList_len h9.out
  have HF9 := Lib.hid hf9
  clear hf9 hn9
  have hlen9 : x.fPairs.length ≤ 9223372036854775807 := by have := HF9.out; have := far_len; unfold maxLen at this; omega
  have hwr9 : IntKind.u64.wrap (x.fPairs.length : Int) = (x.fPairs.length : Int) := by rw [IntKind.wrap_u64]; omega
  go_wp2_with fail
  go_fit (onumN _ (w.heap.size + 1) _ _ _ x.fPairs.length wr9 (by unfold isU64; omega) (by have := HL.out; have := HX9.out; have := HX10.out; have := HX11.out; (try simp only [List.length_append]); omega))
  rintro e w10 ⟨rfl, g10, wr10, ch⟩
  have c10 := c0.trans ch
  clear ch hwr9 wr9 x10
  go_wp2_with fail
  go_loopw [4] (fun i wr => ∃ (k : Nat) (g' : Option Nat), k ≤ x.fPairs.length ∧ i = .int .i64 k ∧ Wr wr 74 (w.heap.size + 1) g' (out ++ encI x.fKind ++ encI x.fEpoch ++ encU x.fTxn ++ encI x.fN ++ encI x.fFrom ++ encI x.fTo ++ encF x.fFlag ++ textB x.fKey ++ encGSpan x.fSpan ++ numB x.fPairs.length ++ (x.fPairs.take k).flatMap encGPair) (PB p w.heap.size) ∧ Chain (w.heap.size + 1) ((w.alloc (.cells #[.int .i64 x.fKind, .int .i64 x.fEpoch, .int .u64 x.fTxn, .int .i64 x.fN, .int .i64 x.fFrom, .int .i64 x.fTo, .bool x.fFlag, .slice aKey x.fKey.length cKey, .slice aSpanFrom x.fSpan.fFrom.length cSpanFrom, .slice aSpanTo x.fSpan.fTo.length cSpanTo, .slice aPairs x.fPairs.length cPairs, .slice aSeens x.fSeens.length cSeens, .slice aWrites x.fWrites.length cWrites, .int .i64 x.fTable.fID, .string (strB x.fTable.fName), .slice aTableColumns x.fTable.fColumns.length cTableColumns, .slice aTableKey x.fTable.fKey.length cTableKey, .int .i64 x.fIndex.fID, .int .i64 x.fIndex.fTable, .string (strB x.fIndex.fName), .slice aIndexColumns x.fIndex.fColumns.length cIndexColumns, .bool x.fIndex.fUnique, .int .i64 x.fIndex.fState, .bool x.fIndex.fBad, .string (strB x.fName)] 50)).alloc (.cells #[.slice none 0 0] 74)) g wr g') (fun i _ => x.fPairs.length - (intOf i).toNat)
  case atStart => exact ⟨0, _, by omega, rfl, by simpa using wr10, c10⟩
  case round =>
    clear wr10 c10 c0
    obtain ⟨k, gk, hk, rfl, wk, ck⟩ := hrel
    have x10 : wr.cell? ⟨w.heap.size, 10, none⟩ = some (.slice aPairs x.fPairs.length cPairs) := (row0.go hw0 ck (.inr rfl)).cell 10
    have HF9 := HF9
    have hlen9 := hlen9
    by_cases hll : k < x.fPairs.length
    · have HS : Hid (out ++ encI x.fKind ++ encI x.fEpoch ++ encU x.fTxn ++ encI x.fN ++ encI x.fFrom ++ encI x.fTo ++ encF x.fFlag ++ textB x.fKey ++ encGSpan x.fSpan ++ numB x.fPairs.length ++ (x.fPairs.take (k + 1)).flatMap encGPair = out ++ encI x.fKind ++ encI x.fEpoch ++ encU x.fTxn ++ encI x.fN ++ encI x.fFrom ++ encI x.fTo ++ encF x.fFlag ++ textB x.fKey ++ encGSpan x.fSpan ++ numB x.fPairs.length ++ (x.fPairs.take k).flatMap encGPair ++ encGPair x.fPairs[k]) := by
        show _ = _
        rw [take_flat encGPair x.fPairs k hll]; simp only [List.append_assoc]
      have HBk : Hid ((out ++ encI x.fKind ++ encI x.fEpoch ++ encU x.fTxn ++ encI x.fN ++ encI x.fFrom ++ encI x.fTo ++ encF x.fFlag ++ textB x.fKey ++ encGSpan x.fSpan ++ numB x.fPairs.length ++ (x.fPairs.take k).flatMap encGPair).length + (encGPair x.fPairs[k]).length ≤ far) := by
        show _ ≤ _
        have h1 := take_flat_len encGPair x.fPairs k hll
        have h2 := HL.out
        have HY9 := HX9.out
        have HY10 := HX10.out
        have HY11 := HX11.out
        simp only [List.length_append]; omega
      have wkf := wk.free
      obtain ⟨b, off, cap, c, z1, z2, z3, hx, h5⟩ := rList_at rGPair_lawful (by decide) h9.out k hll
      simp only [List.cons.injEq, Value.slice.injEq, and_true] at z1
      obtain ⟨e0, -, -⟩ := z1
      subst e0
      have hx' := rGPair_lawful.keep hx ck.keep hw0.free
      have hlt2 := Nat.lt_of_lt_of_le z3 ck.keep.size
      have hrng : ∀ (j : Nat) (u : Value), c[j]? = some u → wr.cell? ⟨b, off + k * 3 + j, none⟩ = some u := fun j u hu => (ck.keep.cell (p := ⟨b, off + k * 3 + j, none⟩) z3 (hw0.free b z2)).trans (h5 j u hu)
      clear h5 hx
      obtain ⟨aeKey, ceKey, aeValue, ceValue, rfl, q0, q1, q2, -⟩ := rGPair_open hx'
      have x100 : wr.cell? ⟨b, off + k * 3, none⟩ = some (.slice aeKey x.fPairs[k].fKey.length ceKey) := hrng 0 _ rfl
      have x101 : wr.cell? ⟨b, off + k * 3 + 1, none⟩ = some (.slice aeValue x.fPairs[k].fValue.length ceValue) := hrng 1 _ rfl
      have x102 : wr.cell? ⟨b, off + k * 3 + 2, none⟩ = some (.int .i64 x.fPairs[k].fVersion) := hrng 2 _ rfl
      clear hrng hlt2 q0 q1 q2
      generalize hv : x.fPairs[k] = v at *
      clear hv
      have wk3 := wk
      clear wk
      go_wp2_with fail
      go_fit (oPair_c _ (w.heap.size + 1) gk _ _ v _ hx' wk3 HBk.out)
      rintro e w2 ⟨rfl, g2, wr2, ch2⟩
      clear hx' wk3 x100 x101 x102
      have ck2 := ck.trans ch2
      clear ck ch2 wkf
      go_wp2
      go_roundw
      case rel => exact ⟨k + 1, g2, by omega, by go_num, by rw [HS.out]; exact wr2, ck2⟩
      case measure => simp [intOf]; omega
    · obtain rfl : k = x.fPairs.length := by omega
      have e0 : x.fPairs.take x.fPairs.length = x.fPairs := List.take_of_length_le (by omega)
      rw [e0] at wk
      have wq9 : Wr wr 74 (w.heap.size + 1) gk (out ++ encI x.fKind ++ encI x.fEpoch ++ encU x.fTxn ++ encI x.fN ++ encI x.fFrom ++ encI x.fTo ++ encF x.fFlag ++ textB x.fKey ++ encGSpan x.fSpan ++ encL encGPair x.fPairs) (PB p w.heap.size) := by rw [show encL encGPair x.fPairs = numB x.fPairs.length ++ x.fPairs.flatMap encGPair from rfl, ← List.append_assoc]; exact wk
      clear wk
      obtain ⟨wo9, rfl⟩ : ∃ wo : World, wo = wr := ⟨_, rfl⟩
      have c0 := ck
      clear ck e0
      have x11 : wo9.cell? ⟨w.heap.size, 11, none⟩ = some (.slice aSeens x.fSeens.length cSeens) := (row0.go hw0 c0 (.inr rfl)).cell 11
      obtain ⟨hn10, -, hf10⟩ := rList_len h10.out
      have HF10 := Lib.hid hf10
      clear hf10 hn10
      have hlen10 : x.fSeens.length ≤ 9223372036854775807 := by have := HF10.out; have := far_len; unfold maxLen at this; omega
      have hwr10 : IntKind.u64.wrap (x.fSeens.length : Int) = (x.fSeens.length : Int) := by rw [IntKind.wrap_u64]; omega
      go_wp2_with fail
      go_fit (onumN _ (w.heap.size + 1) _ _ _ x.fSeens.length wq9 (by unfold isU64; omega) (by have := HL.out; have := HX9.out; have := HX10.out; have := HX11.out; (try simp only [List.length_append]); omega))
      rintro e w11 ⟨rfl, g11, wr11, ch⟩
      have c11 := c0.trans ch
      clear ch hwr10 wq9 x10 x11
      go_wp2_with fail
      go_loopw [5] (fun i wr => ∃ (k : Nat) (g' : Option Nat), k ≤ x.fSeens.length ∧ i = .int .i64 k ∧ Wr wr 74 (w.heap.size + 1) g' (out ++ encI x.fKind ++ encI x.fEpoch ++ encU x.fTxn ++ encI x.fN ++ encI x.fFrom ++ encI x.fTo ++ encF x.fFlag ++ textB x.fKey ++ encGSpan x.fSpan ++ encL encGPair x.fPairs ++ numB x.fSeens.length ++ (x.fSeens.take k).flatMap encGSeen) (PB p w.heap.size) ∧ Chain (w.heap.size + 1) ((w.alloc (.cells #[.int .i64 x.fKind, .int .i64 x.fEpoch, .int .u64 x.fTxn, .int .i64 x.fN, .int .i64 x.fFrom, .int .i64 x.fTo, .bool x.fFlag, .slice aKey x.fKey.length cKey, .slice aSpanFrom x.fSpan.fFrom.length cSpanFrom, .slice aSpanTo x.fSpan.fTo.length cSpanTo, .slice aPairs x.fPairs.length cPairs, .slice aSeens x.fSeens.length cSeens, .slice aWrites x.fWrites.length cWrites, .int .i64 x.fTable.fID, .string (strB x.fTable.fName), .slice aTableColumns x.fTable.fColumns.length cTableColumns, .slice aTableKey x.fTable.fKey.length cTableKey, .int .i64 x.fIndex.fID, .int .i64 x.fIndex.fTable, .string (strB x.fIndex.fName), .slice aIndexColumns x.fIndex.fColumns.length cIndexColumns, .bool x.fIndex.fUnique, .int .i64 x.fIndex.fState, .bool x.fIndex.fBad, .string (strB x.fName)] 50)).alloc (.cells #[.slice none 0 0] 74)) g wr g') (fun i _ => x.fSeens.length - (intOf i).toNat)
      case atStart => exact ⟨0, _, by omega, rfl, by simpa using wr11, c11⟩
      case round =>
        clear wr11 c11 c0
        obtain ⟨k, gk, hk, rfl, wk, ck⟩ := hrel
        have x11 : wr.cell? ⟨w.heap.size, 11, none⟩ = some (.slice aSeens x.fSeens.length cSeens) := (row0.go hw0 ck (.inr rfl)).cell 11
        have HF10 := HF10
        have hlen10 := hlen10
        by_cases hll : k < x.fSeens.length
        · have HS : Hid (out ++ encI x.fKind ++ encI x.fEpoch ++ encU x.fTxn ++ encI x.fN ++ encI x.fFrom ++ encI x.fTo ++ encF x.fFlag ++ textB x.fKey ++ encGSpan x.fSpan ++ encL encGPair x.fPairs ++ numB x.fSeens.length ++ (x.fSeens.take (k + 1)).flatMap encGSeen = out ++ encI x.fKind ++ encI x.fEpoch ++ encU x.fTxn ++ encI x.fN ++ encI x.fFrom ++ encI x.fTo ++ encF x.fFlag ++ textB x.fKey ++ encGSpan x.fSpan ++ encL encGPair x.fPairs ++ numB x.fSeens.length ++ (x.fSeens.take k).flatMap encGSeen ++ encGSeen x.fSeens[k]) := by
            show _ = _
            rw [take_flat encGSeen x.fSeens k hll]; simp only [List.append_assoc]
          have HBk : Hid ((out ++ encI x.fKind ++ encI x.fEpoch ++ encU x.fTxn ++ encI x.fN ++ encI x.fFrom ++ encI x.fTo ++ encF x.fFlag ++ textB x.fKey ++ encGSpan x.fSpan ++ encL encGPair x.fPairs ++ numB x.fSeens.length ++ (x.fSeens.take k).flatMap encGSeen).length + (encGSeen x.fSeens[k]).length ≤ far) := by
            show _ ≤ _
            have h1 := take_flat_len encGSeen x.fSeens k hll
            have h2 := HL.out
            have HY9 := HX9.out
            have HY10 := HX10.out
            have HY11 := HX11.out
            simp only [List.length_append]; omega
          have wkf := wk.free
          obtain ⟨b, off, cap, c, z1, z2, z3, hx, h5⟩ := rList_at rGSeen_lawful (by decide) h10.out k hll
          simp only [List.cons.injEq, Value.slice.injEq, and_true] at z1
          obtain ⟨e0, -, -⟩ := z1
          subst e0
          have hx' := rGSeen_lawful.keep hx ck.keep hw0.free
          have hlt2 := Nat.lt_of_lt_of_le z3 ck.keep.size
          have hrng : ∀ (j : Nat) (u : Value), c[j]? = some u → wr.cell? ⟨b, off + k * 3 + j, none⟩ = some u := fun j u hu => (ck.keep.cell (p := ⟨b, off + k * 3 + j, none⟩) z3 (hw0.free b z2)).trans (h5 j u hu)
          clear h5 hx
          obtain ⟨aeSpanFrom, ceSpanFrom, aeSpanTo, ceSpanTo, aePairs, cePairs, rfl, q0, q1, -⟩ := rGSeen_open hx'
          have x100 : wr.cell? ⟨b, off + k * 3, none⟩ = some (.slice aeSpanFrom x.fSeens[k].fSpan.fFrom.length ceSpanFrom) := hrng 0 _ rfl
          have x101 : wr.cell? ⟨b, off + k * 3 + 1, none⟩ = some (.slice aeSpanTo x.fSeens[k].fSpan.fTo.length ceSpanTo) := hrng 1 _ rfl
          have x102 : wr.cell? ⟨b, off + k * 3 + 2, none⟩ = some (.slice aePairs x.fSeens[k].fPairs.length cePairs) := hrng 2 _ rfl
          clear hrng hlt2 q0 q1
          generalize hv : x.fSeens[k] = v at *
          clear hv
          have wk3 := wk
          clear wk
          go_wp2_with fail
          go_fit (oSeen_c _ (w.heap.size + 1) gk _ _ v _ hx' wk3 HBk.out)
          rintro e w2 ⟨rfl, g2, wr2, ch2⟩
          clear hx' wk3 x100 x101 x102
          have ck2 := ck.trans ch2
          clear ck ch2 wkf
          go_wp2
          go_roundw
          case rel => exact ⟨k + 1, g2, by omega, by go_num, by rw [HS.out]; exact wr2, ck2⟩
          case measure => simp [intOf]; omega
        · obtain rfl : k = x.fSeens.length := by omega
          have e0 : x.fSeens.take x.fSeens.length = x.fSeens := List.take_of_length_le (by omega)
          rw [e0] at wk
          have wq10 : Wr wr 74 (w.heap.size + 1) gk (out ++ encI x.fKind ++ encI x.fEpoch ++ encU x.fTxn ++ encI x.fN ++ encI x.fFrom ++ encI x.fTo ++ encF x.fFlag ++ textB x.fKey ++ encGSpan x.fSpan ++ encL encGPair x.fPairs ++ encL encGSeen x.fSeens) (PB p w.heap.size) := by rw [show encL encGSeen x.fSeens = numB x.fSeens.length ++ x.fSeens.flatMap encGSeen from rfl, ← List.append_assoc]; exact wk
          clear wk
          obtain ⟨wo10, rfl⟩ : ∃ wo : World, wo = wr := ⟨_, rfl⟩
          have c0 := ck
          clear ck e0
          have x12 : wo10.cell? ⟨w.heap.size, 12, none⟩ = some (.slice aWrites x.fWrites.length cWrites) := (row0.go hw0 c0 (.inr rfl)).cell 12
          obtain ⟨hn11, -, hf11⟩ := rList_len h11.out
          have HF11 := Lib.hid hf11
          clear hf11 hn11
          have hlen11 : x.fWrites.length ≤ 9223372036854775807 := by have := HF11.out; have := far_len; unfold maxLen at this; omega
          have hwr11 : IntKind.u64.wrap (x.fWrites.length : Int) = (x.fWrites.length : Int) := by rw [IntKind.wrap_u64]; omega
          go_wp2_with fail
          go_fit (onumN _ (w.heap.size + 1) _ _ _ x.fWrites.length wq10 (by unfold isU64; omega) (by have := HL.out; have := HX9.out; have := HX10.out; have := HX11.out; (try simp only [List.length_append]); omega))
          rintro e w12 ⟨rfl, g12, wr12, ch⟩
          have c12 := c0.trans ch
          clear ch hwr11 wq10 x11 x12
          go_wp2_with fail
          go_loopw [6] (fun i wr => ∃ (k : Nat) (g' : Option Nat), k ≤ x.fWrites.length ∧ i = .int .i64 k ∧ Wr wr 74 (w.heap.size + 1) g' (out ++ encI x.fKind ++ encI x.fEpoch ++ encU x.fTxn ++ encI x.fN ++ encI x.fFrom ++ encI x.fTo ++ encF x.fFlag ++ textB x.fKey ++ encGSpan x.fSpan ++ encL encGPair x.fPairs ++ encL encGSeen x.fSeens ++ numB x.fWrites.length ++ (x.fWrites.take k).flatMap encGWrite) (PB p w.heap.size) ∧ Chain (w.heap.size + 1) ((w.alloc (.cells #[.int .i64 x.fKind, .int .i64 x.fEpoch, .int .u64 x.fTxn, .int .i64 x.fN, .int .i64 x.fFrom, .int .i64 x.fTo, .bool x.fFlag, .slice aKey x.fKey.length cKey, .slice aSpanFrom x.fSpan.fFrom.length cSpanFrom, .slice aSpanTo x.fSpan.fTo.length cSpanTo, .slice aPairs x.fPairs.length cPairs, .slice aSeens x.fSeens.length cSeens, .slice aWrites x.fWrites.length cWrites, .int .i64 x.fTable.fID, .string (strB x.fTable.fName), .slice aTableColumns x.fTable.fColumns.length cTableColumns, .slice aTableKey x.fTable.fKey.length cTableKey, .int .i64 x.fIndex.fID, .int .i64 x.fIndex.fTable, .string (strB x.fIndex.fName), .slice aIndexColumns x.fIndex.fColumns.length cIndexColumns, .bool x.fIndex.fUnique, .int .i64 x.fIndex.fState, .bool x.fIndex.fBad, .string (strB x.fName)] 50)).alloc (.cells #[.slice none 0 0] 74)) g wr g') (fun i _ => x.fWrites.length - (intOf i).toNat)
          case atStart => exact ⟨0, _, by omega, rfl, by simpa using wr12, c12⟩
          case round =>
            clear wr12 c12 c0
            obtain ⟨k, gk, hk, rfl, wk, ck⟩ := hrel
            have x12 : wr.cell? ⟨w.heap.size, 12, none⟩ = some (.slice aWrites x.fWrites.length cWrites) := (row0.go hw0 ck (.inr rfl)).cell 12
            have HF11 := HF11
            have hlen11 := hlen11
            by_cases hll : k < x.fWrites.length
            · have HS : Hid (out ++ encI x.fKind ++ encI x.fEpoch ++ encU x.fTxn ++ encI x.fN ++ encI x.fFrom ++ encI x.fTo ++ encF x.fFlag ++ textB x.fKey ++ encGSpan x.fSpan ++ encL encGPair x.fPairs ++ encL encGSeen x.fSeens ++ numB x.fWrites.length ++ (x.fWrites.take (k + 1)).flatMap encGWrite = out ++ encI x.fKind ++ encI x.fEpoch ++ encU x.fTxn ++ encI x.fN ++ encI x.fFrom ++ encI x.fTo ++ encF x.fFlag ++ textB x.fKey ++ encGSpan x.fSpan ++ encL encGPair x.fPairs ++ encL encGSeen x.fSeens ++ numB x.fWrites.length ++ (x.fWrites.take k).flatMap encGWrite ++ encGWrite x.fWrites[k]) := by
                show _ = _
                rw [take_flat encGWrite x.fWrites k hll]; simp only [List.append_assoc]
              have HBk : Hid ((out ++ encI x.fKind ++ encI x.fEpoch ++ encU x.fTxn ++ encI x.fN ++ encI x.fFrom ++ encI x.fTo ++ encF x.fFlag ++ textB x.fKey ++ encGSpan x.fSpan ++ encL encGPair x.fPairs ++ encL encGSeen x.fSeens ++ numB x.fWrites.length ++ (x.fWrites.take k).flatMap encGWrite).length + (encGWrite x.fWrites[k]).length ≤ far) := by
                show _ ≤ _
                have h1 := take_flat_len encGWrite x.fWrites k hll
                have h2 := HL.out
                have HY9 := HX9.out
                have HY10 := HX10.out
                have HY11 := HX11.out
                simp only [List.length_append]; omega
              have wkf := wk.free
              obtain ⟨b, off, cap, c, z1, z2, z3, hx, h5⟩ := rList_at rGWrite_lawful (by decide) h11.out k hll
              simp only [List.cons.injEq, Value.slice.injEq, and_true] at z1
              obtain ⟨e0, -, -⟩ := z1
              subst e0
              have hx' := rGWrite_lawful.keep hx ck.keep hw0.free
              have hlt2 := Nat.lt_of_lt_of_le z3 ck.keep.size
              have hrng : ∀ (j : Nat) (u : Value), c[j]? = some u → wr.cell? ⟨b, off + k * 3 + j, none⟩ = some u := fun j u hu => (ck.keep.cell (p := ⟨b, off + k * 3 + j, none⟩) z3 (hw0.free b z2)).trans (h5 j u hu)
              clear h5 hx
              obtain ⟨aeKey, ceKey, aeValue, ceValue, rfl, q0, q1, -⟩ := rGWrite_open hx'
              have x100 : wr.cell? ⟨b, off + k * 3, none⟩ = some (.slice aeKey x.fWrites[k].fKey.length ceKey) := hrng 0 _ rfl
              have x101 : wr.cell? ⟨b, off + k * 3 + 1, none⟩ = some (.slice aeValue x.fWrites[k].fValue.length ceValue) := hrng 1 _ rfl
              have x102 : wr.cell? ⟨b, off + k * 3 + 2, none⟩ = some (.bool x.fWrites[k].fDrop) := hrng 2 _ rfl
              clear hrng hlt2 q0 q1
              generalize hv : x.fWrites[k] = v at *
              clear hv
              have wk3 := wk
              clear wk
              go_wp2_with fail
              go_fit (oWrite_c _ (w.heap.size + 1) gk _ _ v _ hx' wk3 HBk.out)
              rintro e w2 ⟨rfl, g2, wr2, ch2⟩
              clear hx' wk3 x100 x101 x102
              have ck2 := ck.trans ch2
              clear ck ch2 wkf
              go_wp2
              go_roundw
              case rel => exact ⟨k + 1, g2, by omega, by go_num, by rw [HS.out]; exact wr2, ck2⟩
              case measure => simp [intOf]; omega
            · obtain rfl : k = x.fWrites.length := by omega
              have e0 : x.fWrites.take x.fWrites.length = x.fWrites := List.take_of_length_le (by omega)
              rw [e0] at wk
              have wq11 : Wr wr 74 (w.heap.size + 1) gk (out ++ encI x.fKind ++ encI x.fEpoch ++ encU x.fTxn ++ encI x.fN ++ encI x.fFrom ++ encI x.fTo ++ encF x.fFlag ++ textB x.fKey ++ encGSpan x.fSpan ++ encL encGPair x.fPairs ++ encL encGSeen x.fSeens ++ encL encGWrite x.fWrites) (PB p w.heap.size) := by rw [show encL encGWrite x.fWrites = numB x.fWrites.length ++ x.fWrites.flatMap encGWrite from rfl, ← List.append_assoc]; exact wk
              clear wk
              obtain ⟨wo11, rfl⟩ : ∃ wo : World, wo = wr := ⟨_, rfl⟩
              have c0 := ck
              clear ck e0
              have x13 : wo11.cell? ⟨w.heap.size, 13, none⟩ = some (.int .i64 x.fTable.fID) := (row0.go hw0 c0 (.inr rfl)).cell 13
              have x14 : wo11.cell? ⟨w.heap.size, 14, none⟩ = some (.string (strB x.fTable.fName)) := (row0.go hw0 c0 (.inr rfl)).cell 14
              have x15 : wo11.cell? ⟨w.heap.size, 15, none⟩ = some (.slice aTableColumns x.fTable.fColumns.length cTableColumns) := (row0.go hw0 c0 (.inr rfl)).cell 15
              have x16 : wo11.cell? ⟨w.heap.size, 16, none⟩ = some (.slice aTableKey x.fTable.fKey.length cTableKey) := (row0.go hw0 c0 (.inr rfl)).cell 16
              go_wp2_with fail
              go_fit (oTable_c _ (w.heap.size + 1) _ _ _ x.fTable _ (rGTable_lawful.go h12.out hw0 c0) wq11 (by have := HL.out; have := HX9.out; have := HX10.out; have := HX11.out; (try simp only [List.length_append]); omega))
              rintro e w13 ⟨rfl, g13, wr13, ch⟩
              have c13 := c0.trans ch
              clear ch c0 wq11 x12 x13 x14 x15 x16
              have c0 := c13
              clear c13
              have x17 : w13.cell? ⟨w.heap.size, 17, none⟩ = some (.int .i64 x.fIndex.fID) := (row0.go hw0 c0 (.inr rfl)).cell 17
              have x18 : w13.cell? ⟨w.heap.size, 18, none⟩ = some (.int .i64 x.fIndex.fTable) := (row0.go hw0 c0 (.inr rfl)).cell 18
              have x19 : w13.cell? ⟨w.heap.size, 19, none⟩ = some (.string (strB x.fIndex.fName)) := (row0.go hw0 c0 (.inr rfl)).cell 19
              have x20 : w13.cell? ⟨w.heap.size, 20, none⟩ = some (.slice aIndexColumns x.fIndex.fColumns.length cIndexColumns) := (row0.go hw0 c0 (.inr rfl)).cell 20
              have x21 : w13.cell? ⟨w.heap.size, 21, none⟩ = some (.bool x.fIndex.fUnique) := (row0.go hw0 c0 (.inr rfl)).cell 21
              have x22 : w13.cell? ⟨w.heap.size, 22, none⟩ = some (.int .i64 x.fIndex.fState) := (row0.go hw0 c0 (.inr rfl)).cell 22
              have x23 : w13.cell? ⟨w.heap.size, 23, none⟩ = some (.bool x.fIndex.fBad) := (row0.go hw0 c0 (.inr rfl)).cell 23
              go_wp2_with fail
              go_fit (oIndex_c _ (w.heap.size + 1) _ _ _ x.fIndex _ (rGIndex_lawful.go h13.out hw0 c0) wr13 (by have := HL.out; have := HX9.out; have := HX10.out; have := HX11.out; (try simp only [List.length_append]); omega))
              rintro e w14 ⟨rfl, g14, wr14, ch⟩
              have c14 := c0.trans ch
              clear ch c0 wr13 x17 x18 x19 x20 x21 x22 x23
              have c0 := c14
              clear c14
              have x24 : w14.cell? ⟨w.heap.size, 24, none⟩ = some (.string (strB x.fName)) := (row0.go hw0 c0 (.inr rfl)).cell 24
              go_wp2_with fail
              go_fit (otext_c _ (w.heap.size + 1) _ _ _ x.fName wr14 h14.out (by have := HL.out; have := HX9.out; have := HX10.out; have := HX11.out; (try simp only [List.length_append]); omega))
              rintro e w15 ⟨rfl, g15, wr15, ch⟩
              have c15 := c0.trans ch
              clear ch c0 wr14 x24
              have c0 := c15
              clear c15
              have HE : Hid (encGCommand x = out ++ encI x.fKind ++ encI x.fEpoch ++ encU x.fTxn ++ encI x.fN ++ encI x.fFrom ++ encI x.fTo ++ encF x.fFlag ++ textB x.fKey ++ encGSpan x.fSpan ++ encL encGPair x.fPairs ++ encL encGSeen x.fSeens ++ encL encGWrite x.fWrites ++ encGTable x.fTable ++ encGIndex x.fIndex ++ textB x.fName) := by show _ = _; rw [hout.out]; (try simp only [encGCommand, List.nil_append, List.append_assoc])
              generalize out ++ encI x.fKind ++ encI x.fEpoch ++ encU x.fTxn ++ encI x.fN ++ encI x.fFrom ++ encI x.fTo ++ encF x.fFlag ++ textB x.fKey ++ encGSpan x.fSpan ++ encL encGPair x.fPairs ++ encL encGSeen x.fSeens ++ encL encGWrite x.fWrites ++ encGTable x.fTable ++ encGIndex x.fIndex ++ textB x.fName = O at HE wr15
              obtain ⟨aw, capw, hcw, hfw, ownw, hgw, -⟩ := wr15.cell
              clear wr15 row0 hw0 HL
              go_wp2_with fail
              go_ret
              rw [HE.out]
              rw [hg.out] at c0
              exact made_of (by omega) (((Keep.refl Nix w).alloc _).alloc _) c0 ownw hgw
set_option maxRecDepth 100000 in
set_option maxHeartbeats 16000000 in
theorem oTReply_c (w : World) (p : Nat → Prop) (hp : ∀ b, p b → b < w.heap.size) (x : GReply) (cs : List Value) (hx : rGReply w p cs x) (hb : (encGReply x).length ≤ far) :
    Calls Try.prog 18 #[.agg cs.toArray] w (Made (encGReply x) w) := by
  obtain ⟨aPairs, cPairs, aTxns, cTxns, aCatalogTables, cCatalogTables, aCatalogIndexes, cCatalogIndexes, aRoutesSpans, cRoutesSpans, aRoutesCut, cRoutesCut, rfl, h0, h1, h2, h4, h5, h6, h7, -⟩ := rGReply_open hx
  obtain ⟨out, hout⟩ : ∃ out : List UInt8, Hid (out = []) := ⟨[], rfl⟩
  obtain ⟨g, hg⟩ : ∃ g : Option Nat, Hid (g = none) := ⟨none, rfl⟩
  have hw0 : Wr ((w.alloc (.cells #[.int .i64 x.fErr, .int .u64 x.fTxn, .int .i64 x.fN, .bool x.fFlag, .slice aPairs x.fPairs.length cPairs, .slice aTxns x.fTxns.length cTxns, .int .i64 x.fCatalog.fVersion, .int .i64 x.fCatalog.fNext, .slice aCatalogTables x.fCatalog.fTables.length cCatalogTables, .slice aCatalogIndexes x.fCatalog.fIndexes.length cCatalogIndexes, .int .i64 x.fRoutes.fEpoch, .int .i64 x.fRoutes.fBase, .slice aRoutesSpans x.fRoutes.fSpans.length cRoutesSpans, .int .i64 x.fRoutes.fMoving, .slice aRoutesCut x.fRoutes.fCut.length cRoutesCut] 57)).alloc (.cells #[.slice none 0 0] 74)) 74 (w.heap.size + 1) g out (PB p w.heap.size) := by
    rw [hout.out, hg.out]
    have := Wr.new (w.alloc (.cells #[.int .i64 x.fErr, .int .u64 x.fTxn, .int .i64 x.fN, .bool x.fFlag, .slice aPairs x.fPairs.length cPairs, .slice aTxns x.fTxns.length cTxns, .int .i64 x.fCatalog.fVersion, .int .i64 x.fCatalog.fNext, .slice aCatalogTables x.fCatalog.fTables.length cCatalogTables, .slice aCatalogIndexes x.fCatalog.fIndexes.length cCatalogIndexes, .int .i64 x.fRoutes.fEpoch, .int .i64 x.fRoutes.fBase, .slice aRoutesSpans x.fRoutes.fSpans.length cRoutesSpans, .int .i64 x.fRoutes.fMoving, .slice aRoutesCut x.fRoutes.fCut.length cRoutesCut] 57)) 74 (PB p w.heap.size) (fun b hb => by
      rcases hb with hb | rfl
      · have := hp b hb; simp; omega
      · simp)
    simpa using this
  have row0 : RowIs ((w.alloc (.cells #[.int .i64 x.fErr, .int .u64 x.fTxn, .int .i64 x.fN, .bool x.fFlag, .slice aPairs x.fPairs.length cPairs, .slice aTxns x.fTxns.length cTxns, .int .i64 x.fCatalog.fVersion, .int .i64 x.fCatalog.fNext, .slice aCatalogTables x.fCatalog.fTables.length cCatalogTables, .slice aCatalogIndexes x.fCatalog.fIndexes.length cCatalogIndexes, .int .i64 x.fRoutes.fEpoch, .int .i64 x.fRoutes.fBase, .slice aRoutesSpans x.fRoutes.fSpans.length cRoutesSpans, .int .i64 x.fRoutes.fMoving, .slice aRoutesCut x.fRoutes.fCut.length cRoutesCut] 57)).alloc (.cells #[.slice none 0 0] 74)) w.heap.size 57 [.int .i64 x.fErr, .int .u64 x.fTxn, .int .i64 x.fN, .bool x.fFlag, .slice aPairs x.fPairs.length cPairs, .slice aTxns x.fTxns.length cTxns, .int .i64 x.fCatalog.fVersion, .int .i64 x.fCatalog.fNext, .slice aCatalogTables x.fCatalog.fTables.length cCatalogTables, .slice aCatalogIndexes x.fCatalog.fIndexes.length cCatalogIndexes, .int .i64 x.fRoutes.fEpoch, .int .i64 x.fRoutes.fBase, .slice aRoutesSpans x.fRoutes.fSpans.length cRoutesSpans, .int .i64 x.fRoutes.fMoving, .slice aRoutesCut x.fRoutes.fCut.length cRoutesCut] := (RowIs.alloc w _ _).keep ((Keep.refl Nix _).alloc _) id
  have hiErr : IntKind.i64.wrap x.fErr = x.fErr := by rw [IntKind.wrap_i64]; have := h0; unfold isI64 at this; omega
  replace h0 := Lib.hid h0
  replace h1 := Lib.hid h1
  replace h2 := Lib.hid h2
  replace h4 := (rList_lawful rGPair_lawful).nix ((rList_lawful rGPair_lawful).box h4 (.cells #[.int .i64 x.fErr, .int .u64 x.fTxn, .int .i64 x.fN, .bool x.fFlag, .slice aPairs x.fPairs.length cPairs, .slice aTxns x.fTxns.length cTxns, .int .i64 x.fCatalog.fVersion, .int .i64 x.fCatalog.fNext, .slice aCatalogTables x.fCatalog.fTables.length cCatalogTables, .slice aCatalogIndexes x.fCatalog.fIndexes.length cCatalogIndexes, .int .i64 x.fRoutes.fEpoch, .int .i64 x.fRoutes.fBase, .slice aRoutesSpans x.fRoutes.fSpans.length cRoutesSpans, .int .i64 x.fRoutes.fMoving, .slice aRoutesCut x.fRoutes.fCut.length cRoutesCut] 57)) ((Keep.refl Nix _).alloc (.cells #[.slice none 0 0] 74))
  replace h4 := Lib.hid h4
  replace h5 := (rList_lawful (rInt_lawful _)).nix ((rList_lawful (rInt_lawful _)).box h5 (.cells #[.int .i64 x.fErr, .int .u64 x.fTxn, .int .i64 x.fN, .bool x.fFlag, .slice aPairs x.fPairs.length cPairs, .slice aTxns x.fTxns.length cTxns, .int .i64 x.fCatalog.fVersion, .int .i64 x.fCatalog.fNext, .slice aCatalogTables x.fCatalog.fTables.length cCatalogTables, .slice aCatalogIndexes x.fCatalog.fIndexes.length cCatalogIndexes, .int .i64 x.fRoutes.fEpoch, .int .i64 x.fRoutes.fBase, .slice aRoutesSpans x.fRoutes.fSpans.length cRoutesSpans, .int .i64 x.fRoutes.fMoving, .slice aRoutesCut x.fRoutes.fCut.length cRoutesCut] 57)) ((Keep.refl Nix _).alloc (.cells #[.slice none 0 0] 74))
  replace h5 := Lib.hid h5
  replace h6 := rGCatalog_lawful.nix (rGCatalog_lawful.box h6 (.cells #[.int .i64 x.fErr, .int .u64 x.fTxn, .int .i64 x.fN, .bool x.fFlag, .slice aPairs x.fPairs.length cPairs, .slice aTxns x.fTxns.length cTxns, .int .i64 x.fCatalog.fVersion, .int .i64 x.fCatalog.fNext, .slice aCatalogTables x.fCatalog.fTables.length cCatalogTables, .slice aCatalogIndexes x.fCatalog.fIndexes.length cCatalogIndexes, .int .i64 x.fRoutes.fEpoch, .int .i64 x.fRoutes.fBase, .slice aRoutesSpans x.fRoutes.fSpans.length cRoutesSpans, .int .i64 x.fRoutes.fMoving, .slice aRoutesCut x.fRoutes.fCut.length cRoutesCut] 57)) ((Keep.refl Nix _).alloc (.cells #[.slice none 0 0] 74))
  replace h6 := Lib.hid h6
  replace h7 := rGRoutes_lawful.nix (rGRoutes_lawful.box h7 (.cells #[.int .i64 x.fErr, .int .u64 x.fTxn, .int .i64 x.fN, .bool x.fFlag, .slice aPairs x.fPairs.length cPairs, .slice aTxns x.fTxns.length cTxns, .int .i64 x.fCatalog.fVersion, .int .i64 x.fCatalog.fNext, .slice aCatalogTables x.fCatalog.fTables.length cCatalogTables, .slice aCatalogIndexes x.fCatalog.fIndexes.length cCatalogIndexes, .int .i64 x.fRoutes.fEpoch, .int .i64 x.fRoutes.fBase, .slice aRoutesSpans x.fRoutes.fSpans.length cRoutesSpans, .int .i64 x.fRoutes.fMoving, .slice aRoutesCut x.fRoutes.fCut.length cRoutesCut] 57)) ((Keep.refl Nix _).alloc (.cells #[.slice none 0 0] 74))
  replace h7 := Lib.hid h7
  have HL : Hid (out.length + ((encI x.fErr).length + (encU x.fTxn).length + (encI x.fN).length + (encF x.fFlag).length + (encL encGPair x.fPairs).length + (encL encU x.fTxns).length + (encGCatalog x.fCatalog).length + (encGRoutes x.fRoutes).length) ≤ far) := by
    show _ ≤ _
    rw [hout.out]
    simp only [encGReply, List.length_append] at hb; simp only [List.length_nil]; omega
  have c0 : Chain (w.heap.size + 1) ((w.alloc (.cells #[.int .i64 x.fErr, .int .u64 x.fTxn, .int .i64 x.fN, .bool x.fFlag, .slice aPairs x.fPairs.length cPairs, .slice aTxns x.fTxns.length cTxns, .int .i64 x.fCatalog.fVersion, .int .i64 x.fCatalog.fNext, .slice aCatalogTables x.fCatalog.fTables.length cCatalogTables, .slice aCatalogIndexes x.fCatalog.fIndexes.length cCatalogIndexes, .int .i64 x.fRoutes.fEpoch, .int .i64 x.fRoutes.fBase, .slice aRoutesSpans x.fRoutes.fSpans.length cRoutesSpans, .int .i64 x.fRoutes.fMoving, .slice aRoutesCut x.fRoutes.fCut.length cRoutesCut] 57)).alloc (.cells #[.slice none 0 0] 74)) g ((w.alloc (.cells #[.int .i64 x.fErr, .int .u64 x.fTxn, .int .i64 x.fN, .bool x.fFlag, .slice aPairs x.fPairs.length cPairs, .slice aTxns x.fTxns.length cTxns, .int .i64 x.fCatalog.fVersion, .int .i64 x.fCatalog.fNext, .slice aCatalogTables x.fCatalog.fTables.length cCatalogTables, .slice aCatalogIndexes x.fCatalog.fIndexes.length cCatalogIndexes, .int .i64 x.fRoutes.fEpoch, .int .i64 x.fRoutes.fBase, .slice aRoutesSpans x.fRoutes.fSpans.length cRoutesSpans, .int .i64 x.fRoutes.fMoving, .slice aRoutesCut x.fRoutes.fCut.length cRoutesCut] 57)).alloc (.cells #[.slice none 0 0] 74)) g := Chain.refl _ _ _
  clear hb hx
  go_enter Try.func18, Try.ntmps18
  have HX4 : Hid ((encL encGPair x.fPairs).length = (numB x.fPairs.length).length + (x.fPairs.flatMap encGPair).length) := List.length_append
  have HX5 : Hid ((encL encU x.fTxns).length = (numB x.fTxns.length).length + (x.fTxns.flatMap encU).length) := List.length_append
  go_wp2_with fail
  go_fit (oint_e _ (w.heap.size + 1) _ _ _ x.fErr hw0 h0.out (by have := HL.out; have := HX4.out; have := HX5.out; (try simp only [List.length_append]); omega))
  rintro e w1 ⟨rfl, g1, wr1, ch⟩
  have c1 := c0.trans ch
  clear ch c0
  have c0 := c1
  clear c1
  have x1 : w1.cell? ⟨w.heap.size, 1, none⟩ = some (.int .u64 x.fTxn) := (row0.go hw0 c0 (.inr rfl)).cell 1
  go_wp2_with fail
  go_fit (onum_e _ (w.heap.size + 1) _ _ _ x.fTxn wr1 h1.out (by have := HL.out; have := HX4.out; have := HX5.out; (try simp only [List.length_append]); omega))
  rintro e w2 ⟨rfl, g2, wr2, ch⟩
  have c2 := c0.trans ch
  clear ch c0 wr1 x1
  have c0 := c2
  clear c2
  have x2 : w2.cell? ⟨w.heap.size, 2, none⟩ = some (.int .i64 x.fN) := (row0.go hw0 c0 (.inr rfl)).cell 2
  go_wp2_with fail
  go_fit (oint_e _ (w.heap.size + 1) _ _ _ x.fN wr2 h2.out (by have := HL.out; have := HX4.out; have := HX5.out; (try simp only [List.length_append]); omega))
  rintro e w3 ⟨rfl, g3, wr3, ch⟩
  have c3 := c0.trans ch
  clear ch c0 wr2 x2
  have c0 := c3
  clear c3
  have x3 : w3.cell? ⟨w.heap.size, 3, none⟩ = some (.bool x.fFlag) := (row0.go hw0 c0 (.inr rfl)).cell 3
  go_wp2_with fail
  go_fit (oflag_c _ (w.heap.size + 1) _ _ _ x.fFlag wr3 (by have := HL.out; have := HX4.out; have := HX5.out; (try simp only [List.length_append]); omega))
  rintro e w4 ⟨rfl, g4, wr4, ch⟩
  have c4 := c0.trans ch
  clear ch c0 wr3 x3
  have c0 := c4
  clear c4
  have x4 : w4.cell? ⟨w.heap.size, 4, none⟩ = some (.slice aPairs x.fPairs.length cPairs) := (row0.go hw0 c0 (.inr rfl)).cell 4
  obtain ⟨hn4, -, hf4⟩ := rList_len h4.out
  have HF4 := Lib.hid hf4
  clear hf4 hn4
  have hlen4 : x.fPairs.length ≤ 9223372036854775807 := by have := HF4.out; have := far_len; unfold maxLen at this; omega
  have hwr4 : IntKind.u64.wrap (x.fPairs.length : Int) = (x.fPairs.length : Int) := by rw [IntKind.wrap_u64]; omega
  go_wp2_with fail
  go_fit (onumN _ (w.heap.size + 1) _ _ _ x.fPairs.length wr4 (by unfold isU64; omega) (by have := HL.out; have := HX4.out; have := HX5.out; (try simp only [List.length_append]); omega))
  rintro e w5 ⟨rfl, g5, wr5, ch⟩
  have c5 := c0.trans ch
  clear ch hwr4 wr4 x4
  go_wp2_with fail
  go_loopw [4] (fun i wr => ∃ (k : Nat) (g' : Option Nat), k ≤ x.fPairs.length ∧ i = .int .i64 k ∧ Wr wr 74 (w.heap.size + 1) g' (out ++ encI x.fErr ++ encU x.fTxn ++ encI x.fN ++ encF x.fFlag ++ numB x.fPairs.length ++ (x.fPairs.take k).flatMap encGPair) (PB p w.heap.size) ∧ Chain (w.heap.size + 1) ((w.alloc (.cells #[.int .i64 x.fErr, .int .u64 x.fTxn, .int .i64 x.fN, .bool x.fFlag, .slice aPairs x.fPairs.length cPairs, .slice aTxns x.fTxns.length cTxns, .int .i64 x.fCatalog.fVersion, .int .i64 x.fCatalog.fNext, .slice aCatalogTables x.fCatalog.fTables.length cCatalogTables, .slice aCatalogIndexes x.fCatalog.fIndexes.length cCatalogIndexes, .int .i64 x.fRoutes.fEpoch, .int .i64 x.fRoutes.fBase, .slice aRoutesSpans x.fRoutes.fSpans.length cRoutesSpans, .int .i64 x.fRoutes.fMoving, .slice aRoutesCut x.fRoutes.fCut.length cRoutesCut] 57)).alloc (.cells #[.slice none 0 0] 74)) g wr g') (fun i _ => x.fPairs.length - (intOf i).toNat)
  case atStart => exact ⟨0, _, by omega, rfl, by simpa using wr5, c5⟩
  case round =>
    clear wr5 c5 c0
    obtain ⟨k, gk, hk, rfl, wk, ck⟩ := hrel
    have x4 : wr.cell? ⟨w.heap.size, 4, none⟩ = some (.slice aPairs x.fPairs.length cPairs) := (row0.go hw0 ck (.inr rfl)).cell 4
    have HF4 := HF4
    have hlen4 := hlen4
    by_cases hll : k < x.fPairs.length
    · have HS : Hid (out ++ encI x.fErr ++ encU x.fTxn ++ encI x.fN ++ encF x.fFlag ++ numB x.fPairs.length ++ (x.fPairs.take (k + 1)).flatMap encGPair = out ++ encI x.fErr ++ encU x.fTxn ++ encI x.fN ++ encF x.fFlag ++ numB x.fPairs.length ++ (x.fPairs.take k).flatMap encGPair ++ encGPair x.fPairs[k]) := by
        show _ = _
        rw [take_flat encGPair x.fPairs k hll]; simp only [List.append_assoc]
      have HBk : Hid ((out ++ encI x.fErr ++ encU x.fTxn ++ encI x.fN ++ encF x.fFlag ++ numB x.fPairs.length ++ (x.fPairs.take k).flatMap encGPair).length + (encGPair x.fPairs[k]).length ≤ far) := by
        show _ ≤ _
        have h1 := take_flat_len encGPair x.fPairs k hll
        have h2 := HL.out
        have HY4 := HX4.out
        have HY5 := HX5.out
        simp only [List.length_append]; omega
      have wkf := wk.free
      obtain ⟨b, off, cap, c, z1, z2, z3, hx, h5⟩ := rList_at rGPair_lawful (by decide) h4.out k hll
      simp only [List.cons.injEq, Value.slice.injEq, and_true] at z1
      obtain ⟨e0, -, -⟩ := z1
      subst e0
      have hx' := rGPair_lawful.keep hx ck.keep hw0.free
      have hlt2 := Nat.lt_of_lt_of_le z3 ck.keep.size
      have hrng : ∀ (j : Nat) (u : Value), c[j]? = some u → wr.cell? ⟨b, off + k * 3 + j, none⟩ = some u := fun j u hu => (ck.keep.cell (p := ⟨b, off + k * 3 + j, none⟩) z3 (hw0.free b z2)).trans (h5 j u hu)
      clear h5 hx
      obtain ⟨aeKey, ceKey, aeValue, ceValue, rfl, q0, q1, q2, -⟩ := rGPair_open hx'
      have x100 : wr.cell? ⟨b, off + k * 3, none⟩ = some (.slice aeKey x.fPairs[k].fKey.length ceKey) := hrng 0 _ rfl
      have x101 : wr.cell? ⟨b, off + k * 3 + 1, none⟩ = some (.slice aeValue x.fPairs[k].fValue.length ceValue) := hrng 1 _ rfl
      have x102 : wr.cell? ⟨b, off + k * 3 + 2, none⟩ = some (.int .i64 x.fPairs[k].fVersion) := hrng 2 _ rfl
      clear hrng hlt2 q0 q1 q2
      generalize hv : x.fPairs[k] = v at *
      clear hv
      have wk3 := wk
      clear wk
      go_wp2_with fail
      go_fit (oPair_c _ (w.heap.size + 1) gk _ _ v _ hx' wk3 HBk.out)
      rintro e w2 ⟨rfl, g2, wr2, ch2⟩
      clear hx' wk3 x100 x101 x102
      have ck2 := ck.trans ch2
      clear ck ch2 wkf
      go_wp2
      go_roundw
      case rel => exact ⟨k + 1, g2, by omega, by go_num, by rw [HS.out]; exact wr2, ck2⟩
      case measure => simp [intOf]; omega
    · obtain rfl : k = x.fPairs.length := by omega
      have e0 : x.fPairs.take x.fPairs.length = x.fPairs := List.take_of_length_le (by omega)
      rw [e0] at wk
      have wq4 : Wr wr 74 (w.heap.size + 1) gk (out ++ encI x.fErr ++ encU x.fTxn ++ encI x.fN ++ encF x.fFlag ++ encL encGPair x.fPairs) (PB p w.heap.size) := by rw [show encL encGPair x.fPairs = numB x.fPairs.length ++ x.fPairs.flatMap encGPair from rfl, ← List.append_assoc]; exact wk
      clear wk
      obtain ⟨wo4, rfl⟩ : ∃ wo : World, wo = wr := ⟨_, rfl⟩
      have c0 := ck
      clear ck e0
      have x5 : wo4.cell? ⟨w.heap.size, 5, none⟩ = some (.slice aTxns x.fTxns.length cTxns) := (row0.go hw0 c0 (.inr rfl)).cell 5
      obtain ⟨hn5, -, hf5⟩ := rList_len h5.out
      have HF5 := Lib.hid hf5
      clear hf5 hn5
      have hlen5 : x.fTxns.length ≤ 9223372036854775807 := by have := HF5.out; have := far_len; unfold maxLen at this; omega
      have hwr5 : IntKind.u64.wrap (x.fTxns.length : Int) = (x.fTxns.length : Int) := by rw [IntKind.wrap_u64]; omega
      go_wp2_with fail
      go_fit (onumN _ (w.heap.size + 1) _ _ _ x.fTxns.length wq4 (by unfold isU64; omega) (by have := HL.out; have := HX4.out; have := HX5.out; (try simp only [List.length_append]); omega))
      rintro e w6 ⟨rfl, g6, wr6, ch⟩
      have c6 := c0.trans ch
      clear ch hwr5 wq4 x4 x5
      go_wp2_with fail
      go_loopw [5] (fun i wr => ∃ (k : Nat) (g' : Option Nat), k ≤ x.fTxns.length ∧ i = .int .i64 k ∧ Wr wr 74 (w.heap.size + 1) g' (out ++ encI x.fErr ++ encU x.fTxn ++ encI x.fN ++ encF x.fFlag ++ encL encGPair x.fPairs ++ numB x.fTxns.length ++ (x.fTxns.take k).flatMap encU) (PB p w.heap.size) ∧ Chain (w.heap.size + 1) ((w.alloc (.cells #[.int .i64 x.fErr, .int .u64 x.fTxn, .int .i64 x.fN, .bool x.fFlag, .slice aPairs x.fPairs.length cPairs, .slice aTxns x.fTxns.length cTxns, .int .i64 x.fCatalog.fVersion, .int .i64 x.fCatalog.fNext, .slice aCatalogTables x.fCatalog.fTables.length cCatalogTables, .slice aCatalogIndexes x.fCatalog.fIndexes.length cCatalogIndexes, .int .i64 x.fRoutes.fEpoch, .int .i64 x.fRoutes.fBase, .slice aRoutesSpans x.fRoutes.fSpans.length cRoutesSpans, .int .i64 x.fRoutes.fMoving, .slice aRoutesCut x.fRoutes.fCut.length cRoutesCut] 57)).alloc (.cells #[.slice none 0 0] 74)) g wr g') (fun i _ => x.fTxns.length - (intOf i).toNat)
      case atStart => exact ⟨0, _, by omega, rfl, by simpa using wr6, c6⟩
      case round =>
        clear wr6 c6 c0
        obtain ⟨k, gk, hk, rfl, wk, ck⟩ := hrel
        have x5 : wr.cell? ⟨w.heap.size, 5, none⟩ = some (.slice aTxns x.fTxns.length cTxns) := (row0.go hw0 ck (.inr rfl)).cell 5
        have HF5 := HF5
        have hlen5 := hlen5
        by_cases hll : k < x.fTxns.length
        · have HS : Hid (out ++ encI x.fErr ++ encU x.fTxn ++ encI x.fN ++ encF x.fFlag ++ encL encGPair x.fPairs ++ numB x.fTxns.length ++ (x.fTxns.take (k + 1)).flatMap encU = out ++ encI x.fErr ++ encU x.fTxn ++ encI x.fN ++ encF x.fFlag ++ encL encGPair x.fPairs ++ numB x.fTxns.length ++ (x.fTxns.take k).flatMap encU ++ encU x.fTxns[k]) := by
            show _ = _
            rw [take_flat encU x.fTxns k hll]; simp only [List.append_assoc]
          have HBk : Hid ((out ++ encI x.fErr ++ encU x.fTxn ++ encI x.fN ++ encF x.fFlag ++ encL encGPair x.fPairs ++ numB x.fTxns.length ++ (x.fTxns.take k).flatMap encU).length + (encU x.fTxns[k]).length ≤ far) := by
            show _ ≤ _
            have h1 := take_flat_len encU x.fTxns k hll
            have h2 := HL.out
            have HY4 := HX4.out
            have HY5 := HX5.out
            simp only [List.length_append]; omega
          have wkf := wk.free
          obtain ⟨b, off, e0, hcell, hv0⟩ := rInt_cell h5.out ck.keep hw0.free k hll
          subst e0
          have HV : Hid (isU64 x.fTxns[k]) := isU64_wf hv0
          clear hv0
          generalize x.fTxns[k] = v at hcell HBk HS HV
          go_wp2_with fail
          go_fit (onum_e wr (w.heap.size + 1) gk _ _ v wk HV.out HBk.out)
          rintro e w2 ⟨rfl, g2, wr2, ch2⟩
          clear wk hcell
          have ck2 := ck.trans ch2
          clear ck ch2 wkf
          go_wp2
          go_roundw
          case rel => exact ⟨k + 1, g2, by omega, by go_num, by rw [HS.out]; exact wr2, ck2⟩
          case measure => simp [intOf]; omega
        · obtain rfl : k = x.fTxns.length := by omega
          have e0 : x.fTxns.take x.fTxns.length = x.fTxns := List.take_of_length_le (by omega)
          rw [e0] at wk
          have wq5 : Wr wr 74 (w.heap.size + 1) gk (out ++ encI x.fErr ++ encU x.fTxn ++ encI x.fN ++ encF x.fFlag ++ encL encGPair x.fPairs ++ encL encU x.fTxns) (PB p w.heap.size) := by rw [show encL encU x.fTxns = numB x.fTxns.length ++ x.fTxns.flatMap encU from rfl, ← List.append_assoc]; exact wk
          clear wk
          obtain ⟨wo5, rfl⟩ : ∃ wo : World, wo = wr := ⟨_, rfl⟩
          have c0 := ck
          clear ck e0
          have x6 : wo5.cell? ⟨w.heap.size, 6, none⟩ = some (.int .i64 x.fCatalog.fVersion) := (row0.go hw0 c0 (.inr rfl)).cell 6
          have x7 : wo5.cell? ⟨w.heap.size, 7, none⟩ = some (.int .i64 x.fCatalog.fNext) := (row0.go hw0 c0 (.inr rfl)).cell 7
          have x8 : wo5.cell? ⟨w.heap.size, 8, none⟩ = some (.slice aCatalogTables x.fCatalog.fTables.length cCatalogTables) := (row0.go hw0 c0 (.inr rfl)).cell 8
          have x9 : wo5.cell? ⟨w.heap.size, 9, none⟩ = some (.slice aCatalogIndexes x.fCatalog.fIndexes.length cCatalogIndexes) := (row0.go hw0 c0 (.inr rfl)).cell 9
          go_wp2_with fail
          go_fit (oCatalog_c _ (w.heap.size + 1) _ _ _ x.fCatalog _ (rGCatalog_lawful.go h6.out hw0 c0) wq5 (by have := HL.out; have := HX4.out; have := HX5.out; (try simp only [List.length_append]); omega))
          rintro e w7 ⟨rfl, g7, wr7, ch⟩
          have c7 := c0.trans ch
          clear ch c0 wq5 x5 x6 x7 x8 x9
          have c0 := c7
          clear c7
          have x10 : w7.cell? ⟨w.heap.size, 10, none⟩ = some (.int .i64 x.fRoutes.fEpoch) := (row0.go hw0 c0 (.inr rfl)).cell 10
          have x11 : w7.cell? ⟨w.heap.size, 11, none⟩ = some (.int .i64 x.fRoutes.fBase) := (row0.go hw0 c0 (.inr rfl)).cell 11
          have x12 : w7.cell? ⟨w.heap.size, 12, none⟩ = some (.slice aRoutesSpans x.fRoutes.fSpans.length cRoutesSpans) := (row0.go hw0 c0 (.inr rfl)).cell 12
          have x13 : w7.cell? ⟨w.heap.size, 13, none⟩ = some (.int .i64 x.fRoutes.fMoving) := (row0.go hw0 c0 (.inr rfl)).cell 13
          have x14 : w7.cell? ⟨w.heap.size, 14, none⟩ = some (.slice aRoutesCut x.fRoutes.fCut.length cRoutesCut) := (row0.go hw0 c0 (.inr rfl)).cell 14
          go_wp2_with fail
          go_fit (oRoutes_c _ (w.heap.size + 1) _ _ _ x.fRoutes _ (rGRoutes_lawful.go h7.out hw0 c0) wr7 (by have := HL.out; have := HX4.out; have := HX5.out; (try simp only [List.length_append]); omega))
          rintro e w8 ⟨rfl, g8, wr8, ch⟩
          have c8 := c0.trans ch
          clear ch c0 wr7 x10 x11 x12 x13 x14
          have c0 := c8
          clear c8
          have HE : Hid (encGReply x = out ++ encI x.fErr ++ encU x.fTxn ++ encI x.fN ++ encF x.fFlag ++ encL encGPair x.fPairs ++ encL encU x.fTxns ++ encGCatalog x.fCatalog ++ encGRoutes x.fRoutes) := by show _ = _; rw [hout.out]; (try simp only [encGReply, List.nil_append, List.append_assoc])
          generalize out ++ encI x.fErr ++ encU x.fTxn ++ encI x.fN ++ encF x.fFlag ++ encL encGPair x.fPairs ++ encL encU x.fTxns ++ encGCatalog x.fCatalog ++ encGRoutes x.fRoutes = O at HE wr8
          obtain ⟨aw, capw, hcw, hfw, ownw, hgw, -⟩ := wr8.cell
          clear wr8 row0 hw0 HL
          go_wp2_with fail
          go_ret
          rw [HE.out]
          rw [hg.out] at c0
          exact made_of (by omega) (((Keep.refl Nix w).alloc _).alloc _) c0 ownw hgw
end Go.Proofs.Ytabgbleldbapbaa
