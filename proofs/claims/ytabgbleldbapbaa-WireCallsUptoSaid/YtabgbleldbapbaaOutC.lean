/- THE WALKS of the reference's writer on lists and structs. Printed by gen5.py. -/
import Derived.Test.YtabgbleldbapbaaOutB
import Derived.Test.YtabgbleldbapbaaOutT
namespace Go.Proofs.Ytabgbleldbapbaa
open Go.RowKit

set_option maxRecDepth 100000 in
set_option maxHeartbeats 16000000 in
theorem oTCall_c (w : World) (p : Nat → Prop) (hp : ∀ b, p b → b < w.heap.size) (x : GCall) (cs : List Value) (hx : rGCall w p cs x) (hb : (encGCall x).length ≤ far) :
    Calls Try.prog 14 #[.agg cs.toArray] w (Made (encGCall x) w) := by
  obtain ⟨aData, cData, rfl, h0, h1, h2, -⟩ := rGCall_open hx
  obtain ⟨out, hout⟩ : ∃ out : List UInt8, Hid (out = []) := ⟨[], rfl⟩
  obtain ⟨g, hg⟩ : ∃ g : Option Nat, Hid (g = none) := ⟨none, rfl⟩
  have hw0 : Wr ((w.alloc (.cells #[.int .u64 x.fClient, .int .u64 x.fSeq, .slice aData x.fData.length cData] 43)).alloc (.cells #[.slice none 0 0] 74)) 74 (w.heap.size + 1) g out (PB p w.heap.size) := by
    rw [hout.out, hg.out]
    have := Wr.new (w.alloc (.cells #[.int .u64 x.fClient, .int .u64 x.fSeq, .slice aData x.fData.length cData] 43)) 74 (PB p w.heap.size) (fun b hb => by
      rcases hb with hb | rfl
      · have := hp b hb; simp; omega
      · simp)
    simpa using this
  have row0 : RowIs ((w.alloc (.cells #[.int .u64 x.fClient, .int .u64 x.fSeq, .slice aData x.fData.length cData] 43)).alloc (.cells #[.slice none 0 0] 74)) w.heap.size 43 [.int .u64 x.fClient, .int .u64 x.fSeq, .slice aData x.fData.length cData] := (RowIs.alloc w _ _).keep ((Keep.refl Nix _).alloc _) id
  replace h0 := Lib.hid h0
  replace h1 := Lib.hid h1
  replace h2 := And.intro ((h2.1.box (.cells #[.int .u64 x.fClient, .int .u64 x.fSeq, .slice aData x.fData.length cData] 43)).keep ((Keep.refl Nix _).alloc (.cells #[.slice none 0 0] 74)) (fun _ _ h => h)) h2.2
  replace h2 := Lib.hid h2
  have HL : Hid (out.length + ((encU x.fClient).length + (encU x.fSeq).length + (textB x.fData).length) ≤ far) := by
    show _ ≤ _
    rw [hout.out]
    simp only [encGCall, List.length_append] at hb; simp only [List.length_nil]; omega
  have c0 : Chain (w.heap.size + 1) ((w.alloc (.cells #[.int .u64 x.fClient, .int .u64 x.fSeq, .slice aData x.fData.length cData] 43)).alloc (.cells #[.slice none 0 0] 74)) g ((w.alloc (.cells #[.int .u64 x.fClient, .int .u64 x.fSeq, .slice aData x.fData.length cData] 43)).alloc (.cells #[.slice none 0 0] 74)) g := Chain.refl _ _ _
  clear hb hx
  go_enter Try.func14, Try.ntmps14
  go_wp2_with fail
  go_fit (onum_e _ (w.heap.size + 1) _ _ _ x.fClient hw0 h0.out (by have := HL.out; (try simp only [List.length_append]); omega))
  rintro e w1 ⟨rfl, g1, wr1, ch⟩
  have c1 := c0.trans ch
  clear ch c0
  have c0 := c1
  clear c1
  have x1 : w1.cell? ⟨w.heap.size, 1, none⟩ = some (.int .u64 x.fSeq) := (row0.go hw0 c0 (.inr rfl)).cell 1
  go_wp2_with fail
  go_fit (onum_e _ (w.heap.size + 1) _ _ _ x.fSeq wr1 h1.out (by have := HL.out; (try simp only [List.length_append]); omega))
  rintro e w2 ⟨rfl, g2, wr2, ch⟩
  have c2 := c0.trans ch
  clear ch c0 wr1 x1
  have c0 := c2
  clear c2
  have x2 : w2.cell? ⟨w.heap.size, 2, none⟩ = some (.slice aData x.fData.length cData) := (row0.go hw0 c0 (.inr rfl)).cell 2
  go_wp2_with fail
  go_fit (obytes_c _ (w.heap.size + 1) _ _ _ aData _ cData x.fData wr2 rfl (h2.out.1.go hw0 c0) (by have := h2.out.2.2; have := far_len; omega) (by have := HL.out; (try simp only [List.length_append]); omega))
  rintro e w3 ⟨rfl, g3, wr3, ch⟩
  have c3 := c0.trans ch
  clear ch c0 wr2 x2
  have c0 := c3
  clear c3
  have HE : Hid (encGCall x = out ++ encU x.fClient ++ encU x.fSeq ++ textB x.fData) := by show _ = _; rw [hout.out]; (try simp only [encGCall, List.nil_append, List.append_assoc])
  generalize out ++ encU x.fClient ++ encU x.fSeq ++ textB x.fData = O at HE wr3
  obtain ⟨aw, capw, hcw, hfw, ownw, hgw, -⟩ := wr3.cell
  clear wr3 row0 hw0 HL
  go_wp2_with fail
  go_ret
  rw [HE.out]
  rw [hg.out] at c0
  exact made_of (by omega) (((Keep.refl Nix w).alloc _).alloc _) c0 ownw hgw
set_option maxRecDepth 100000 in
set_option maxHeartbeats 16000000 in
theorem oTCatalog_c (w : World) (p : Nat → Prop) (hp : ∀ b, p b → b < w.heap.size) (x : GCatalog) (cs : List Value) (hx : rGCatalog w p cs x) (hb : (encGCatalog x).length ≤ far) :
    Calls Try.prog 9 #[.agg cs.toArray] w (Made (encGCatalog x) w) := by
  obtain ⟨aTables, cTables, aIndexes, cIndexes, rfl, h0, h1, h2, h3, -⟩ := rGCatalog_open hx
  obtain ⟨out, hout⟩ : ∃ out : List UInt8, Hid (out = []) := ⟨[], rfl⟩
  obtain ⟨g, hg⟩ : ∃ g : Option Nat, Hid (g = none) := ⟨none, rfl⟩
  have hw0 : Wr ((w.alloc (.cells #[.int .i64 x.fVersion, .int .i64 x.fNext, .slice aTables x.fTables.length cTables, .slice aIndexes x.fIndexes.length cIndexes] 25)).alloc (.cells #[.slice none 0 0] 74)) 74 (w.heap.size + 1) g out (PB p w.heap.size) := by
    rw [hout.out, hg.out]
    have := Wr.new (w.alloc (.cells #[.int .i64 x.fVersion, .int .i64 x.fNext, .slice aTables x.fTables.length cTables, .slice aIndexes x.fIndexes.length cIndexes] 25)) 74 (PB p w.heap.size) (fun b hb => by
      rcases hb with hb | rfl
      · have := hp b hb; simp; omega
      · simp)
    simpa using this
  have row0 : RowIs ((w.alloc (.cells #[.int .i64 x.fVersion, .int .i64 x.fNext, .slice aTables x.fTables.length cTables, .slice aIndexes x.fIndexes.length cIndexes] 25)).alloc (.cells #[.slice none 0 0] 74)) w.heap.size 25 [.int .i64 x.fVersion, .int .i64 x.fNext, .slice aTables x.fTables.length cTables, .slice aIndexes x.fIndexes.length cIndexes] := (RowIs.alloc w _ _).keep ((Keep.refl Nix _).alloc _) id
  replace h0 := Lib.hid h0
  replace h1 := Lib.hid h1
  replace h2 := (rList_lawful rGTable_lawful).nix ((rList_lawful rGTable_lawful).box h2 (.cells #[.int .i64 x.fVersion, .int .i64 x.fNext, .slice aTables x.fTables.length cTables, .slice aIndexes x.fIndexes.length cIndexes] 25)) ((Keep.refl Nix _).alloc (.cells #[.slice none 0 0] 74))
  replace h2 := Lib.hid h2
  replace h3 := (rList_lawful rGIndex_lawful).nix ((rList_lawful rGIndex_lawful).box h3 (.cells #[.int .i64 x.fVersion, .int .i64 x.fNext, .slice aTables x.fTables.length cTables, .slice aIndexes x.fIndexes.length cIndexes] 25)) ((Keep.refl Nix _).alloc (.cells #[.slice none 0 0] 74))
  replace h3 := Lib.hid h3
  have HL : Hid (out.length + ((encI x.fVersion).length + (encI x.fNext).length + (encL encGTable x.fTables).length + (encL encGIndex x.fIndexes).length) ≤ far) := by
    show _ ≤ _
    rw [hout.out]
    simp only [encGCatalog, List.length_append] at hb; simp only [List.length_nil]; omega
  have c0 : Chain (w.heap.size + 1) ((w.alloc (.cells #[.int .i64 x.fVersion, .int .i64 x.fNext, .slice aTables x.fTables.length cTables, .slice aIndexes x.fIndexes.length cIndexes] 25)).alloc (.cells #[.slice none 0 0] 74)) g ((w.alloc (.cells #[.int .i64 x.fVersion, .int .i64 x.fNext, .slice aTables x.fTables.length cTables, .slice aIndexes x.fIndexes.length cIndexes] 25)).alloc (.cells #[.slice none 0 0] 74)) g := Chain.refl _ _ _
  have hx0 := hx
  have hx2 := rGCatalog_lawful.nix (rGCatalog_lawful.box hx0 (.cells #[.int .i64 x.fVersion, .int .i64 x.fNext, .slice aTables x.fTables.length cTables, .slice aIndexes x.fIndexes.length cIndexes] 25)) ((Keep.refl Nix _).alloc (.cells #[.slice none 0 0] 74))
  clear hb hx hx0
  go_enter Try.func9, Try.ntmps9
  go_wp2_with fail
  go_fit (oCatalog_c _ (w.heap.size + 1) _ _ _ x _ hx2 hw0 (by have := HL.out; simp only [encGCatalog, List.length_append]; omega))
  rintro e w1 ⟨rfl, g1, wr1, ch⟩
  have c1 := c0.trans ch
  clear ch c0 hx2
  have c0 := c1
  clear c1
  have HE : Hid (encGCatalog x = out ++ encGCatalog x) := by show _ = _; rw [hout.out]; (try simp only [encGCatalog, List.nil_append, List.append_assoc])
  generalize out ++ encGCatalog x = O at HE wr1
  obtain ⟨aw, capw, hcw, hfw, ownw, hgw, -⟩ := wr1.cell
  clear wr1 row0 hw0 HL
  go_wp2_with fail
  go_ret
  rw [HE.out]
  rw [hg.out] at c0
  exact made_of (by omega) (((Keep.refl Nix w).alloc _).alloc _) c0 ownw hgw
set_option maxRecDepth 100000 in
set_option maxHeartbeats 16000000 in
theorem oTAsk_c (w : World) (p : Nat → Prop) (hp : ∀ b, p b → b < w.heap.size) (x : GAsk) (cs : List Value) (hx : rGAsk w p cs x) (hb : (encGAsk x).length ≤ far) :
    Calls Try.prog 11 #[.agg cs.toArray] w (Made (encGAsk x) w) := by
  obtain ⟨aOps, cOps, aTableColumns, cTableColumns, aTableKey, cTableKey, aIndexColumns, cIndexColumns, aKey, cKey, rfl, h0, h1, h2, h3, h4, h5, h6, -⟩ := rGAsk_open hx
  obtain ⟨out, hout⟩ : ∃ out : List UInt8, Hid (out = []) := ⟨[], rfl⟩
  obtain ⟨g, hg⟩ : ∃ g : Option Nat, Hid (g = none) := ⟨none, rfl⟩
  have hw0 : Wr ((w.alloc (.cells #[.int .i64 x.fKind, .slice aOps x.fOps.length cOps, .int .i64 x.fTable.fID, .string (strB x.fTable.fName), .slice aTableColumns x.fTable.fColumns.length cTableColumns, .slice aTableKey x.fTable.fKey.length cTableKey, .int .i64 x.fIndex.fID, .int .i64 x.fIndex.fTable, .string (strB x.fIndex.fName), .slice aIndexColumns x.fIndex.fColumns.length cIndexColumns, .bool x.fIndex.fUnique, .int .i64 x.fIndex.fState, .bool x.fIndex.fBad, .string (strB x.fName), .int .i64 x.fN, .slice aKey x.fKey.length cKey] 35)).alloc (.cells #[.slice none 0 0] 74)) 74 (w.heap.size + 1) g out (PB p w.heap.size) := by
    rw [hout.out, hg.out]
    have := Wr.new (w.alloc (.cells #[.int .i64 x.fKind, .slice aOps x.fOps.length cOps, .int .i64 x.fTable.fID, .string (strB x.fTable.fName), .slice aTableColumns x.fTable.fColumns.length cTableColumns, .slice aTableKey x.fTable.fKey.length cTableKey, .int .i64 x.fIndex.fID, .int .i64 x.fIndex.fTable, .string (strB x.fIndex.fName), .slice aIndexColumns x.fIndex.fColumns.length cIndexColumns, .bool x.fIndex.fUnique, .int .i64 x.fIndex.fState, .bool x.fIndex.fBad, .string (strB x.fName), .int .i64 x.fN, .slice aKey x.fKey.length cKey] 35)) 74 (PB p w.heap.size) (fun b hb => by
      rcases hb with hb | rfl
      · have := hp b hb; simp; omega
      · simp)
    simpa using this
  have row0 : RowIs ((w.alloc (.cells #[.int .i64 x.fKind, .slice aOps x.fOps.length cOps, .int .i64 x.fTable.fID, .string (strB x.fTable.fName), .slice aTableColumns x.fTable.fColumns.length cTableColumns, .slice aTableKey x.fTable.fKey.length cTableKey, .int .i64 x.fIndex.fID, .int .i64 x.fIndex.fTable, .string (strB x.fIndex.fName), .slice aIndexColumns x.fIndex.fColumns.length cIndexColumns, .bool x.fIndex.fUnique, .int .i64 x.fIndex.fState, .bool x.fIndex.fBad, .string (strB x.fName), .int .i64 x.fN, .slice aKey x.fKey.length cKey] 35)).alloc (.cells #[.slice none 0 0] 74)) w.heap.size 35 [.int .i64 x.fKind, .slice aOps x.fOps.length cOps, .int .i64 x.fTable.fID, .string (strB x.fTable.fName), .slice aTableColumns x.fTable.fColumns.length cTableColumns, .slice aTableKey x.fTable.fKey.length cTableKey, .int .i64 x.fIndex.fID, .int .i64 x.fIndex.fTable, .string (strB x.fIndex.fName), .slice aIndexColumns x.fIndex.fColumns.length cIndexColumns, .bool x.fIndex.fUnique, .int .i64 x.fIndex.fState, .bool x.fIndex.fBad, .string (strB x.fName), .int .i64 x.fN, .slice aKey x.fKey.length cKey] := (RowIs.alloc w _ _).keep ((Keep.refl Nix _).alloc _) id
  replace h0 := Lib.hid h0
  replace h1 := (rList_lawful rGOp_lawful).nix ((rList_lawful rGOp_lawful).box h1 (.cells #[.int .i64 x.fKind, .slice aOps x.fOps.length cOps, .int .i64 x.fTable.fID, .string (strB x.fTable.fName), .slice aTableColumns x.fTable.fColumns.length cTableColumns, .slice aTableKey x.fTable.fKey.length cTableKey, .int .i64 x.fIndex.fID, .int .i64 x.fIndex.fTable, .string (strB x.fIndex.fName), .slice aIndexColumns x.fIndex.fColumns.length cIndexColumns, .bool x.fIndex.fUnique, .int .i64 x.fIndex.fState, .bool x.fIndex.fBad, .string (strB x.fName), .int .i64 x.fN, .slice aKey x.fKey.length cKey] 35)) ((Keep.refl Nix _).alloc (.cells #[.slice none 0 0] 74))
  replace h1 := Lib.hid h1
  replace h2 := rGTable_lawful.nix (rGTable_lawful.box h2 (.cells #[.int .i64 x.fKind, .slice aOps x.fOps.length cOps, .int .i64 x.fTable.fID, .string (strB x.fTable.fName), .slice aTableColumns x.fTable.fColumns.length cTableColumns, .slice aTableKey x.fTable.fKey.length cTableKey, .int .i64 x.fIndex.fID, .int .i64 x.fIndex.fTable, .string (strB x.fIndex.fName), .slice aIndexColumns x.fIndex.fColumns.length cIndexColumns, .bool x.fIndex.fUnique, .int .i64 x.fIndex.fState, .bool x.fIndex.fBad, .string (strB x.fName), .int .i64 x.fN, .slice aKey x.fKey.length cKey] 35)) ((Keep.refl Nix _).alloc (.cells #[.slice none 0 0] 74))
  replace h2 := Lib.hid h2
  replace h3 := rGIndex_lawful.nix (rGIndex_lawful.box h3 (.cells #[.int .i64 x.fKind, .slice aOps x.fOps.length cOps, .int .i64 x.fTable.fID, .string (strB x.fTable.fName), .slice aTableColumns x.fTable.fColumns.length cTableColumns, .slice aTableKey x.fTable.fKey.length cTableKey, .int .i64 x.fIndex.fID, .int .i64 x.fIndex.fTable, .string (strB x.fIndex.fName), .slice aIndexColumns x.fIndex.fColumns.length cIndexColumns, .bool x.fIndex.fUnique, .int .i64 x.fIndex.fState, .bool x.fIndex.fBad, .string (strB x.fName), .int .i64 x.fN, .slice aKey x.fKey.length cKey] 35)) ((Keep.refl Nix _).alloc (.cells #[.slice none 0 0] 74))
  replace h3 := Lib.hid h3
  replace h4 := Lib.hid h4
  replace h5 := Lib.hid h5
  replace h6 := And.intro ((h6.1.box (.cells #[.int .i64 x.fKind, .slice aOps x.fOps.length cOps, .int .i64 x.fTable.fID, .string (strB x.fTable.fName), .slice aTableColumns x.fTable.fColumns.length cTableColumns, .slice aTableKey x.fTable.fKey.length cTableKey, .int .i64 x.fIndex.fID, .int .i64 x.fIndex.fTable, .string (strB x.fIndex.fName), .slice aIndexColumns x.fIndex.fColumns.length cIndexColumns, .bool x.fIndex.fUnique, .int .i64 x.fIndex.fState, .bool x.fIndex.fBad, .string (strB x.fName), .int .i64 x.fN, .slice aKey x.fKey.length cKey] 35)).keep ((Keep.refl Nix _).alloc (.cells #[.slice none 0 0] 74)) (fun _ _ h => h)) h6.2
  replace h6 := Lib.hid h6
  have HL : Hid (out.length + ((encI x.fKind).length + (encL encGOp x.fOps).length + (encGTable x.fTable).length + (encGIndex x.fIndex).length + (textB x.fName).length + (encI x.fN).length + (textB x.fKey).length) ≤ far) := by
    show _ ≤ _
    rw [hout.out]
    simp only [encGAsk, List.length_append] at hb; simp only [List.length_nil]; omega
  have c0 : Chain (w.heap.size + 1) ((w.alloc (.cells #[.int .i64 x.fKind, .slice aOps x.fOps.length cOps, .int .i64 x.fTable.fID, .string (strB x.fTable.fName), .slice aTableColumns x.fTable.fColumns.length cTableColumns, .slice aTableKey x.fTable.fKey.length cTableKey, .int .i64 x.fIndex.fID, .int .i64 x.fIndex.fTable, .string (strB x.fIndex.fName), .slice aIndexColumns x.fIndex.fColumns.length cIndexColumns, .bool x.fIndex.fUnique, .int .i64 x.fIndex.fState, .bool x.fIndex.fBad, .string (strB x.fName), .int .i64 x.fN, .slice aKey x.fKey.length cKey] 35)).alloc (.cells #[.slice none 0 0] 74)) g ((w.alloc (.cells #[.int .i64 x.fKind, .slice aOps x.fOps.length cOps, .int .i64 x.fTable.fID, .string (strB x.fTable.fName), .slice aTableColumns x.fTable.fColumns.length cTableColumns, .slice aTableKey x.fTable.fKey.length cTableKey, .int .i64 x.fIndex.fID, .int .i64 x.fIndex.fTable, .string (strB x.fIndex.fName), .slice aIndexColumns x.fIndex.fColumns.length cIndexColumns, .bool x.fIndex.fUnique, .int .i64 x.fIndex.fState, .bool x.fIndex.fBad, .string (strB x.fName), .int .i64 x.fN, .slice aKey x.fKey.length cKey] 35)).alloc (.cells #[.slice none 0 0] 74)) g := Chain.refl _ _ _
  clear hb hx
  go_enter Try.func11, Try.ntmps11
  have HX1 : Hid ((encL encGOp x.fOps).length = (numB x.fOps.length).length + (x.fOps.flatMap encGOp).length) := List.length_append
  go_wp2_with fail
  go_fit (oint_e _ (w.heap.size + 1) _ _ _ x.fKind hw0 h0.out (by have := HL.out; have := HX1.out; (try simp only [List.length_append]); omega))
  rintro e w1 ⟨rfl, g1, wr1, ch⟩
  have c1 := c0.trans ch
  clear ch c0
  have c0 := c1
  clear c1
  have x1 : w1.cell? ⟨w.heap.size, 1, none⟩ = some (.slice aOps x.fOps.length cOps) := (row0.go hw0 c0 (.inr rfl)).cell 1
  obtain ⟨hn1, -, hf1⟩ := rList_len h1.out
  have HF1 := Lib.hid hf1
  clear hf1 hn1
  have hlen1 : x.fOps.length ≤ 9223372036854775807 := by have := HF1.out; have := far_len; unfold maxLen at this; omega
  have hwr1 : IntKind.u64.wrap (x.fOps.length : Int) = (x.fOps.length : Int) := by rw [IntKind.wrap_u64]; omega
  go_wp2_with fail
  go_fit (onumN _ (w.heap.size + 1) _ _ _ x.fOps.length wr1 (by unfold isU64; omega) (by have := HL.out; have := HX1.out; (try simp only [List.length_append]); omega))
  rintro e w2 ⟨rfl, g2, wr2, ch⟩
  have c2 := c0.trans ch
  clear ch hwr1 wr1 x1
  go_wp2_with fail
  go_loopw [4] (fun i wr => ∃ (k : Nat) (g' : Option Nat), k ≤ x.fOps.length ∧ i = .int .i64 k ∧ Wr wr 74 (w.heap.size + 1) g' (out ++ encI x.fKind ++ numB x.fOps.length ++ (x.fOps.take k).flatMap encGOp) (PB p w.heap.size) ∧ Chain (w.heap.size + 1) ((w.alloc (.cells #[.int .i64 x.fKind, .slice aOps x.fOps.length cOps, .int .i64 x.fTable.fID, .string (strB x.fTable.fName), .slice aTableColumns x.fTable.fColumns.length cTableColumns, .slice aTableKey x.fTable.fKey.length cTableKey, .int .i64 x.fIndex.fID, .int .i64 x.fIndex.fTable, .string (strB x.fIndex.fName), .slice aIndexColumns x.fIndex.fColumns.length cIndexColumns, .bool x.fIndex.fUnique, .int .i64 x.fIndex.fState, .bool x.fIndex.fBad, .string (strB x.fName), .int .i64 x.fN, .slice aKey x.fKey.length cKey] 35)).alloc (.cells #[.slice none 0 0] 74)) g wr g') (fun i _ => x.fOps.length - (intOf i).toNat)
  case atStart => exact ⟨0, _, by omega, rfl, by simpa using wr2, c2⟩
  case round =>
    clear wr2 c2 c0
    obtain ⟨k, gk, hk, rfl, wk, ck⟩ := hrel
    have x1 : wr.cell? ⟨w.heap.size, 1, none⟩ = some (.slice aOps x.fOps.length cOps) := (row0.go hw0 ck (.inr rfl)).cell 1
    have HF1 := HF1
    have hlen1 := hlen1
    by_cases hll : k < x.fOps.length
    · have HS : Hid (out ++ encI x.fKind ++ numB x.fOps.length ++ (x.fOps.take (k + 1)).flatMap encGOp = out ++ encI x.fKind ++ numB x.fOps.length ++ (x.fOps.take k).flatMap encGOp ++ encGOp x.fOps[k]) := by
        show _ = _
        rw [take_flat encGOp x.fOps k hll]; simp only [List.append_assoc]
      have HBk : Hid ((out ++ encI x.fKind ++ numB x.fOps.length ++ (x.fOps.take k).flatMap encGOp).length + (encGOp x.fOps[k]).length ≤ far) := by
        show _ ≤ _
        have h1 := take_flat_len encGOp x.fOps k hll
        have h2 := HL.out
        have HY1 := HX1.out
        simp only [List.length_append]; omega
      have wkf := wk.free
      obtain ⟨b, off, cap, c, z1, z2, z3, hx, h5⟩ := rList_at rGOp_lawful (by decide) h1.out k hll
      simp only [List.cons.injEq, Value.slice.injEq, and_true] at z1
      obtain ⟨e0, -, -⟩ := z1
      subst e0
      have hx' := rGOp_lawful.keep hx ck.keep hw0.free
      have hlt2 := Nat.lt_of_lt_of_le z3 ck.keep.size
      have hrng : ∀ (j : Nat) (u : Value), c[j]? = some u → wr.cell? ⟨b, off + k * 11 + j, none⟩ = some u := fun j u hu => (ck.keep.cell (p := ⟨b, off + k * 11 + j, none⟩) z3 (hw0.free b z2)).trans (h5 j u hu)
      clear h5 hx
      obtain ⟨aeRow, ceRow, aeKey, ceKey, aeSet, ceSet, aeFrom, ceFrom, aeTo, ceTo, aeNames, ceNames, rfl, q0, q1, q2, q3, q4, q5, q6, q7, q8, q10, -⟩ := rGOp_open hx'
      have x100 : wr.cell? ⟨b, off + k * 11, none⟩ = some (.int .i64 x.fOps[k].fKind) := hrng 0 _ rfl
      have x101 : wr.cell? ⟨b, off + k * 11 + 1, none⟩ = some (.string (strB x.fOps[k].fTable)) := hrng 1 _ rfl
      have x102 : wr.cell? ⟨b, off + k * 11 + 2, none⟩ = some (.string (strB x.fOps[k].fIndex)) := hrng 2 _ rfl
      have x103 : wr.cell? ⟨b, off + k * 11 + 3, none⟩ = some (.slice aeRow x.fOps[k].fRow.length ceRow) := hrng 3 _ rfl
      have x104 : wr.cell? ⟨b, off + k * 11 + 4, none⟩ = some (.slice aeKey x.fOps[k].fKey.length ceKey) := hrng 4 _ rfl
      have x105 : wr.cell? ⟨b, off + k * 11 + 5, none⟩ = some (.slice aeSet x.fOps[k].fSet.length ceSet) := hrng 5 _ rfl
      have x106 : wr.cell? ⟨b, off + k * 11 + 6, none⟩ = some (.slice aeFrom x.fOps[k].fFrom.length ceFrom) := hrng 6 _ rfl
      have x107 : wr.cell? ⟨b, off + k * 11 + 7, none⟩ = some (.slice aeTo x.fOps[k].fTo.length ceTo) := hrng 7 _ rfl
      have x108 : wr.cell? ⟨b, off + k * 11 + 8, none⟩ = some (.int .i64 x.fOps[k].fLimit) := hrng 8 _ rfl
      have x109 : wr.cell? ⟨b, off + k * 11 + 9, none⟩ = some (.bool x.fOps[k].fReverse) := hrng 9 _ rfl
      have x110 : wr.cell? ⟨b, off + k * 11 + 10, none⟩ = some (.slice aeNames x.fOps[k].fNames.length ceNames) := hrng 10 _ rfl
      clear hrng hlt2 q0 q1 q2 q3 q4 q5 q6 q7 q8 q10
      generalize hv : x.fOps[k] = v at *
      clear hv
      have wk3 := wk
      clear wk
      go_wp2_with fail
      go_fit (oOp_c _ (w.heap.size + 1) gk _ _ v _ hx' wk3 HBk.out)
      rintro e w2 ⟨rfl, g2, wr2, ch2⟩
      clear hx' wk3 x100 x101 x102 x103 x104 x105 x106 x107 x108 x109 x110
      have ck2 := ck.trans ch2
      clear ck ch2 wkf
      go_wp2
      go_roundw
      case rel => exact ⟨k + 1, g2, by omega, by go_num, by rw [HS.out]; exact wr2, ck2⟩
      case measure => simp [intOf]; omega
    · obtain rfl : k = x.fOps.length := by omega
      have e0 : x.fOps.take x.fOps.length = x.fOps := List.take_of_length_le (by omega)
      rw [e0] at wk
      have wq1 : Wr wr 74 (w.heap.size + 1) gk (out ++ encI x.fKind ++ encL encGOp x.fOps) (PB p w.heap.size) := by rw [show encL encGOp x.fOps = numB x.fOps.length ++ x.fOps.flatMap encGOp from rfl, ← List.append_assoc]; exact wk
      clear wk
      obtain ⟨wo1, rfl⟩ : ∃ wo : World, wo = wr := ⟨_, rfl⟩
      have c0 := ck
      clear ck e0
      have x2 : wo1.cell? ⟨w.heap.size, 2, none⟩ = some (.int .i64 x.fTable.fID) := (row0.go hw0 c0 (.inr rfl)).cell 2
      have x3 : wo1.cell? ⟨w.heap.size, 3, none⟩ = some (.string (strB x.fTable.fName)) := (row0.go hw0 c0 (.inr rfl)).cell 3
      have x4 : wo1.cell? ⟨w.heap.size, 4, none⟩ = some (.slice aTableColumns x.fTable.fColumns.length cTableColumns) := (row0.go hw0 c0 (.inr rfl)).cell 4
      have x5 : wo1.cell? ⟨w.heap.size, 5, none⟩ = some (.slice aTableKey x.fTable.fKey.length cTableKey) := (row0.go hw0 c0 (.inr rfl)).cell 5
      go_wp2_with fail
      go_fit (oTable_c _ (w.heap.size + 1) _ _ _ x.fTable _ (rGTable_lawful.go h2.out hw0 c0) wq1 (by have := HL.out; have := HX1.out; (try simp only [List.length_append]); omega))
      rintro e w3 ⟨rfl, g3, wr3, ch⟩
      have c3 := c0.trans ch
      clear ch c0 wq1 x1 x2 x3 x4 x5
      have c0 := c3
      clear c3
      have x6 : w3.cell? ⟨w.heap.size, 6, none⟩ = some (.int .i64 x.fIndex.fID) := (row0.go hw0 c0 (.inr rfl)).cell 6
      have x7 : w3.cell? ⟨w.heap.size, 7, none⟩ = some (.int .i64 x.fIndex.fTable) := (row0.go hw0 c0 (.inr rfl)).cell 7
      have x8 : w3.cell? ⟨w.heap.size, 8, none⟩ = some (.string (strB x.fIndex.fName)) := (row0.go hw0 c0 (.inr rfl)).cell 8
      have x9 : w3.cell? ⟨w.heap.size, 9, none⟩ = some (.slice aIndexColumns x.fIndex.fColumns.length cIndexColumns) := (row0.go hw0 c0 (.inr rfl)).cell 9
      have x10 : w3.cell? ⟨w.heap.size, 10, none⟩ = some (.bool x.fIndex.fUnique) := (row0.go hw0 c0 (.inr rfl)).cell 10
      have x11 : w3.cell? ⟨w.heap.size, 11, none⟩ = some (.int .i64 x.fIndex.fState) := (row0.go hw0 c0 (.inr rfl)).cell 11
      have x12 : w3.cell? ⟨w.heap.size, 12, none⟩ = some (.bool x.fIndex.fBad) := (row0.go hw0 c0 (.inr rfl)).cell 12
      go_wp2_with fail
      go_fit (oIndex_c _ (w.heap.size + 1) _ _ _ x.fIndex _ (rGIndex_lawful.go h3.out hw0 c0) wr3 (by have := HL.out; have := HX1.out; (try simp only [List.length_append]); omega))
      rintro e w4 ⟨rfl, g4, wr4, ch⟩
      have c4 := c0.trans ch
      clear ch c0 wr3 x6 x7 x8 x9 x10 x11 x12
      have c0 := c4
      clear c4
      have x13 : w4.cell? ⟨w.heap.size, 13, none⟩ = some (.string (strB x.fName)) := (row0.go hw0 c0 (.inr rfl)).cell 13
      go_wp2_with fail
      go_fit (otext_c _ (w.heap.size + 1) _ _ _ x.fName wr4 h4.out (by have := HL.out; have := HX1.out; (try simp only [List.length_append]); omega))
      rintro e w5 ⟨rfl, g5, wr5, ch⟩
      have c5 := c0.trans ch
      clear ch c0 wr4 x13
      have c0 := c5
      clear c5
      have x14 : w5.cell? ⟨w.heap.size, 14, none⟩ = some (.int .i64 x.fN) := (row0.go hw0 c0 (.inr rfl)).cell 14
      go_wp2_with fail
      go_fit (oint_e _ (w.heap.size + 1) _ _ _ x.fN wr5 h5.out (by have := HL.out; have := HX1.out; (try simp only [List.length_append]); omega))
      rintro e w6 ⟨rfl, g6, wr6, ch⟩
      have c6 := c0.trans ch
      clear ch c0 wr5 x14
      have c0 := c6
      clear c6
      have x15 : w6.cell? ⟨w.heap.size, 15, none⟩ = some (.slice aKey x.fKey.length cKey) := (row0.go hw0 c0 (.inr rfl)).cell 15
      go_wp2_with fail
      go_fit (obytes_c _ (w.heap.size + 1) _ _ _ aKey _ cKey x.fKey wr6 rfl (h6.out.1.go hw0 c0) (by have := h6.out.2.2; have := far_len; omega) (by have := HL.out; have := HX1.out; (try simp only [List.length_append]); omega))
      rintro e w7 ⟨rfl, g7, wr7, ch⟩
      have c7 := c0.trans ch
      clear ch c0 wr6 x15
      have c0 := c7
      clear c7
      have HE : Hid (encGAsk x = out ++ encI x.fKind ++ encL encGOp x.fOps ++ encGTable x.fTable ++ encGIndex x.fIndex ++ textB x.fName ++ encI x.fN ++ textB x.fKey) := by show _ = _; rw [hout.out]; (try simp only [encGAsk, List.nil_append, List.append_assoc])
      generalize out ++ encI x.fKind ++ encL encGOp x.fOps ++ encGTable x.fTable ++ encGIndex x.fIndex ++ textB x.fName ++ encI x.fN ++ textB x.fKey = O at HE wr7
      obtain ⟨aw, capw, hcw, hfw, ownw, hgw, -⟩ := wr7.cell
      clear wr7 row0 hw0 HL
      go_wp2_with fail
      go_ret
      rw [HE.out]
      rw [hg.out] at c0
      exact made_of (by omega) (((Keep.refl Nix w).alloc _).alloc _) c0 ownw hgw
end Go.Proofs.Ytabgbleldbapbaa
