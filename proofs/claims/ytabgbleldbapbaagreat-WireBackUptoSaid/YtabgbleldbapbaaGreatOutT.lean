/- THE WALKS of the reference's writer on lists and structs. Printed by gen5.py. -/
import Derived.Test.YtabgbleldbapbaaGreatPut
namespace Go.Proofs.YtabgbleldbapbaaGreat
open Go.RowKit


/-- What a function that writes one thing ends with. -/
def Made (out : List UInt8) (w : World) (e : Ending) (w' : World) : Prop := ∃ a cap, e = .returned (.slice a out.length cap) ∧ w'.ownsRow w.heap.size 5 1 (.slice a out.length cap) out.length (out.map bv) ∧ Keep Nix w w'
theorem owned_up {w : World} {base base' : Nat} {e sz : Nat} {v : Value} {n : Nat} {xs : List Value} (h : w.ownsRow base e sz v n xs) (hb : ∀ b, v.ownBlock = some b → base' ≤ b) : w.ownsRow base' e sz v n xs := by
  refine ⟨h.1, ?_⟩
  rcases h.2 with hn | ⟨g, cap, cur, rfl, hb', rest⟩
  · exact .inl hn
  · exact .inr ⟨g, cap, cur, rfl, hb _ rfl, rest⟩
/-- The end of a function that made a writer. -/
theorem made_of {w w0 w' : World} {r : Nat} {g' : Option Nat} {out : List UInt8} {a : Option Addr} {cap : Nat} (hr : w.heap.size ≤ r) (k : Keep Nix w w0) (c : Chain r w0 none w' g')
    (own : w'.ownsRow 0 5 1 (.slice a out.length cap) out.length (out.map bv)) (hg : (Value.slice a out.length cap).ownBlock = g') : Made out w (.returned (.slice a out.length cap)) w' :=
  ⟨a, cap, rfl, owned_up own (fun b hb => by
      have := c.new b (hg.symm.trans hb)
      rcases this with h | h
      · exact absurd h (by simp)
      · exact Nat.le_trans k.size h), k.then c.keep (fun i hi hs => by
      rcases hs with rfl | hs
      · omega
      · exact absurd hs (by simp))⟩
set_option maxRecDepth 100000 in
set_option maxHeartbeats 16000000 in
theorem wTCall_c (w : World) (p : Nat → Prop) (hp : ∀ b, p b → b < w.heap.size) (x : GCall) (cs : List Value) (hx : rGCall w p cs x) (hb : (encGCall x).length ≤ far) :
    Calls Tryz.prog 25 #[.agg cs.toArray] w (Made (encGCall x) w) := by
  obtain ⟨aData, cData, rfl, h0, h1, h2, -⟩ := rGCall_open hx
  obtain ⟨out, hout⟩ : ∃ out : List UInt8, Hid (out = []) := ⟨[], rfl⟩
  obtain ⟨g, hg⟩ : ∃ g : Option Nat, Hid (g = none) := ⟨none, rfl⟩
  have hw0 : Wr ((w.alloc (.cells #[.int .u64 x.fClient, .int .u64 x.fSeq, .slice aData x.fData.length cData] 27)).alloc (.cells #[.slice none 0 0] 139)) 139 (w.heap.size + 1) g out (PB p w.heap.size) := by
    rw [hout.out, hg.out]
    have := Wr.new (w.alloc (.cells #[.int .u64 x.fClient, .int .u64 x.fSeq, .slice aData x.fData.length cData] 27)) 139 (PB p w.heap.size) (fun b hb => by
      rcases hb with hb | rfl
      · have := hp b hb; simp; omega
      · simp)
    simpa using this
  have row0 : RowIs ((w.alloc (.cells #[.int .u64 x.fClient, .int .u64 x.fSeq, .slice aData x.fData.length cData] 27)).alloc (.cells #[.slice none 0 0] 139)) w.heap.size 27 [.int .u64 x.fClient, .int .u64 x.fSeq, .slice aData x.fData.length cData] := (RowIs.alloc w _ _).keep ((Keep.refl Nix _).alloc _) id
  replace h0 := Lib.hid h0
  replace h1 := Lib.hid h1
  replace h2 := And.intro ((h2.1.box (.cells #[.int .u64 x.fClient, .int .u64 x.fSeq, .slice aData x.fData.length cData] 27)).keep ((Keep.refl Nix _).alloc (.cells #[.slice none 0 0] 139)) (fun _ _ h => h)) h2.2
  replace h2 := Lib.hid h2
  have HL : Hid (out.length + ((encU x.fClient).length + (encU x.fSeq).length + (textB x.fData).length) ≤ far) := by
    show _ ≤ _
    rw [hout.out]
    simp only [encGCall, List.length_append] at hb; simp only [List.length_nil]; omega
  have c0 : Chain (w.heap.size + 1) ((w.alloc (.cells #[.int .u64 x.fClient, .int .u64 x.fSeq, .slice aData x.fData.length cData] 27)).alloc (.cells #[.slice none 0 0] 139)) g ((w.alloc (.cells #[.int .u64 x.fClient, .int .u64 x.fSeq, .slice aData x.fData.length cData] 27)).alloc (.cells #[.slice none 0 0] 139)) g := Chain.refl _ _ _
  clear hb hx
  go_enter Tryz.func25, Tryz.ntmps25
  go_wp2_with fail
  go_fit (wnum_e _ (w.heap.size + 1) _ _ _ x.fClient hw0 h0.out (by have := HL.out; (try simp only [List.length_append]); omega))
  rintro e w1 ⟨rfl, g1, wr1, ch⟩
  have c1 := c0.trans ch
  clear ch
  replace c0 := c1
  clear c1
  have x1 : w1.cell? ⟨w.heap.size, 1, none⟩ = some (.int .u64 x.fSeq) := (row0.go hw0 c0 (.inr rfl)).cell 1
  go_wp2_with fail
  go_fit (wnum_e _ (w.heap.size + 1) _ _ _ x.fSeq wr1 h1.out (by have := HL.out; (try simp only [List.length_append]); omega))
  rintro e w2 ⟨rfl, g2, wr2, ch⟩
  have c2 := c0.trans ch
  clear ch
  clear wr1
  replace c0 := c2
  clear c2 x1
  have x2 : w2.cell? ⟨w.heap.size, 2, none⟩ = some (.slice aData x.fData.length cData) := (row0.go hw0 c0 (.inr rfl)).cell 2
  go_wp2_with fail
  go_fit (wbytes_c _ (w.heap.size + 1) _ _ _ aData _ cData x.fData wr2 rfl (h2.out.1.go hw0 c0) (by have := h2.out.2.2; have := far_len; omega) (by have := HL.out; (try simp only [List.length_append]); omega))
  rintro e w3 ⟨rfl, g3, wr3, ch⟩
  have c3 := c0.trans ch
  clear ch
  clear wr2
  replace c0 := c3
  clear c3 x2
  have HE : Hid (encGCall x = out ++ encU x.fClient ++ encU x.fSeq ++ textB x.fData) := by show _ = _; rw [hout.out]; (try simp only [encGCall, List.nil_append, List.append_assoc])
  generalize out ++ encU x.fClient ++ encU x.fSeq ++ textB x.fData = O at HE wr3
  obtain ⟨aw, capw, hcw, hfw, ownw, hgw, -⟩ := wr3.cell
  clear wr3 row0 hw0 HL
  go_wp2_with fail
  go_ret
  rw [HE.out]
  rw [hg.out] at c0
  exact made_of (by omega) (((Keep.refl Nix w).alloc _).alloc _) c0 ownw hgw
set_option maxRecDepth 100000 in
set_option maxHeartbeats 16000000 in
theorem wTAsk_c (w : World) (p : Nat → Prop) (hp : ∀ b, p b → b < w.heap.size) (x : GAsk) (cs : List Value) (hx : rGAsk w p cs x) (hb : (encGAsk x).length ≤ far) :
    Calls Tryz.prog 28 #[.agg cs.toArray] w (Made (encGAsk x) w) := by
  obtain ⟨aOps, cOps, aTableColumns, cTableColumns, aTableKey, cTableKey, aIndexColumns, cIndexColumns, aKey, cKey, rfl, h0, h1, h2, h3, h4, h5, h6, -⟩ := rGAsk_open hx
  obtain ⟨out, hout⟩ : ∃ out : List UInt8, Hid (out = []) := ⟨[], rfl⟩
  obtain ⟨g, hg⟩ : ∃ g : Option Nat, Hid (g = none) := ⟨none, rfl⟩
  have hw0 : Wr ((w.alloc (.cells #[.int .i64 x.fKind, .slice aOps x.fOps.length cOps, .int .i64 x.fTable.fID, .string (strB x.fTable.fName), .slice aTableColumns x.fTable.fColumns.length cTableColumns, .slice aTableKey x.fTable.fKey.length cTableKey, .int .i64 x.fIndex.fID, .int .i64 x.fIndex.fTable, .string (strB x.fIndex.fName), .slice aIndexColumns x.fIndex.fColumns.length cIndexColumns, .bool x.fIndex.fUnique, .int .i64 x.fIndex.fState, .bool x.fIndex.fBad, .string (strB x.fName), .int .i64 x.fN, .slice aKey x.fKey.length cKey] 62)).alloc (.cells #[.slice none 0 0] 139)) 139 (w.heap.size + 1) g out (PB p w.heap.size) := by
    rw [hout.out, hg.out]
    have := Wr.new (w.alloc (.cells #[.int .i64 x.fKind, .slice aOps x.fOps.length cOps, .int .i64 x.fTable.fID, .string (strB x.fTable.fName), .slice aTableColumns x.fTable.fColumns.length cTableColumns, .slice aTableKey x.fTable.fKey.length cTableKey, .int .i64 x.fIndex.fID, .int .i64 x.fIndex.fTable, .string (strB x.fIndex.fName), .slice aIndexColumns x.fIndex.fColumns.length cIndexColumns, .bool x.fIndex.fUnique, .int .i64 x.fIndex.fState, .bool x.fIndex.fBad, .string (strB x.fName), .int .i64 x.fN, .slice aKey x.fKey.length cKey] 62)) 139 (PB p w.heap.size) (fun b hb => by
      rcases hb with hb | rfl
      · have := hp b hb; simp; omega
      · simp)
    simpa using this
  have row0 : RowIs ((w.alloc (.cells #[.int .i64 x.fKind, .slice aOps x.fOps.length cOps, .int .i64 x.fTable.fID, .string (strB x.fTable.fName), .slice aTableColumns x.fTable.fColumns.length cTableColumns, .slice aTableKey x.fTable.fKey.length cTableKey, .int .i64 x.fIndex.fID, .int .i64 x.fIndex.fTable, .string (strB x.fIndex.fName), .slice aIndexColumns x.fIndex.fColumns.length cIndexColumns, .bool x.fIndex.fUnique, .int .i64 x.fIndex.fState, .bool x.fIndex.fBad, .string (strB x.fName), .int .i64 x.fN, .slice aKey x.fKey.length cKey] 62)).alloc (.cells #[.slice none 0 0] 139)) w.heap.size 62 [.int .i64 x.fKind, .slice aOps x.fOps.length cOps, .int .i64 x.fTable.fID, .string (strB x.fTable.fName), .slice aTableColumns x.fTable.fColumns.length cTableColumns, .slice aTableKey x.fTable.fKey.length cTableKey, .int .i64 x.fIndex.fID, .int .i64 x.fIndex.fTable, .string (strB x.fIndex.fName), .slice aIndexColumns x.fIndex.fColumns.length cIndexColumns, .bool x.fIndex.fUnique, .int .i64 x.fIndex.fState, .bool x.fIndex.fBad, .string (strB x.fName), .int .i64 x.fN, .slice aKey x.fKey.length cKey] := (RowIs.alloc w _ _).keep ((Keep.refl Nix _).alloc _) id
  replace h0 := Lib.hid h0
  replace h1 := (rList_lawful rGOp_lawful).nix ((rList_lawful rGOp_lawful).box h1 (.cells #[.int .i64 x.fKind, .slice aOps x.fOps.length cOps, .int .i64 x.fTable.fID, .string (strB x.fTable.fName), .slice aTableColumns x.fTable.fColumns.length cTableColumns, .slice aTableKey x.fTable.fKey.length cTableKey, .int .i64 x.fIndex.fID, .int .i64 x.fIndex.fTable, .string (strB x.fIndex.fName), .slice aIndexColumns x.fIndex.fColumns.length cIndexColumns, .bool x.fIndex.fUnique, .int .i64 x.fIndex.fState, .bool x.fIndex.fBad, .string (strB x.fName), .int .i64 x.fN, .slice aKey x.fKey.length cKey] 62)) ((Keep.refl Nix _).alloc (.cells #[.slice none 0 0] 139))
  replace h1 := Lib.hid h1
  replace h2 := rGTable_lawful.nix (rGTable_lawful.box h2 (.cells #[.int .i64 x.fKind, .slice aOps x.fOps.length cOps, .int .i64 x.fTable.fID, .string (strB x.fTable.fName), .slice aTableColumns x.fTable.fColumns.length cTableColumns, .slice aTableKey x.fTable.fKey.length cTableKey, .int .i64 x.fIndex.fID, .int .i64 x.fIndex.fTable, .string (strB x.fIndex.fName), .slice aIndexColumns x.fIndex.fColumns.length cIndexColumns, .bool x.fIndex.fUnique, .int .i64 x.fIndex.fState, .bool x.fIndex.fBad, .string (strB x.fName), .int .i64 x.fN, .slice aKey x.fKey.length cKey] 62)) ((Keep.refl Nix _).alloc (.cells #[.slice none 0 0] 139))
  replace h2 := Lib.hid h2
  replace h3 := rGIndex_lawful.nix (rGIndex_lawful.box h3 (.cells #[.int .i64 x.fKind, .slice aOps x.fOps.length cOps, .int .i64 x.fTable.fID, .string (strB x.fTable.fName), .slice aTableColumns x.fTable.fColumns.length cTableColumns, .slice aTableKey x.fTable.fKey.length cTableKey, .int .i64 x.fIndex.fID, .int .i64 x.fIndex.fTable, .string (strB x.fIndex.fName), .slice aIndexColumns x.fIndex.fColumns.length cIndexColumns, .bool x.fIndex.fUnique, .int .i64 x.fIndex.fState, .bool x.fIndex.fBad, .string (strB x.fName), .int .i64 x.fN, .slice aKey x.fKey.length cKey] 62)) ((Keep.refl Nix _).alloc (.cells #[.slice none 0 0] 139))
  replace h3 := Lib.hid h3
  replace h4 := Lib.hid h4
  replace h5 := Lib.hid h5
  replace h6 := And.intro ((h6.1.box (.cells #[.int .i64 x.fKind, .slice aOps x.fOps.length cOps, .int .i64 x.fTable.fID, .string (strB x.fTable.fName), .slice aTableColumns x.fTable.fColumns.length cTableColumns, .slice aTableKey x.fTable.fKey.length cTableKey, .int .i64 x.fIndex.fID, .int .i64 x.fIndex.fTable, .string (strB x.fIndex.fName), .slice aIndexColumns x.fIndex.fColumns.length cIndexColumns, .bool x.fIndex.fUnique, .int .i64 x.fIndex.fState, .bool x.fIndex.fBad, .string (strB x.fName), .int .i64 x.fN, .slice aKey x.fKey.length cKey] 62)).keep ((Keep.refl Nix _).alloc (.cells #[.slice none 0 0] 139)) (fun _ _ h => h)) h6.2
  replace h6 := Lib.hid h6
  have HL : Hid (out.length + ((encI x.fKind).length + (encL encGOp x.fOps).length + (encGTable x.fTable).length + (encGIndex x.fIndex).length + (textB x.fName).length + (encI x.fN).length + (textB x.fKey).length) ≤ far) := by
    show _ ≤ _
    rw [hout.out]
    simp only [encGAsk, List.length_append] at hb; simp only [List.length_nil]; omega
  have c0 : Chain (w.heap.size + 1) ((w.alloc (.cells #[.int .i64 x.fKind, .slice aOps x.fOps.length cOps, .int .i64 x.fTable.fID, .string (strB x.fTable.fName), .slice aTableColumns x.fTable.fColumns.length cTableColumns, .slice aTableKey x.fTable.fKey.length cTableKey, .int .i64 x.fIndex.fID, .int .i64 x.fIndex.fTable, .string (strB x.fIndex.fName), .slice aIndexColumns x.fIndex.fColumns.length cIndexColumns, .bool x.fIndex.fUnique, .int .i64 x.fIndex.fState, .bool x.fIndex.fBad, .string (strB x.fName), .int .i64 x.fN, .slice aKey x.fKey.length cKey] 62)).alloc (.cells #[.slice none 0 0] 139)) g ((w.alloc (.cells #[.int .i64 x.fKind, .slice aOps x.fOps.length cOps, .int .i64 x.fTable.fID, .string (strB x.fTable.fName), .slice aTableColumns x.fTable.fColumns.length cTableColumns, .slice aTableKey x.fTable.fKey.length cTableKey, .int .i64 x.fIndex.fID, .int .i64 x.fIndex.fTable, .string (strB x.fIndex.fName), .slice aIndexColumns x.fIndex.fColumns.length cIndexColumns, .bool x.fIndex.fUnique, .int .i64 x.fIndex.fState, .bool x.fIndex.fBad, .string (strB x.fName), .int .i64 x.fN, .slice aKey x.fKey.length cKey] 62)).alloc (.cells #[.slice none 0 0] 139)) g := Chain.refl _ _ _
  clear hb hx
  go_enter Tryz.func28, Tryz.ntmps28
  go_wp2_with fail
  go_fit (wint_e _ (w.heap.size + 1) _ _ _ x.fKind hw0 h0.out (by have := HL.out; (try simp only [List.length_append]); omega))
  rintro e w1 ⟨rfl, g1, wr1, ch⟩
  have c1 := c0.trans ch
  clear ch
  replace c0 := c1
  clear c1
  have x1 : w1.cell? ⟨w.heap.size, 1, none⟩ = some (.slice aOps x.fOps.length cOps) := (row0.go hw0 c0 (.inr rfl)).cell 1
  go_wp2_with fail
  go_fit (wl_Op _ (w.heap.size + 1) _ _ _ aOps _ cOps x.fOps ((rList_lawful rGOp_lawful).go h1.out hw0 c0) wr1 (by have := HL.out; (try simp only [List.length_append]); omega))
  rintro e w2 ⟨rfl, g2, wr2, ch⟩
  have c2 := c0.trans ch
  clear ch
  clear wr1
  replace c0 := c2
  clear c2 x1
  have x2 : w2.cell? ⟨w.heap.size, 2, none⟩ = some (.int .i64 x.fTable.fID) := (row0.go hw0 c0 (.inr rfl)).cell 2
  have x3 : w2.cell? ⟨w.heap.size, 3, none⟩ = some (.string (strB x.fTable.fName)) := (row0.go hw0 c0 (.inr rfl)).cell 3
  have x4 : w2.cell? ⟨w.heap.size, 4, none⟩ = some (.slice aTableColumns x.fTable.fColumns.length cTableColumns) := (row0.go hw0 c0 (.inr rfl)).cell 4
  have x5 : w2.cell? ⟨w.heap.size, 5, none⟩ = some (.slice aTableKey x.fTable.fKey.length cTableKey) := (row0.go hw0 c0 (.inr rfl)).cell 5
  go_wp2_with fail
  go_fit (wTable_c _ (w.heap.size + 1) _ _ _ x.fTable _ (rGTable_lawful.go h2.out hw0 c0) wr2 (by have := HL.out; (try simp only [List.length_append]); omega))
  rintro e w3 ⟨rfl, g3, wr3, ch⟩
  have c3 := c0.trans ch
  clear ch
  clear wr2
  replace c0 := c3
  clear c3 x2 x3 x4 x5
  have x6 : w3.cell? ⟨w.heap.size, 6, none⟩ = some (.int .i64 x.fIndex.fID) := (row0.go hw0 c0 (.inr rfl)).cell 6
  have x7 : w3.cell? ⟨w.heap.size, 7, none⟩ = some (.int .i64 x.fIndex.fTable) := (row0.go hw0 c0 (.inr rfl)).cell 7
  have x8 : w3.cell? ⟨w.heap.size, 8, none⟩ = some (.string (strB x.fIndex.fName)) := (row0.go hw0 c0 (.inr rfl)).cell 8
  have x9 : w3.cell? ⟨w.heap.size, 9, none⟩ = some (.slice aIndexColumns x.fIndex.fColumns.length cIndexColumns) := (row0.go hw0 c0 (.inr rfl)).cell 9
  have x10 : w3.cell? ⟨w.heap.size, 10, none⟩ = some (.bool x.fIndex.fUnique) := (row0.go hw0 c0 (.inr rfl)).cell 10
  have x11 : w3.cell? ⟨w.heap.size, 11, none⟩ = some (.int .i64 x.fIndex.fState) := (row0.go hw0 c0 (.inr rfl)).cell 11
  have x12 : w3.cell? ⟨w.heap.size, 12, none⟩ = some (.bool x.fIndex.fBad) := (row0.go hw0 c0 (.inr rfl)).cell 12
  go_wp2_with fail
  go_fit (wIndex_c _ (w.heap.size + 1) _ _ _ x.fIndex _ (rGIndex_lawful.go h3.out hw0 c0) wr3 (by have := HL.out; (try simp only [List.length_append]); omega))
  rintro e w4 ⟨rfl, g4, wr4, ch⟩
  have c4 := c0.trans ch
  clear ch
  clear wr3
  replace c0 := c4
  clear c4 x6 x7 x8 x9 x10 x11 x12
  have x13 : w4.cell? ⟨w.heap.size, 13, none⟩ = some (.string (strB x.fName)) := (row0.go hw0 c0 (.inr rfl)).cell 13
  go_wp2_with fail
  go_fit (wtext_c _ (w.heap.size + 1) _ _ _ x.fName wr4 h4.out (by have := HL.out; (try simp only [List.length_append]); omega))
  rintro e w5 ⟨rfl, g5, wr5, ch⟩
  have c5 := c0.trans ch
  clear ch
  clear wr4
  replace c0 := c5
  clear c5 x13
  have x14 : w5.cell? ⟨w.heap.size, 14, none⟩ = some (.int .i64 x.fN) := (row0.go hw0 c0 (.inr rfl)).cell 14
  go_wp2_with fail
  go_fit (wint_e _ (w.heap.size + 1) _ _ _ x.fN wr5 h5.out (by have := HL.out; (try simp only [List.length_append]); omega))
  rintro e w6 ⟨rfl, g6, wr6, ch⟩
  have c6 := c0.trans ch
  clear ch
  clear wr5
  replace c0 := c6
  clear c6 x14
  have x15 : w6.cell? ⟨w.heap.size, 15, none⟩ = some (.slice aKey x.fKey.length cKey) := (row0.go hw0 c0 (.inr rfl)).cell 15
  go_wp2_with fail
  go_fit (wbytes_c _ (w.heap.size + 1) _ _ _ aKey _ cKey x.fKey wr6 rfl (h6.out.1.go hw0 c0) (by have := h6.out.2.2; have := far_len; omega) (by have := HL.out; (try simp only [List.length_append]); omega))
  rintro e w7 ⟨rfl, g7, wr7, ch⟩
  have c7 := c0.trans ch
  clear ch
  clear wr6
  replace c0 := c7
  clear c7 x15
  have HE : Hid (encGAsk x = out ++ encI x.fKind ++ encL encGOp x.fOps ++ encGTable x.fTable ++ encGIndex x.fIndex ++ textB x.fName ++ encI x.fN ++ textB x.fKey) := by show _ = _; rw [hout.out]; (try simp only [encGAsk, List.nil_append, List.append_assoc])
  generalize out ++ encI x.fKind ++ encL encGOp x.fOps ++ encGTable x.fTable ++ encGIndex x.fIndex ++ textB x.fName ++ encI x.fN ++ textB x.fKey = O at HE wr7
  obtain ⟨aw, capw, hcw, hfw, ownw, hgw, -⟩ := wr7.cell
  clear wr7 row0 hw0 HL
  go_wp2_with fail
  go_ret
  rw [HE.out]
  rw [hg.out] at c0
  exact made_of (by omega) (((Keep.refl Nix w).alloc _).alloc _) c0 ownw hgw
set_option maxRecDepth 100000 in
set_option maxHeartbeats 16000000 in
theorem wTCommand_c (w : World) (p : Nat → Prop) (hp : ∀ b, p b → b < w.heap.size) (x : GCommand) (cs : List Value) (hx : rGCommand w p cs x) (hb : (encGCommand x).length ≤ far) :
    Calls Tryz.prog 26 #[.agg cs.toArray] w (Made (encGCommand x) w) := by
  obtain ⟨aKey, cKey, aSpanFrom, cSpanFrom, aSpanTo, cSpanTo, aPairs, cPairs, aSeens, cSeens, aWrites, cWrites, aTableColumns, cTableColumns, aTableKey, cTableKey, aIndexColumns, cIndexColumns, rfl, h0, h1, h2, h3, h4, h5, h7, h8, h9, h10, h11, h12, h13, h14, -⟩ := rGCommand_open hx
  obtain ⟨out, hout⟩ : ∃ out : List UInt8, Hid (out = []) := ⟨[], rfl⟩
  obtain ⟨g, hg⟩ : ∃ g : Option Nat, Hid (g = none) := ⟨none, rfl⟩
  have hw0 : Wr ((w.alloc (.cells #[.int .i64 x.fKind, .int .i64 x.fEpoch, .int .u64 x.fTxn, .int .i64 x.fN, .int .i64 x.fFrom, .int .i64 x.fTo, .bool x.fFlag, .slice aKey x.fKey.length cKey, .slice aSpanFrom x.fSpan.fFrom.length cSpanFrom, .slice aSpanTo x.fSpan.fTo.length cSpanTo, .slice aPairs x.fPairs.length cPairs, .slice aSeens x.fSeens.length cSeens, .slice aWrites x.fWrites.length cWrites, .int .i64 x.fTable.fID, .string (strB x.fTable.fName), .slice aTableColumns x.fTable.fColumns.length cTableColumns, .slice aTableKey x.fTable.fKey.length cTableKey, .int .i64 x.fIndex.fID, .int .i64 x.fIndex.fTable, .string (strB x.fIndex.fName), .slice aIndexColumns x.fIndex.fColumns.length cIndexColumns, .bool x.fIndex.fUnique, .int .i64 x.fIndex.fState, .bool x.fIndex.fBad, .string (strB x.fName)] 43)).alloc (.cells #[.slice none 0 0] 139)) 139 (w.heap.size + 1) g out (PB p w.heap.size) := by
    rw [hout.out, hg.out]
    have := Wr.new (w.alloc (.cells #[.int .i64 x.fKind, .int .i64 x.fEpoch, .int .u64 x.fTxn, .int .i64 x.fN, .int .i64 x.fFrom, .int .i64 x.fTo, .bool x.fFlag, .slice aKey x.fKey.length cKey, .slice aSpanFrom x.fSpan.fFrom.length cSpanFrom, .slice aSpanTo x.fSpan.fTo.length cSpanTo, .slice aPairs x.fPairs.length cPairs, .slice aSeens x.fSeens.length cSeens, .slice aWrites x.fWrites.length cWrites, .int .i64 x.fTable.fID, .string (strB x.fTable.fName), .slice aTableColumns x.fTable.fColumns.length cTableColumns, .slice aTableKey x.fTable.fKey.length cTableKey, .int .i64 x.fIndex.fID, .int .i64 x.fIndex.fTable, .string (strB x.fIndex.fName), .slice aIndexColumns x.fIndex.fColumns.length cIndexColumns, .bool x.fIndex.fUnique, .int .i64 x.fIndex.fState, .bool x.fIndex.fBad, .string (strB x.fName)] 43)) 139 (PB p w.heap.size) (fun b hb => by
      rcases hb with hb | rfl
      · have := hp b hb; simp; omega
      · simp)
    simpa using this
  have row0 : RowIs ((w.alloc (.cells #[.int .i64 x.fKind, .int .i64 x.fEpoch, .int .u64 x.fTxn, .int .i64 x.fN, .int .i64 x.fFrom, .int .i64 x.fTo, .bool x.fFlag, .slice aKey x.fKey.length cKey, .slice aSpanFrom x.fSpan.fFrom.length cSpanFrom, .slice aSpanTo x.fSpan.fTo.length cSpanTo, .slice aPairs x.fPairs.length cPairs, .slice aSeens x.fSeens.length cSeens, .slice aWrites x.fWrites.length cWrites, .int .i64 x.fTable.fID, .string (strB x.fTable.fName), .slice aTableColumns x.fTable.fColumns.length cTableColumns, .slice aTableKey x.fTable.fKey.length cTableKey, .int .i64 x.fIndex.fID, .int .i64 x.fIndex.fTable, .string (strB x.fIndex.fName), .slice aIndexColumns x.fIndex.fColumns.length cIndexColumns, .bool x.fIndex.fUnique, .int .i64 x.fIndex.fState, .bool x.fIndex.fBad, .string (strB x.fName)] 43)).alloc (.cells #[.slice none 0 0] 139)) w.heap.size 43 [.int .i64 x.fKind, .int .i64 x.fEpoch, .int .u64 x.fTxn, .int .i64 x.fN, .int .i64 x.fFrom, .int .i64 x.fTo, .bool x.fFlag, .slice aKey x.fKey.length cKey, .slice aSpanFrom x.fSpan.fFrom.length cSpanFrom, .slice aSpanTo x.fSpan.fTo.length cSpanTo, .slice aPairs x.fPairs.length cPairs, .slice aSeens x.fSeens.length cSeens, .slice aWrites x.fWrites.length cWrites, .int .i64 x.fTable.fID, .string (strB x.fTable.fName), .slice aTableColumns x.fTable.fColumns.length cTableColumns, .slice aTableKey x.fTable.fKey.length cTableKey, .int .i64 x.fIndex.fID, .int .i64 x.fIndex.fTable, .string (strB x.fIndex.fName), .slice aIndexColumns x.fIndex.fColumns.length cIndexColumns, .bool x.fIndex.fUnique, .int .i64 x.fIndex.fState, .bool x.fIndex.fBad, .string (strB x.fName)] := (RowIs.alloc w _ _).keep ((Keep.refl Nix _).alloc _) id
  replace h0 := Lib.hid h0
  replace h1 := Lib.hid h1
  replace h2 := Lib.hid h2
  replace h3 := Lib.hid h3
  replace h4 := Lib.hid h4
  replace h5 := Lib.hid h5
  replace h7 := And.intro ((h7.1.box (.cells #[.int .i64 x.fKind, .int .i64 x.fEpoch, .int .u64 x.fTxn, .int .i64 x.fN, .int .i64 x.fFrom, .int .i64 x.fTo, .bool x.fFlag, .slice aKey x.fKey.length cKey, .slice aSpanFrom x.fSpan.fFrom.length cSpanFrom, .slice aSpanTo x.fSpan.fTo.length cSpanTo, .slice aPairs x.fPairs.length cPairs, .slice aSeens x.fSeens.length cSeens, .slice aWrites x.fWrites.length cWrites, .int .i64 x.fTable.fID, .string (strB x.fTable.fName), .slice aTableColumns x.fTable.fColumns.length cTableColumns, .slice aTableKey x.fTable.fKey.length cTableKey, .int .i64 x.fIndex.fID, .int .i64 x.fIndex.fTable, .string (strB x.fIndex.fName), .slice aIndexColumns x.fIndex.fColumns.length cIndexColumns, .bool x.fIndex.fUnique, .int .i64 x.fIndex.fState, .bool x.fIndex.fBad, .string (strB x.fName)] 43)).keep ((Keep.refl Nix _).alloc (.cells #[.slice none 0 0] 139)) (fun _ _ h => h)) h7.2
  replace h7 := Lib.hid h7
  replace h8 := rGSpan_lawful.nix (rGSpan_lawful.box h8 (.cells #[.int .i64 x.fKind, .int .i64 x.fEpoch, .int .u64 x.fTxn, .int .i64 x.fN, .int .i64 x.fFrom, .int .i64 x.fTo, .bool x.fFlag, .slice aKey x.fKey.length cKey, .slice aSpanFrom x.fSpan.fFrom.length cSpanFrom, .slice aSpanTo x.fSpan.fTo.length cSpanTo, .slice aPairs x.fPairs.length cPairs, .slice aSeens x.fSeens.length cSeens, .slice aWrites x.fWrites.length cWrites, .int .i64 x.fTable.fID, .string (strB x.fTable.fName), .slice aTableColumns x.fTable.fColumns.length cTableColumns, .slice aTableKey x.fTable.fKey.length cTableKey, .int .i64 x.fIndex.fID, .int .i64 x.fIndex.fTable, .string (strB x.fIndex.fName), .slice aIndexColumns x.fIndex.fColumns.length cIndexColumns, .bool x.fIndex.fUnique, .int .i64 x.fIndex.fState, .bool x.fIndex.fBad, .string (strB x.fName)] 43)) ((Keep.refl Nix _).alloc (.cells #[.slice none 0 0] 139))
  replace h8 := Lib.hid h8
  replace h9 := (rList_lawful rGPair_lawful).nix ((rList_lawful rGPair_lawful).box h9 (.cells #[.int .i64 x.fKind, .int .i64 x.fEpoch, .int .u64 x.fTxn, .int .i64 x.fN, .int .i64 x.fFrom, .int .i64 x.fTo, .bool x.fFlag, .slice aKey x.fKey.length cKey, .slice aSpanFrom x.fSpan.fFrom.length cSpanFrom, .slice aSpanTo x.fSpan.fTo.length cSpanTo, .slice aPairs x.fPairs.length cPairs, .slice aSeens x.fSeens.length cSeens, .slice aWrites x.fWrites.length cWrites, .int .i64 x.fTable.fID, .string (strB x.fTable.fName), .slice aTableColumns x.fTable.fColumns.length cTableColumns, .slice aTableKey x.fTable.fKey.length cTableKey, .int .i64 x.fIndex.fID, .int .i64 x.fIndex.fTable, .string (strB x.fIndex.fName), .slice aIndexColumns x.fIndex.fColumns.length cIndexColumns, .bool x.fIndex.fUnique, .int .i64 x.fIndex.fState, .bool x.fIndex.fBad, .string (strB x.fName)] 43)) ((Keep.refl Nix _).alloc (.cells #[.slice none 0 0] 139))
  replace h9 := Lib.hid h9
  replace h10 := (rList_lawful rGSeen_lawful).nix ((rList_lawful rGSeen_lawful).box h10 (.cells #[.int .i64 x.fKind, .int .i64 x.fEpoch, .int .u64 x.fTxn, .int .i64 x.fN, .int .i64 x.fFrom, .int .i64 x.fTo, .bool x.fFlag, .slice aKey x.fKey.length cKey, .slice aSpanFrom x.fSpan.fFrom.length cSpanFrom, .slice aSpanTo x.fSpan.fTo.length cSpanTo, .slice aPairs x.fPairs.length cPairs, .slice aSeens x.fSeens.length cSeens, .slice aWrites x.fWrites.length cWrites, .int .i64 x.fTable.fID, .string (strB x.fTable.fName), .slice aTableColumns x.fTable.fColumns.length cTableColumns, .slice aTableKey x.fTable.fKey.length cTableKey, .int .i64 x.fIndex.fID, .int .i64 x.fIndex.fTable, .string (strB x.fIndex.fName), .slice aIndexColumns x.fIndex.fColumns.length cIndexColumns, .bool x.fIndex.fUnique, .int .i64 x.fIndex.fState, .bool x.fIndex.fBad, .string (strB x.fName)] 43)) ((Keep.refl Nix _).alloc (.cells #[.slice none 0 0] 139))
  replace h10 := Lib.hid h10
  replace h11 := (rList_lawful rGWrite_lawful).nix ((rList_lawful rGWrite_lawful).box h11 (.cells #[.int .i64 x.fKind, .int .i64 x.fEpoch, .int .u64 x.fTxn, .int .i64 x.fN, .int .i64 x.fFrom, .int .i64 x.fTo, .bool x.fFlag, .slice aKey x.fKey.length cKey, .slice aSpanFrom x.fSpan.fFrom.length cSpanFrom, .slice aSpanTo x.fSpan.fTo.length cSpanTo, .slice aPairs x.fPairs.length cPairs, .slice aSeens x.fSeens.length cSeens, .slice aWrites x.fWrites.length cWrites, .int .i64 x.fTable.fID, .string (strB x.fTable.fName), .slice aTableColumns x.fTable.fColumns.length cTableColumns, .slice aTableKey x.fTable.fKey.length cTableKey, .int .i64 x.fIndex.fID, .int .i64 x.fIndex.fTable, .string (strB x.fIndex.fName), .slice aIndexColumns x.fIndex.fColumns.length cIndexColumns, .bool x.fIndex.fUnique, .int .i64 x.fIndex.fState, .bool x.fIndex.fBad, .string (strB x.fName)] 43)) ((Keep.refl Nix _).alloc (.cells #[.slice none 0 0] 139))
  replace h11 := Lib.hid h11
  replace h12 := rGTable_lawful.nix (rGTable_lawful.box h12 (.cells #[.int .i64 x.fKind, .int .i64 x.fEpoch, .int .u64 x.fTxn, .int .i64 x.fN, .int .i64 x.fFrom, .int .i64 x.fTo, .bool x.fFlag, .slice aKey x.fKey.length cKey, .slice aSpanFrom x.fSpan.fFrom.length cSpanFrom, .slice aSpanTo x.fSpan.fTo.length cSpanTo, .slice aPairs x.fPairs.length cPairs, .slice aSeens x.fSeens.length cSeens, .slice aWrites x.fWrites.length cWrites, .int .i64 x.fTable.fID, .string (strB x.fTable.fName), .slice aTableColumns x.fTable.fColumns.length cTableColumns, .slice aTableKey x.fTable.fKey.length cTableKey, .int .i64 x.fIndex.fID, .int .i64 x.fIndex.fTable, .string (strB x.fIndex.fName), .slice aIndexColumns x.fIndex.fColumns.length cIndexColumns, .bool x.fIndex.fUnique, .int .i64 x.fIndex.fState, .bool x.fIndex.fBad, .string (strB x.fName)] 43)) ((Keep.refl Nix _).alloc (.cells #[.slice none 0 0] 139))
  replace h12 := Lib.hid h12
  replace h13 := rGIndex_lawful.nix (rGIndex_lawful.box h13 (.cells #[.int .i64 x.fKind, .int .i64 x.fEpoch, .int .u64 x.fTxn, .int .i64 x.fN, .int .i64 x.fFrom, .int .i64 x.fTo, .bool x.fFlag, .slice aKey x.fKey.length cKey, .slice aSpanFrom x.fSpan.fFrom.length cSpanFrom, .slice aSpanTo x.fSpan.fTo.length cSpanTo, .slice aPairs x.fPairs.length cPairs, .slice aSeens x.fSeens.length cSeens, .slice aWrites x.fWrites.length cWrites, .int .i64 x.fTable.fID, .string (strB x.fTable.fName), .slice aTableColumns x.fTable.fColumns.length cTableColumns, .slice aTableKey x.fTable.fKey.length cTableKey, .int .i64 x.fIndex.fID, .int .i64 x.fIndex.fTable, .string (strB x.fIndex.fName), .slice aIndexColumns x.fIndex.fColumns.length cIndexColumns, .bool x.fIndex.fUnique, .int .i64 x.fIndex.fState, .bool x.fIndex.fBad, .string (strB x.fName)] 43)) ((Keep.refl Nix _).alloc (.cells #[.slice none 0 0] 139))
  replace h13 := Lib.hid h13
  replace h14 := Lib.hid h14
  have HL : Hid (out.length + ((encI x.fKind).length + (encI x.fEpoch).length + (encU x.fTxn).length + (encI x.fN).length + (encI x.fFrom).length + (encI x.fTo).length + (encF x.fFlag).length + (textB x.fKey).length + (encGSpan x.fSpan).length + (encL encGPair x.fPairs).length + (encL encGSeen x.fSeens).length + (encL encGWrite x.fWrites).length + (encGTable x.fTable).length + (encGIndex x.fIndex).length + (textB x.fName).length) ≤ far) := by
    show _ ≤ _
    rw [hout.out]
    simp only [encGCommand, List.length_append] at hb; simp only [List.length_nil]; omega
  have c0 : Chain (w.heap.size + 1) ((w.alloc (.cells #[.int .i64 x.fKind, .int .i64 x.fEpoch, .int .u64 x.fTxn, .int .i64 x.fN, .int .i64 x.fFrom, .int .i64 x.fTo, .bool x.fFlag, .slice aKey x.fKey.length cKey, .slice aSpanFrom x.fSpan.fFrom.length cSpanFrom, .slice aSpanTo x.fSpan.fTo.length cSpanTo, .slice aPairs x.fPairs.length cPairs, .slice aSeens x.fSeens.length cSeens, .slice aWrites x.fWrites.length cWrites, .int .i64 x.fTable.fID, .string (strB x.fTable.fName), .slice aTableColumns x.fTable.fColumns.length cTableColumns, .slice aTableKey x.fTable.fKey.length cTableKey, .int .i64 x.fIndex.fID, .int .i64 x.fIndex.fTable, .string (strB x.fIndex.fName), .slice aIndexColumns x.fIndex.fColumns.length cIndexColumns, .bool x.fIndex.fUnique, .int .i64 x.fIndex.fState, .bool x.fIndex.fBad, .string (strB x.fName)] 43)).alloc (.cells #[.slice none 0 0] 139)) g ((w.alloc (.cells #[.int .i64 x.fKind, .int .i64 x.fEpoch, .int .u64 x.fTxn, .int .i64 x.fN, .int .i64 x.fFrom, .int .i64 x.fTo, .bool x.fFlag, .slice aKey x.fKey.length cKey, .slice aSpanFrom x.fSpan.fFrom.length cSpanFrom, .slice aSpanTo x.fSpan.fTo.length cSpanTo, .slice aPairs x.fPairs.length cPairs, .slice aSeens x.fSeens.length cSeens, .slice aWrites x.fWrites.length cWrites, .int .i64 x.fTable.fID, .string (strB x.fTable.fName), .slice aTableColumns x.fTable.fColumns.length cTableColumns, .slice aTableKey x.fTable.fKey.length cTableKey, .int .i64 x.fIndex.fID, .int .i64 x.fIndex.fTable, .string (strB x.fIndex.fName), .slice aIndexColumns x.fIndex.fColumns.length cIndexColumns, .bool x.fIndex.fUnique, .int .i64 x.fIndex.fState, .bool x.fIndex.fBad, .string (strB x.fName)] 43)).alloc (.cells #[.slice none 0 0] 139)) g := Chain.refl _ _ _
  clear hb hx
  go_enter Tryz.func26, Tryz.ntmps26
  go_wp2_with fail
  go_fit (wints_c _ (w.heap.size + 1) _ _ _ _ 2 2 [x.fKind, x.fEpoch] (ints_arg _ [x.fKind, x.fEpoch] (by simp only [List.forall_mem_cons, List.not_mem_nil, false_implies, implies_true, and_true]; exact ⟨h0.out, h1.out⟩) (by show 2 ≤ far; decide) _ _ (.inr rfl) (w.heap.size + 1 + 1) (by simp)) (hw0.box _) (by have := HL.out; simp only [List.length_append, List.flatMap_cons, List.flatMap_nil, List.append_nil]; omega))
  rintro e w1 ⟨rfl, g1, wq, ch⟩
  have wr1 := wq.mono PB.of
  simp only [List.flatMap_cons, List.flatMap_nil, List.append_nil, ← List.append_assoc] at wr1
  have c1 := (c0.alloc _).trans ch
  clear wq ch
  replace c0 := c1
  clear c1
  have x2 : w1.cell? ⟨w.heap.size, 2, none⟩ = some (.int .u64 x.fTxn) := (row0.go hw0 c0 (.inr rfl)).cell 2
  go_wp2_with fail
  go_fit (wnum_e _ (w.heap.size + 1) _ _ _ x.fTxn wr1 h2.out (by have := HL.out; (try simp only [List.length_append]); omega))
  rintro e w2 ⟨rfl, g2, wr2, ch⟩
  have c2 := c0.trans ch
  clear ch
  clear wr1
  replace c0 := c2
  clear c2 x2
  have x3 : w2.cell? ⟨w.heap.size, 3, none⟩ = some (.int .i64 x.fN) := (row0.go hw0 c0 (.inr rfl)).cell 3
  have x4 : w2.cell? ⟨w.heap.size, 4, none⟩ = some (.int .i64 x.fFrom) := (row0.go hw0 c0 (.inr rfl)).cell 4
  have x5 : w2.cell? ⟨w.heap.size, 5, none⟩ = some (.int .i64 x.fTo) := (row0.go hw0 c0 (.inr rfl)).cell 5
  go_wp2_with fail
  go_fit (wints_c _ (w.heap.size + 1) _ _ _ _ 3 3 [x.fN, x.fFrom, x.fTo] (ints_arg _ [x.fN, x.fFrom, x.fTo] (by simp only [List.forall_mem_cons, List.not_mem_nil, false_implies, implies_true, and_true]; exact ⟨h3.out, h4.out, h5.out⟩) (by show 3 ≤ far; decide) _ _ (.inr rfl) (w2.heap.size) (by simp)) (wr2.box _) (by have := HL.out; simp only [List.length_append, List.flatMap_cons, List.flatMap_nil, List.append_nil]; omega))
  rintro e w3 ⟨rfl, g3, wq, ch⟩
  have wr3 := wq.mono PB.of
  simp only [List.flatMap_cons, List.flatMap_nil, List.append_nil, ← List.append_assoc] at wr3
  have c3 := (c0.alloc _).trans ch
  clear wq ch
  clear wr2
  replace c0 := c3
  clear c3 x3 x4 x5
  have x6 : w3.cell? ⟨w.heap.size, 6, none⟩ = some (.bool x.fFlag) := (row0.go hw0 c0 (.inr rfl)).cell 6
  go_wp2_with fail
  go_fit (wflag_c _ (w.heap.size + 1) _ _ _ x.fFlag wr3 (by have := HL.out; (try simp only [List.length_append]); omega))
  rintro e w4 ⟨rfl, g4, wr4, ch⟩
  have c4 := c0.trans ch
  clear ch
  clear wr3
  replace c0 := c4
  clear c4 x6
  have x7 : w4.cell? ⟨w.heap.size, 7, none⟩ = some (.slice aKey x.fKey.length cKey) := (row0.go hw0 c0 (.inr rfl)).cell 7
  go_wp2_with fail
  go_fit (wbytes_c _ (w.heap.size + 1) _ _ _ aKey _ cKey x.fKey wr4 rfl (h7.out.1.go hw0 c0) (by have := h7.out.2.2; have := far_len; omega) (by have := HL.out; (try simp only [List.length_append]); omega))
  rintro e w5 ⟨rfl, g5, wr5, ch⟩
  have c5 := c0.trans ch
  clear ch
  clear wr4
  replace c0 := c5
  clear c5 x7
  have x8 : w5.cell? ⟨w.heap.size, 8, none⟩ = some (.slice aSpanFrom x.fSpan.fFrom.length cSpanFrom) := (row0.go hw0 c0 (.inr rfl)).cell 8
  have x9 : w5.cell? ⟨w.heap.size, 9, none⟩ = some (.slice aSpanTo x.fSpan.fTo.length cSpanTo) := (row0.go hw0 c0 (.inr rfl)).cell 9
  go_wp2_with fail
  go_fit (wSpan_c _ (w.heap.size + 1) _ _ _ x.fSpan _ (rGSpan_lawful.go h8.out hw0 c0) wr5 (by have := HL.out; (try simp only [List.length_append]); omega))
  rintro e w6 ⟨rfl, g6, wr6, ch⟩
  have c6 := c0.trans ch
  clear ch
  clear wr5
  replace c0 := c6
  clear c6 x8 x9
  have x10 : w6.cell? ⟨w.heap.size, 10, none⟩ = some (.slice aPairs x.fPairs.length cPairs) := (row0.go hw0 c0 (.inr rfl)).cell 10
  go_wp2_with fail
  go_fit (wl_Pair _ (w.heap.size + 1) _ _ _ aPairs _ cPairs x.fPairs ((rList_lawful rGPair_lawful).go h9.out hw0 c0) wr6 (by have := HL.out; (try simp only [List.length_append]); omega))
  rintro e w7 ⟨rfl, g7, wr7, ch⟩
  have c7 := c0.trans ch
  clear ch
  clear wr6
  replace c0 := c7
  clear c7 x10
  have x11 : w7.cell? ⟨w.heap.size, 11, none⟩ = some (.slice aSeens x.fSeens.length cSeens) := (row0.go hw0 c0 (.inr rfl)).cell 11
  go_wp2_with fail
  go_fit (wl_Seen _ (w.heap.size + 1) _ _ _ aSeens _ cSeens x.fSeens ((rList_lawful rGSeen_lawful).go h10.out hw0 c0) wr7 (by have := HL.out; (try simp only [List.length_append]); omega))
  rintro e w8 ⟨rfl, g8, wr8, ch⟩
  have c8 := c0.trans ch
  clear ch
  clear wr7
  replace c0 := c8
  clear c8 x11
  have x12 : w8.cell? ⟨w.heap.size, 12, none⟩ = some (.slice aWrites x.fWrites.length cWrites) := (row0.go hw0 c0 (.inr rfl)).cell 12
  go_wp2_with fail
  go_fit (wl_Write _ (w.heap.size + 1) _ _ _ aWrites _ cWrites x.fWrites ((rList_lawful rGWrite_lawful).go h11.out hw0 c0) wr8 (by have := HL.out; (try simp only [List.length_append]); omega))
  rintro e w9 ⟨rfl, g9, wr9, ch⟩
  have c9 := c0.trans ch
  clear ch
  clear wr8
  replace c0 := c9
  clear c9 x12
  have x13 : w9.cell? ⟨w.heap.size, 13, none⟩ = some (.int .i64 x.fTable.fID) := (row0.go hw0 c0 (.inr rfl)).cell 13
  have x14 : w9.cell? ⟨w.heap.size, 14, none⟩ = some (.string (strB x.fTable.fName)) := (row0.go hw0 c0 (.inr rfl)).cell 14
  have x15 : w9.cell? ⟨w.heap.size, 15, none⟩ = some (.slice aTableColumns x.fTable.fColumns.length cTableColumns) := (row0.go hw0 c0 (.inr rfl)).cell 15
  have x16 : w9.cell? ⟨w.heap.size, 16, none⟩ = some (.slice aTableKey x.fTable.fKey.length cTableKey) := (row0.go hw0 c0 (.inr rfl)).cell 16
  go_wp2_with fail
  go_fit (wTable_c _ (w.heap.size + 1) _ _ _ x.fTable _ (rGTable_lawful.go h12.out hw0 c0) wr9 (by have := HL.out; (try simp only [List.length_append]); omega))
  rintro e w10 ⟨rfl, g10, wr10, ch⟩
  have c10 := c0.trans ch
  clear ch
  clear wr9
  replace c0 := c10
  clear c10 x13 x14 x15 x16
  have x17 : w10.cell? ⟨w.heap.size, 17, none⟩ = some (.int .i64 x.fIndex.fID) := (row0.go hw0 c0 (.inr rfl)).cell 17
  have x18 : w10.cell? ⟨w.heap.size, 18, none⟩ = some (.int .i64 x.fIndex.fTable) := (row0.go hw0 c0 (.inr rfl)).cell 18
  have x19 : w10.cell? ⟨w.heap.size, 19, none⟩ = some (.string (strB x.fIndex.fName)) := (row0.go hw0 c0 (.inr rfl)).cell 19
  have x20 : w10.cell? ⟨w.heap.size, 20, none⟩ = some (.slice aIndexColumns x.fIndex.fColumns.length cIndexColumns) := (row0.go hw0 c0 (.inr rfl)).cell 20
  have x21 : w10.cell? ⟨w.heap.size, 21, none⟩ = some (.bool x.fIndex.fUnique) := (row0.go hw0 c0 (.inr rfl)).cell 21
  have x22 : w10.cell? ⟨w.heap.size, 22, none⟩ = some (.int .i64 x.fIndex.fState) := (row0.go hw0 c0 (.inr rfl)).cell 22
  have x23 : w10.cell? ⟨w.heap.size, 23, none⟩ = some (.bool x.fIndex.fBad) := (row0.go hw0 c0 (.inr rfl)).cell 23
  go_wp2_with fail
  go_fit (wIndex_c _ (w.heap.size + 1) _ _ _ x.fIndex _ (rGIndex_lawful.go h13.out hw0 c0) wr10 (by have := HL.out; (try simp only [List.length_append]); omega))
  rintro e w11 ⟨rfl, g11, wr11, ch⟩
  have c11 := c0.trans ch
  clear ch
  clear wr10
  replace c0 := c11
  clear c11 x17 x18 x19 x20 x21 x22 x23
  have x24 : w11.cell? ⟨w.heap.size, 24, none⟩ = some (.string (strB x.fName)) := (row0.go hw0 c0 (.inr rfl)).cell 24
  go_wp2_with fail
  go_fit (wtext_c _ (w.heap.size + 1) _ _ _ x.fName wr11 h14.out (by have := HL.out; (try simp only [List.length_append]); omega))
  rintro e w12 ⟨rfl, g12, wr12, ch⟩
  have c12 := c0.trans ch
  clear ch
  clear wr11
  replace c0 := c12
  clear c12 x24
  have HE : Hid (encGCommand x = out ++ encI x.fKind ++ encI x.fEpoch ++ encU x.fTxn ++ encI x.fN ++ encI x.fFrom ++ encI x.fTo ++ encF x.fFlag ++ textB x.fKey ++ encGSpan x.fSpan ++ encL encGPair x.fPairs ++ encL encGSeen x.fSeens ++ encL encGWrite x.fWrites ++ encGTable x.fTable ++ encGIndex x.fIndex ++ textB x.fName) := by show _ = _; rw [hout.out]; (try simp only [encGCommand, List.nil_append, List.append_assoc])
  generalize out ++ encI x.fKind ++ encI x.fEpoch ++ encU x.fTxn ++ encI x.fN ++ encI x.fFrom ++ encI x.fTo ++ encF x.fFlag ++ textB x.fKey ++ encGSpan x.fSpan ++ encL encGPair x.fPairs ++ encL encGSeen x.fSeens ++ encL encGWrite x.fWrites ++ encGTable x.fTable ++ encGIndex x.fIndex ++ textB x.fName = O at HE wr12
  obtain ⟨aw, capw, hcw, hfw, ownw, hgw, -⟩ := wr12.cell
  clear wr12 row0 hw0 HL
  go_wp2_with fail
  go_ret
  rw [HE.out]
  rw [hg.out] at c0
  exact made_of (by omega) (((Keep.refl Nix w).alloc _).alloc _) c0 ownw hgw
set_option maxRecDepth 100000 in
set_option maxHeartbeats 16000000 in
theorem wTReply_c (w : World) (p : Nat → Prop) (hp : ∀ b, p b → b < w.heap.size) (x : GReply) (cs : List Value) (hx : rGReply w p cs x) (hb : (encGReply x).length ≤ far) :
    Calls Tryz.prog 27 #[.agg cs.toArray] w (Made (encGReply x) w) := by
  obtain ⟨aPairs, cPairs, aTxns, cTxns, aCatalogTables, cCatalogTables, aCatalogIndexes, cCatalogIndexes, aRoutesSpans, cRoutesSpans, aRoutesCut, cRoutesCut, rfl, h0, h1, h2, h4, h5, h6, h7, -⟩ := rGReply_open hx
  obtain ⟨out, hout⟩ : ∃ out : List UInt8, Hid (out = []) := ⟨[], rfl⟩
  obtain ⟨g, hg⟩ : ∃ g : Option Nat, Hid (g = none) := ⟨none, rfl⟩
  have hw0 : Wr ((w.alloc (.cells #[.int .i64 x.fErr, .int .u64 x.fTxn, .int .i64 x.fN, .bool x.fFlag, .slice aPairs x.fPairs.length cPairs, .slice aTxns x.fTxns.length cTxns, .int .i64 x.fCatalog.fVersion, .int .i64 x.fCatalog.fNext, .slice aCatalogTables x.fCatalog.fTables.length cCatalogTables, .slice aCatalogIndexes x.fCatalog.fIndexes.length cCatalogIndexes, .int .i64 x.fRoutes.fEpoch, .int .i64 x.fRoutes.fBase, .slice aRoutesSpans x.fRoutes.fSpans.length cRoutesSpans, .int .i64 x.fRoutes.fMoving, .slice aRoutesCut x.fRoutes.fCut.length cRoutesCut] 55)).alloc (.cells #[.slice none 0 0] 139)) 139 (w.heap.size + 1) g out (PB p w.heap.size) := by
    rw [hout.out, hg.out]
    have := Wr.new (w.alloc (.cells #[.int .i64 x.fErr, .int .u64 x.fTxn, .int .i64 x.fN, .bool x.fFlag, .slice aPairs x.fPairs.length cPairs, .slice aTxns x.fTxns.length cTxns, .int .i64 x.fCatalog.fVersion, .int .i64 x.fCatalog.fNext, .slice aCatalogTables x.fCatalog.fTables.length cCatalogTables, .slice aCatalogIndexes x.fCatalog.fIndexes.length cCatalogIndexes, .int .i64 x.fRoutes.fEpoch, .int .i64 x.fRoutes.fBase, .slice aRoutesSpans x.fRoutes.fSpans.length cRoutesSpans, .int .i64 x.fRoutes.fMoving, .slice aRoutesCut x.fRoutes.fCut.length cRoutesCut] 55)) 139 (PB p w.heap.size) (fun b hb => by
      rcases hb with hb | rfl
      · have := hp b hb; simp; omega
      · simp)
    simpa using this
  have row0 : RowIs ((w.alloc (.cells #[.int .i64 x.fErr, .int .u64 x.fTxn, .int .i64 x.fN, .bool x.fFlag, .slice aPairs x.fPairs.length cPairs, .slice aTxns x.fTxns.length cTxns, .int .i64 x.fCatalog.fVersion, .int .i64 x.fCatalog.fNext, .slice aCatalogTables x.fCatalog.fTables.length cCatalogTables, .slice aCatalogIndexes x.fCatalog.fIndexes.length cCatalogIndexes, .int .i64 x.fRoutes.fEpoch, .int .i64 x.fRoutes.fBase, .slice aRoutesSpans x.fRoutes.fSpans.length cRoutesSpans, .int .i64 x.fRoutes.fMoving, .slice aRoutesCut x.fRoutes.fCut.length cRoutesCut] 55)).alloc (.cells #[.slice none 0 0] 139)) w.heap.size 55 [.int .i64 x.fErr, .int .u64 x.fTxn, .int .i64 x.fN, .bool x.fFlag, .slice aPairs x.fPairs.length cPairs, .slice aTxns x.fTxns.length cTxns, .int .i64 x.fCatalog.fVersion, .int .i64 x.fCatalog.fNext, .slice aCatalogTables x.fCatalog.fTables.length cCatalogTables, .slice aCatalogIndexes x.fCatalog.fIndexes.length cCatalogIndexes, .int .i64 x.fRoutes.fEpoch, .int .i64 x.fRoutes.fBase, .slice aRoutesSpans x.fRoutes.fSpans.length cRoutesSpans, .int .i64 x.fRoutes.fMoving, .slice aRoutesCut x.fRoutes.fCut.length cRoutesCut] := (RowIs.alloc w _ _).keep ((Keep.refl Nix _).alloc _) id
  have hiErr : IntKind.i64.wrap x.fErr = x.fErr := by rw [IntKind.wrap_i64]; have := h0; unfold isI64 at this; omega
  replace h0 := Lib.hid h0
  replace h1 := Lib.hid h1
  replace h2 := Lib.hid h2
  replace h4 := (rList_lawful rGPair_lawful).nix ((rList_lawful rGPair_lawful).box h4 (.cells #[.int .i64 x.fErr, .int .u64 x.fTxn, .int .i64 x.fN, .bool x.fFlag, .slice aPairs x.fPairs.length cPairs, .slice aTxns x.fTxns.length cTxns, .int .i64 x.fCatalog.fVersion, .int .i64 x.fCatalog.fNext, .slice aCatalogTables x.fCatalog.fTables.length cCatalogTables, .slice aCatalogIndexes x.fCatalog.fIndexes.length cCatalogIndexes, .int .i64 x.fRoutes.fEpoch, .int .i64 x.fRoutes.fBase, .slice aRoutesSpans x.fRoutes.fSpans.length cRoutesSpans, .int .i64 x.fRoutes.fMoving, .slice aRoutesCut x.fRoutes.fCut.length cRoutesCut] 55)) ((Keep.refl Nix _).alloc (.cells #[.slice none 0 0] 139))
  replace h4 := Lib.hid h4
  replace h5 := (rList_lawful (rInt_lawful _)).nix ((rList_lawful (rInt_lawful _)).box h5 (.cells #[.int .i64 x.fErr, .int .u64 x.fTxn, .int .i64 x.fN, .bool x.fFlag, .slice aPairs x.fPairs.length cPairs, .slice aTxns x.fTxns.length cTxns, .int .i64 x.fCatalog.fVersion, .int .i64 x.fCatalog.fNext, .slice aCatalogTables x.fCatalog.fTables.length cCatalogTables, .slice aCatalogIndexes x.fCatalog.fIndexes.length cCatalogIndexes, .int .i64 x.fRoutes.fEpoch, .int .i64 x.fRoutes.fBase, .slice aRoutesSpans x.fRoutes.fSpans.length cRoutesSpans, .int .i64 x.fRoutes.fMoving, .slice aRoutesCut x.fRoutes.fCut.length cRoutesCut] 55)) ((Keep.refl Nix _).alloc (.cells #[.slice none 0 0] 139))
  replace h5 := Lib.hid h5
  replace h6 := rGCatalog_lawful.nix (rGCatalog_lawful.box h6 (.cells #[.int .i64 x.fErr, .int .u64 x.fTxn, .int .i64 x.fN, .bool x.fFlag, .slice aPairs x.fPairs.length cPairs, .slice aTxns x.fTxns.length cTxns, .int .i64 x.fCatalog.fVersion, .int .i64 x.fCatalog.fNext, .slice aCatalogTables x.fCatalog.fTables.length cCatalogTables, .slice aCatalogIndexes x.fCatalog.fIndexes.length cCatalogIndexes, .int .i64 x.fRoutes.fEpoch, .int .i64 x.fRoutes.fBase, .slice aRoutesSpans x.fRoutes.fSpans.length cRoutesSpans, .int .i64 x.fRoutes.fMoving, .slice aRoutesCut x.fRoutes.fCut.length cRoutesCut] 55)) ((Keep.refl Nix _).alloc (.cells #[.slice none 0 0] 139))
  replace h6 := Lib.hid h6
  replace h7 := rGRoutes_lawful.nix (rGRoutes_lawful.box h7 (.cells #[.int .i64 x.fErr, .int .u64 x.fTxn, .int .i64 x.fN, .bool x.fFlag, .slice aPairs x.fPairs.length cPairs, .slice aTxns x.fTxns.length cTxns, .int .i64 x.fCatalog.fVersion, .int .i64 x.fCatalog.fNext, .slice aCatalogTables x.fCatalog.fTables.length cCatalogTables, .slice aCatalogIndexes x.fCatalog.fIndexes.length cCatalogIndexes, .int .i64 x.fRoutes.fEpoch, .int .i64 x.fRoutes.fBase, .slice aRoutesSpans x.fRoutes.fSpans.length cRoutesSpans, .int .i64 x.fRoutes.fMoving, .slice aRoutesCut x.fRoutes.fCut.length cRoutesCut] 55)) ((Keep.refl Nix _).alloc (.cells #[.slice none 0 0] 139))
  replace h7 := Lib.hid h7
  have HL : Hid (out.length + ((encI x.fErr).length + (encU x.fTxn).length + (encI x.fN).length + (encF x.fFlag).length + (encL encGPair x.fPairs).length + (encL encU x.fTxns).length + (encGCatalog x.fCatalog).length + (encGRoutes x.fRoutes).length) ≤ far) := by
    show _ ≤ _
    rw [hout.out]
    simp only [encGReply, List.length_append] at hb; simp only [List.length_nil]; omega
  have c0 : Chain (w.heap.size + 1) ((w.alloc (.cells #[.int .i64 x.fErr, .int .u64 x.fTxn, .int .i64 x.fN, .bool x.fFlag, .slice aPairs x.fPairs.length cPairs, .slice aTxns x.fTxns.length cTxns, .int .i64 x.fCatalog.fVersion, .int .i64 x.fCatalog.fNext, .slice aCatalogTables x.fCatalog.fTables.length cCatalogTables, .slice aCatalogIndexes x.fCatalog.fIndexes.length cCatalogIndexes, .int .i64 x.fRoutes.fEpoch, .int .i64 x.fRoutes.fBase, .slice aRoutesSpans x.fRoutes.fSpans.length cRoutesSpans, .int .i64 x.fRoutes.fMoving, .slice aRoutesCut x.fRoutes.fCut.length cRoutesCut] 55)).alloc (.cells #[.slice none 0 0] 139)) g ((w.alloc (.cells #[.int .i64 x.fErr, .int .u64 x.fTxn, .int .i64 x.fN, .bool x.fFlag, .slice aPairs x.fPairs.length cPairs, .slice aTxns x.fTxns.length cTxns, .int .i64 x.fCatalog.fVersion, .int .i64 x.fCatalog.fNext, .slice aCatalogTables x.fCatalog.fTables.length cCatalogTables, .slice aCatalogIndexes x.fCatalog.fIndexes.length cCatalogIndexes, .int .i64 x.fRoutes.fEpoch, .int .i64 x.fRoutes.fBase, .slice aRoutesSpans x.fRoutes.fSpans.length cRoutesSpans, .int .i64 x.fRoutes.fMoving, .slice aRoutesCut x.fRoutes.fCut.length cRoutesCut] 55)).alloc (.cells #[.slice none 0 0] 139)) g := Chain.refl _ _ _
  clear hb hx
  go_enter Tryz.func27, Tryz.ntmps27
  go_wp2_with fail
  go_fit (wint_e _ (w.heap.size + 1) _ _ _ x.fErr hw0 h0.out (by have := HL.out; (try simp only [List.length_append]); omega))
  rintro e w1 ⟨rfl, g1, wr1, ch⟩
  have c1 := c0.trans ch
  clear ch
  replace c0 := c1
  clear c1
  have x1 : w1.cell? ⟨w.heap.size, 1, none⟩ = some (.int .u64 x.fTxn) := (row0.go hw0 c0 (.inr rfl)).cell 1
  go_wp2_with fail
  go_fit (wnum_e _ (w.heap.size + 1) _ _ _ x.fTxn wr1 h1.out (by have := HL.out; (try simp only [List.length_append]); omega))
  rintro e w2 ⟨rfl, g2, wr2, ch⟩
  have c2 := c0.trans ch
  clear ch
  clear wr1
  replace c0 := c2
  clear c2 x1
  have x2 : w2.cell? ⟨w.heap.size, 2, none⟩ = some (.int .i64 x.fN) := (row0.go hw0 c0 (.inr rfl)).cell 2
  go_wp2_with fail
  go_fit (wint_e _ (w.heap.size + 1) _ _ _ x.fN wr2 h2.out (by have := HL.out; (try simp only [List.length_append]); omega))
  rintro e w3 ⟨rfl, g3, wr3, ch⟩
  have c3 := c0.trans ch
  clear ch
  clear wr2
  replace c0 := c3
  clear c3 x2
  have x3 : w3.cell? ⟨w.heap.size, 3, none⟩ = some (.bool x.fFlag) := (row0.go hw0 c0 (.inr rfl)).cell 3
  go_wp2_with fail
  go_fit (wflag_c _ (w.heap.size + 1) _ _ _ x.fFlag wr3 (by have := HL.out; (try simp only [List.length_append]); omega))
  rintro e w4 ⟨rfl, g4, wr4, ch⟩
  have c4 := c0.trans ch
  clear ch
  clear wr3
  replace c0 := c4
  clear c4 x3
  have x4 : w4.cell? ⟨w.heap.size, 4, none⟩ = some (.slice aPairs x.fPairs.length cPairs) := (row0.go hw0 c0 (.inr rfl)).cell 4
  go_wp2_with fail
  go_fit (wl_Pair _ (w.heap.size + 1) _ _ _ aPairs _ cPairs x.fPairs ((rList_lawful rGPair_lawful).go h4.out hw0 c0) wr4 (by have := HL.out; (try simp only [List.length_append]); omega))
  rintro e w5 ⟨rfl, g5, wr5, ch⟩
  have c5 := c0.trans ch
  clear ch
  clear wr4
  replace c0 := c5
  clear c5 x4
  have x5 : w5.cell? ⟨w.heap.size, 5, none⟩ = some (.slice aTxns x.fTxns.length cTxns) := (row0.go hw0 c0 (.inr rfl)).cell 5
  go_wp2_with fail
  go_fit (wl_num _ (w.heap.size + 1) _ _ _ aTxns _ cTxns x.fTxns ((rList_lawful (rInt_lawful _)).go h5.out hw0 c0) wr5 (by have := HL.out; (try simp only [List.length_append]); omega))
  rintro e w6 ⟨rfl, g6, wr6, ch⟩
  have c6 := c0.trans ch
  clear ch
  clear wr5
  replace c0 := c6
  clear c6 x5
  have x6 : w6.cell? ⟨w.heap.size, 6, none⟩ = some (.int .i64 x.fCatalog.fVersion) := (row0.go hw0 c0 (.inr rfl)).cell 6
  have x7 : w6.cell? ⟨w.heap.size, 7, none⟩ = some (.int .i64 x.fCatalog.fNext) := (row0.go hw0 c0 (.inr rfl)).cell 7
  have x8 : w6.cell? ⟨w.heap.size, 8, none⟩ = some (.slice aCatalogTables x.fCatalog.fTables.length cCatalogTables) := (row0.go hw0 c0 (.inr rfl)).cell 8
  have x9 : w6.cell? ⟨w.heap.size, 9, none⟩ = some (.slice aCatalogIndexes x.fCatalog.fIndexes.length cCatalogIndexes) := (row0.go hw0 c0 (.inr rfl)).cell 9
  go_wp2_with fail
  go_fit (wCatalog_c _ (w.heap.size + 1) _ _ _ x.fCatalog _ (rGCatalog_lawful.go h6.out hw0 c0) wr6 (by have := HL.out; (try simp only [List.length_append]); omega))
  rintro e w7 ⟨rfl, g7, wr7, ch⟩
  have c7 := c0.trans ch
  clear ch
  clear wr6
  replace c0 := c7
  clear c7 x6 x7 x8 x9
  have x10 : w7.cell? ⟨w.heap.size, 10, none⟩ = some (.int .i64 x.fRoutes.fEpoch) := (row0.go hw0 c0 (.inr rfl)).cell 10
  have x11 : w7.cell? ⟨w.heap.size, 11, none⟩ = some (.int .i64 x.fRoutes.fBase) := (row0.go hw0 c0 (.inr rfl)).cell 11
  have x12 : w7.cell? ⟨w.heap.size, 12, none⟩ = some (.slice aRoutesSpans x.fRoutes.fSpans.length cRoutesSpans) := (row0.go hw0 c0 (.inr rfl)).cell 12
  have x13 : w7.cell? ⟨w.heap.size, 13, none⟩ = some (.int .i64 x.fRoutes.fMoving) := (row0.go hw0 c0 (.inr rfl)).cell 13
  have x14 : w7.cell? ⟨w.heap.size, 14, none⟩ = some (.slice aRoutesCut x.fRoutes.fCut.length cRoutesCut) := (row0.go hw0 c0 (.inr rfl)).cell 14
  go_wp2_with fail
  go_fit (wRoutes_c _ (w.heap.size + 1) _ _ _ x.fRoutes _ (rGRoutes_lawful.go h7.out hw0 c0) wr7 (by have := HL.out; (try simp only [List.length_append]); omega))
  rintro e w8 ⟨rfl, g8, wr8, ch⟩
  have c8 := c0.trans ch
  clear ch
  clear wr7
  replace c0 := c8
  clear c8 x10 x11 x12 x13 x14
  have HE : Hid (encGReply x = out ++ encI x.fErr ++ encU x.fTxn ++ encI x.fN ++ encF x.fFlag ++ encL encGPair x.fPairs ++ encL encU x.fTxns ++ encGCatalog x.fCatalog ++ encGRoutes x.fRoutes) := by show _ = _; rw [hout.out]; (try simp only [encGReply, List.nil_append, List.append_assoc])
  generalize out ++ encI x.fErr ++ encU x.fTxn ++ encI x.fN ++ encF x.fFlag ++ encL encGPair x.fPairs ++ encL encU x.fTxns ++ encGCatalog x.fCatalog ++ encGRoutes x.fRoutes = O at HE wr8
  obtain ⟨aw, capw, hcw, hfw, ownw, hgw, -⟩ := wr8.cell
  clear wr8 row0 hw0 HL
  go_wp2_with fail
  go_ret
  rw [HE.out]
  rw [hg.out] at c0
  exact made_of (by omega) (((Keep.refl Nix w).alloc _).alloc _) c0 ownw hgw
end Go.Proofs.YtabgbleldbapbaaGreat
