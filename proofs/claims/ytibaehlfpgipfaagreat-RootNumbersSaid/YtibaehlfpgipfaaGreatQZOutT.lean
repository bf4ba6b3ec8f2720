/- THE WALKS of the reference's writer on lists and structs. Printed by gen5.py. -/
import Derived.Test.YtibaehlfpgipfaaGreatQZPut
namespace Go.Proofs.YtibaehlfpgipfaaGreat
open Go.RowKit
def Made (out : List UInt8) (w : World) (e : Ending) (w' : World) : Prop := ∃ a cap, e = .returned (.slice a out.length cap) ∧ w'.ownsRow w.heap.size 5 1 (.slice a out.length cap) out.length (out.map bv) ∧ Keep Nix w w'
theorem owned_up {w : World} {base base' : Nat} {e sz : Nat} {v : Value} {n : Nat} {xs : List Value} (h : w.ownsRow base e sz v n xs) (hb : ∀ b, v.ownBlock = some b → base' ≤ b) : w.ownsRow base' e sz v n xs := by
 refine ⟨h.1, ?_⟩
 rcases h.2 with hn | ⟨g, cap, cur, rfl, hb', rest⟩
 ·exact .inl hn
 ·exact .inr ⟨g, cap, cur, rfl, hb _ rfl, rest⟩
theorem made_of {w w0 w' : World} {r : Nat} {g' : Option Nat} {out : List UInt8} {a : Option Addr} {cap : Nat} (hr : w.heap.size ≤ r) (k : Keep Nix w w0) (c : Chain r w0 none w' g')
  (own : w'.ownsRow 0 5 1 (.slice a out.length cap) out.length (out.map bv)) (hg : (Value.slice a out.length cap).ownBlock = g') : Made out w (.returned (.slice a out.length cap)) w' :=
 ⟨a, cap, rfl, owned_up own (fun b hb => by
   have := c.new b (hg.symm.trans hb)
   rcases this with h | h
   ·exact absurd h (by simp)
   ·exact Nat.le_trans k.size h), k.then c.keep (fun i hi hs => by
   rcases hs with rfl | hs
   ·omega
   ·exact absurd hs (by simp))⟩
set_option maxRecDepth 100000 in
set_option maxHeartbeats 16000000 in
theorem wTCatalog_c (w : World) (p : Nat → Prop) (hp : ∀ b, p b → b < w.heap.size) (x : GCatalog) (cs : List Value) (hx : rGCatalog w p cs x) (hb : (encGCatalog x).length ≤ far) :
  Calls Tryz.prog 31 #[.agg cs.toArray] w (Made (encGCatalog x) w) := by
 obtain ⟨aTables, cTables, aIndexes, cIndexes, rfl, h0, h1, h2, h3, -⟩ := rGCatalog_open hx
 obtain ⟨out, hout⟩ : ∃ out : List UInt8, Hid (out = []) := ⟨[], rfl⟩
 obtain ⟨g, hg⟩ : ∃ g : Option Nat, Hid (g = none) := ⟨none, rfl⟩
 have hw0 : Wr ((w.alloc (.cells #[.int .i64 x.fVersion, .int .i64 x.fNext, .slice aTables x.fTables.length cTables, .slice aIndexes x.fIndexes.length cIndexes] 50)).alloc (.cells #[.slice none 0 0] 141)) 141 (w.heap.size + 1) g out (PB p w.heap.size) := by
  rw [hout.out, hg.out]
  have := Wr.new (w.alloc (.cells #[.int .i64 x.fVersion, .int .i64 x.fNext, .slice aTables x.fTables.length cTables, .slice aIndexes x.fIndexes.length cIndexes] 50)) 141 (PB p w.heap.size) (fun b hb => by
   rcases hb with hb | rfl
   ·have := hp b hb; simp; omega
   ·simp)
  simpa using this
 have row0 : RowIs ((w.alloc (.cells #[.int .i64 x.fVersion, .int .i64 x.fNext, .slice aTables x.fTables.length cTables, .slice aIndexes x.fIndexes.length cIndexes] 50)).alloc (.cells #[.slice none 0 0] 141)) w.heap.size 50 [.int .i64 x.fVersion, .int .i64 x.fNext, .slice aTables x.fTables.length cTables, .slice aIndexes x.fIndexes.length cIndexes] := (RowIs.alloc w _ _).keep ((Keep.refl Nix _).alloc _) id
 replace h0 := Lib.hid h0
 replace h1 := Lib.hid h1
 replace h2 := (rList_lawful rGTable_lawful).nix ((rList_lawful rGTable_lawful).box h2 (.cells #[.int .i64 x.fVersion, .int .i64 x.fNext, .slice aTables x.fTables.length cTables, .slice aIndexes x.fIndexes.length cIndexes] 50)) ((Keep.refl Nix _).alloc (.cells #[.slice none 0 0] 141))
 replace h2 := Lib.hid h2
 replace h3 := (rList_lawful rGIndex_lawful).nix ((rList_lawful rGIndex_lawful).box h3 (.cells #[.int .i64 x.fVersion, .int .i64 x.fNext, .slice aTables x.fTables.length cTables, .slice aIndexes x.fIndexes.length cIndexes] 50)) ((Keep.refl Nix _).alloc (.cells #[.slice none 0 0] 141))
 replace h3 := Lib.hid h3
 have HL : Hid (out.length + ((encI x.fVersion).length + (encI x.fNext).length + (encL encGTable x.fTables).length + (encL encGIndex x.fIndexes).length) ≤ far) := by
  show _ ≤ _
  rw [hout.out]
  simp only [encGCatalog, List.length_append] at hb; simp only [List.length_nil]; omega
 have c0 : Chain (w.heap.size + 1) ((w.alloc (.cells #[.int .i64 x.fVersion, .int .i64 x.fNext, .slice aTables x.fTables.length cTables, .slice aIndexes x.fIndexes.length cIndexes] 50)).alloc (.cells #[.slice none 0 0] 141)) g ((w.alloc (.cells #[.int .i64 x.fVersion, .int .i64 x.fNext, .slice aTables x.fTables.length cTables, .slice aIndexes x.fIndexes.length cIndexes] 50)).alloc (.cells #[.slice none 0 0] 141)) g := Chain.refl _ _ _
 have hx0 := hx
 have hx2 := rGCatalog_lawful.nix (rGCatalog_lawful.box hx0 (.cells #[.int .i64 x.fVersion, .int .i64 x.fNext, .slice aTables x.fTables.length cTables, .slice aIndexes x.fIndexes.length cIndexes] 50)) ((Keep.refl Nix _).alloc (.cells #[.slice none 0 0] 141))
 clear hb hx hx0
 go_enter Tryz.func31, Tryz.ntmps31
 go_wp2_with fail
 go_fit (wCatalog_c _ (w.heap.size + 1) _ _ _ x _ hx2 hw0 (by have := HL.out; simp only [encGCatalog, List.length_append]; omega))
 rintro e w1 ⟨rfl, g1, wr1, ch⟩
 have c1 := c0.trans ch
 clear ch c0 hx2
 have c0 := c1
 clear c1
 have HE : Hid (encGCatalog x = out ++ encGCatalog x) := by show _ = _; rw [hout.out]; (try simp only [encGCatalog, List.nil_append, List.append_assoc])
 generalize out ++ encGCatalog x = O at HE wr1
 obtain ⟨aw, capw, hcw, hfw, ownw, hgw, -⟩ := wr1.cell
 clear wr1 row0 hw0 HL
 go_wp2_with fail
 go_ret
 rw [HE.out]
 rw [hg.out] at c0
 exact made_of (by omega) (((Keep.refl Nix w).alloc _).alloc _) c0 ownw hgw
set_option maxRecDepth 100000 in
set_option maxHeartbeats 16000000 in
theorem wTReply_c (w : World) (p : Nat → Prop) (hp : ∀ b, p b → b < w.heap.size) (x : GReply) (cs : List Value) (hx : rGReply w p cs x) (hb : (encGReply x).length ≤ far) :
  Calls Tryz.prog 56 #[.agg cs.toArray] w (Made (encGReply x) w) := by
 obtain ⟨aPairs, cPairs, aTxns, cTxns, aCatalogTables, cCatalogTables, aCatalogIndexes, cCatalogIndexes, aRoutesSpans, cRoutesSpans, aRoutesCut, cRoutesCut, rfl, h0, h1, h2, h4, h5, h6, h7, -⟩ := rGReply_open hx
 obtain ⟨out, hout⟩ : ∃ out : List UInt8, Hid (out = []) := ⟨[], rfl⟩
 obtain ⟨g, hg⟩ : ∃ g : Option Nat, Hid (g = none) := ⟨none, rfl⟩
 have hw0 : Wr ((w.alloc (.cells #[.int .i64 x.fErr, .int .u64 x.fTxn, .int .i64 x.fN, .bool x.fFlag, .slice aPairs x.fPairs.length cPairs, .slice aTxns x.fTxns.length cTxns, .int .i64 x.fCatalog.fVersion, .int .i64 x.fCatalog.fNext, .slice aCatalogTables x.fCatalog.fTables.length cCatalogTables, .slice aCatalogIndexes x.fCatalog.fIndexes.length cCatalogIndexes, .int .i64 x.fRoutes.fEpoch, .int .i64 x.fRoutes.fBase, .slice aRoutesSpans x.fRoutes.fSpans.length cRoutesSpans, .int .i64 x.fRoutes.fMoving, .slice aRoutesCut x.fRoutes.fCut.length cRoutesCut] 55)).alloc (.cells #[.slice none 0 0] 141)) 141 (w.heap.size + 1) g out (PB p w.heap.size) := by
  rw [hout.out, hg.out]
  have := Wr.new (w.alloc (.cells #[.int .i64 x.fErr, .int .u64 x.fTxn, .int .i64 x.fN, .bool x.fFlag, .slice aPairs x.fPairs.length cPairs, .slice aTxns x.fTxns.length cTxns, .int .i64 x.fCatalog.fVersion, .int .i64 x.fCatalog.fNext, .slice aCatalogTables x.fCatalog.fTables.length cCatalogTables, .slice aCatalogIndexes x.fCatalog.fIndexes.length cCatalogIndexes, .int .i64 x.fRoutes.fEpoch, .int .i64 x.fRoutes.fBase, .slice aRoutesSpans x.fRoutes.fSpans.length cRoutesSpans, .int .i64 x.fRoutes.fMoving, .slice aRoutesCut x.fRoutes.fCut.length cRoutesCut] 55)) 141 (PB p w.heap.size) (fun b hb => by
   rcases hb with hb | rfl
   ·have := hp b hb; simp; omega
   ·simp)
  simpa using this
 have row0 : RowIs ((w.alloc (.cells #[.int .i64 x.fErr, .int .u64 x.fTxn, .int .i64 x.fN, .bool x.fFlag, .slice aPairs x.fPairs.length cPairs, .slice aTxns x.fTxns.length cTxns, .int .i64 x.fCatalog.fVersion, .int .i64 x.fCatalog.fNext, .slice aCatalogTables x.fCatalog.fTables.length cCatalogTables, .slice aCatalogIndexes x.fCatalog.fIndexes.length cCatalogIndexes, .int .i64 x.fRoutes.fEpoch, .int .i64 x.fRoutes.fBase, .slice aRoutesSpans x.fRoutes.fSpans.length cRoutesSpans, .int .i64 x.fRoutes.fMoving, .slice aRoutesCut x.fRoutes.fCut.length cRoutesCut] 55)).alloc (.cells #[.slice none 0 0] 141)) w.heap.size 55 [.int .i64 x.fErr, .int .u64 x.fTxn, .int .i64 x.fN, .bool x.fFlag, .slice aPairs x.fPairs.length cPairs, .slice aTxns x.fTxns.length cTxns, .int .i64 x.fCatalog.fVersion, .int .i64 x.fCatalog.fNext, .slice aCatalogTables x.fCatalog.fTables.length cCatalogTables, .slice aCatalogIndexes x.fCatalog.fIndexes.length cCatalogIndexes, .int .i64 x.fRoutes.fEpoch, .int .i64 x.fRoutes.fBase, .slice aRoutesSpans x.fRoutes.fSpans.length cRoutesSpans, .int .i64 x.fRoutes.fMoving, .slice aRoutesCut x.fRoutes.fCut.length cRoutesCut] := (RowIs.alloc w _ _).keep ((Keep.refl Nix _).alloc _) id
 have hiErr : IntKind.i64.wrap x.fErr = x.fErr := by rw [IntKind.wrap_i64]; have := h0; unfold isI64 at this; omega
 replace h0 := Lib.hid h0
 replace h1 := Lib.hid h1
 replace h2 := Lib.hid h2
 replace h4 := (rList_lawful rGPair_lawful).nix ((rList_lawful rGPair_lawful).box h4 (.cells #[.int .i64 x.fErr, .int .u64 x.fTxn, .int .i64 x.fN, .bool x.fFlag, .slice aPairs x.fPairs.length cPairs, .slice aTxns x.fTxns.length cTxns, .int .i64 x.fCatalog.fVersion, .int .i64 x.fCatalog.fNext, .slice aCatalogTables x.fCatalog.fTables.length cCatalogTables, .slice aCatalogIndexes x.fCatalog.fIndexes.length cCatalogIndexes, .int .i64 x.fRoutes.fEpoch, .int .i64 x.fRoutes.fBase, .slice aRoutesSpans x.fRoutes.fSpans.length cRoutesSpans, .int .i64 x.fRoutes.fMoving, .slice aRoutesCut x.fRoutes.fCut.length cRoutesCut] 55)) ((Keep.refl Nix _).alloc (.cells #[.slice none 0 0] 141))
 replace h4 := Lib.hid h4
 replace h5 := (rList_lawful (rInt_lawful _)).nix ((rList_lawful (rInt_lawful _)).box h5 (.cells #[.int .i64 x.fErr, .int .u64 x.fTxn, .int .i64 x.fN, .bool x.fFlag, .slice aPairs x.fPairs.length cPairs, .slice aTxns x.fTxns.length cTxns, .int .i64 x.fCatalog.fVersion, .int .i64 x.fCatalog.fNext, .slice aCatalogTables x.fCatalog.fTables.length cCatalogTables, .slice aCatalogIndexes x.fCatalog.fIndexes.length cCatalogIndexes, .int .i64 x.fRoutes.fEpoch, .int .i64 x.fRoutes.fBase, .slice aRoutesSpans x.fRoutes.fSpans.length cRoutesSpans, .int .i64 x.fRoutes.fMoving, .slice aRoutesCut x.fRoutes.fCut.length cRoutesCut] 55)) ((Keep.refl Nix _).alloc (.cells #[.slice none 0 0] 141))
 replace h5 := Lib.hid h5
 replace h6 := rGCatalog_lawful.nix (rGCatalog_lawful.box h6 (.cells #[.int .i64 x.fErr, .int .u64 x.fTxn, .int .i64 x.fN, .bool x.fFlag, .slice aPairs x.fPairs.length cPairs, .slice aTxns x.fTxns.length cTxns, .int .i64 x.fCatalog.fVersion, .int .i64 x.fCatalog.fNext, .slice aCatalogTables x.fCatalog.fTables.length cCatalogTables, .slice aCatalogIndexes x.fCatalog.fIndexes.length cCatalogIndexes, .int .i64 x.fRoutes.fEpoch, .int .i64 x.fRoutes.fBase, .slice aRoutesSpans x.fRoutes.fSpans.length cRoutesSpans, .int .i64 x.fRoutes.fMoving, .slice aRoutesCut x.fRoutes.fCut.length cRoutesCut] 55)) ((Keep.refl Nix _).alloc (.cells #[.slice none 0 0] 141))
 replace h6 := Lib.hid h6
 replace h7 := rGRoutes_lawful.nix (rGRoutes_lawful.box h7 (.cells #[.int .i64 x.fErr, .int .u64 x.fTxn, .int .i64 x.fN, .bool x.fFlag, .slice aPairs x.fPairs.length cPairs, .slice aTxns x.fTxns.length cTxns, .int .i64 x.fCatalog.fVersion, .int .i64 x.fCatalog.fNext, .slice aCatalogTables x.fCatalog.fTables.length cCatalogTables, .slice aCatalogIndexes x.fCatalog.fIndexes.length cCatalogIndexes, .int .i64 x.fRoutes.fEpoch, .int .i64 x.fRoutes.fBase, .slice aRoutesSpans x.fRoutes.fSpans.length cRoutesSpans, .int .i64 x.fRoutes.fMoving, .slice aRoutesCut x.fRoutes.fCut.length cRoutesCut] 55)) ((Keep.refl Nix _).alloc (.cells #[.slice none 0 0] 141))
 replace h7 := Lib.hid h7
 have HL : Hid (out.length + ((encI x.fErr).length + (encU x.fTxn).length + (encI x.fN).length + (encF x.fFlag).length + (encL encGPair x.fPairs).length + (encL encU x.fTxns).length + (encGCatalog x.fCatalog).length + (encGRoutes x.fRoutes).length) ≤ far) := by
  show _ ≤ _
  rw [hout.out]
  simp only [encGReply, List.length_append] at hb; simp only [List.length_nil]; omega
 have c0 : Chain (w.heap.size + 1) ((w.alloc (.cells #[.int .i64 x.fErr, .int .u64 x.fTxn, .int .i64 x.fN, .bool x.fFlag, .slice aPairs x.fPairs.length cPairs, .slice aTxns x.fTxns.length cTxns, .int .i64 x.fCatalog.fVersion, .int .i64 x.fCatalog.fNext, .slice aCatalogTables x.fCatalog.fTables.length cCatalogTables, .slice aCatalogIndexes x.fCatalog.fIndexes.length cCatalogIndexes, .int .i64 x.fRoutes.fEpoch, .int .i64 x.fRoutes.fBase, .slice aRoutesSpans x.fRoutes.fSpans.length cRoutesSpans, .int .i64 x.fRoutes.fMoving, .slice aRoutesCut x.fRoutes.fCut.length cRoutesCut] 55)).alloc (.cells #[.slice none 0 0] 141)) g ((w.alloc (.cells #[.int .i64 x.fErr, .int .u64 x.fTxn, .int .i64 x.fN, .bool x.fFlag, .slice aPairs x.fPairs.length cPairs, .slice aTxns x.fTxns.length cTxns, .int .i64 x.fCatalog.fVersion, .int .i64 x.fCatalog.fNext, .slice aCatalogTables x.fCatalog.fTables.length cCatalogTables, .slice aCatalogIndexes x.fCatalog.fIndexes.length cCatalogIndexes, .int .i64 x.fRoutes.fEpoch, .int .i64 x.fRoutes.fBase, .slice aRoutesSpans x.fRoutes.fSpans.length cRoutesSpans, .int .i64 x.fRoutes.fMoving, .slice aRoutesCut x.fRoutes.fCut.length cRoutesCut] 55)).alloc (.cells #[.slice none 0 0] 141)) g := Chain.refl _ _ _
 clear hb hx
 go_enter Tryz.func56, Tryz.ntmps56
 go_wp2_with fail
 go_fit (wint_e _ (w.heap.size + 1) _ _ _ x.fErr hw0 h0.out (by have := HL.out; (try simp only [List.length_append]); omega))
 rintro e w1 ⟨rfl, g1, wr1, ch⟩
 have c1 := c0.trans ch
 clear ch
 replace c0 := c1
 clear c1
 have x1 : w1.cell? ⟨w.heap.size, 1, none⟩ = some (.int .u64 x.fTxn) := (row0.go hw0 c0 (.inr rfl)).cell 1
 go_wp2_with fail
 go_fit (wnum_e _ (w.heap.size + 1) _ _ _ x.fTxn wr1 h1.out (by have := HL.out; (try simp only [List.length_append]); omega))
 rintro e w2 ⟨rfl, g2, wr2, ch⟩
 have c2 := c0.trans ch
 clear ch
 clear wr1
 replace c0 := c2
 clear c2 x1
 have x2 : w2.cell? ⟨w.heap.size, 2, none⟩ = some (.int .i64 x.fN) := (row0.go hw0 c0 (.inr rfl)).cell 2
 go_wp2_with fail
 go_fit (wint_e _ (w.heap.size + 1) _ _ _ x.fN wr2 h2.out (by have := HL.out; (try simp only [List.length_append]); omega))
 rintro e w3 ⟨rfl, g3, wr3, ch⟩
 have c3 := c0.trans ch
 clear ch
 clear wr2
 replace c0 := c3
 clear c3 x2
 have x3 : w3.cell? ⟨w.heap.size, 3, none⟩ = some (.bool x.fFlag) := (row0.go hw0 c0 (.inr rfl)).cell 3
 go_wp2_with fail
 go_fit (wflag_c _ (w.heap.size + 1) _ _ _ x.fFlag wr3 (by have := HL.out; (try simp only [List.length_append]); omega))
 rintro e w4 ⟨rfl, g4, wr4, ch⟩
 have c4 := c0.trans ch
 clear ch
 clear wr3
 replace c0 := c4
 clear c4 x3
 have x4 : w4.cell? ⟨w.heap.size, 4, none⟩ = some (.slice aPairs x.fPairs.length cPairs) := (row0.go hw0 c0 (.inr rfl)).cell 4
 go_wp2_with fail
 go_fit (wl_Pair _ (w.heap.size + 1) _ _ _ aPairs _ cPairs x.fPairs ((rList_lawful rGPair_lawful).go h4.out hw0 c0) wr4 (by have := HL.out; (try simp only [List.length_append]); omega))
 rintro e w5 ⟨rfl, g5, wr5, ch⟩
 have c5 := c0.trans ch
 clear ch
 clear wr4
 replace c0 := c5
 clear c5 x4
 have x5 : w5.cell? ⟨w.heap.size, 5, none⟩ = some (.slice aTxns x.fTxns.length cTxns) := (row0.go hw0 c0 (.inr rfl)).cell 5
 go_wp2_with fail
 go_fit (wl_num _ (w.heap.size + 1) _ _ _ aTxns _ cTxns x.fTxns ((rList_lawful (rInt_lawful _)).go h5.out hw0 c0) wr5 (by have := HL.out; (try simp only [List.length_append]); omega))
 rintro e w6 ⟨rfl, g6, wr6, ch⟩
 have c6 := c0.trans ch
 clear ch
 clear wr5
 replace c0 := c6
 clear c6 x5
 have x6 : w6.cell? ⟨w.heap.size, 6, none⟩ = some (.int .i64 x.fCatalog.fVersion) := (row0.go hw0 c0 (.inr rfl)).cell 6
 have x7 : w6.cell? ⟨w.heap.size, 7, none⟩ = some (.int .i64 x.fCatalog.fNext) := (row0.go hw0 c0 (.inr rfl)).cell 7
 have x8 : w6.cell? ⟨w.heap.size, 8, none⟩ = some (.slice aCatalogTables x.fCatalog.fTables.length cCatalogTables) := (row0.go hw0 c0 (.inr rfl)).cell 8
 have x9 : w6.cell? ⟨w.heap.size, 9, none⟩ = some (.slice aCatalogIndexes x.fCatalog.fIndexes.length cCatalogIndexes) := (row0.go hw0 c0 (.inr rfl)).cell 9
 go_wp2_with fail
 go_fit (wCatalog_c _ (w.heap.size + 1) _ _ _ x.fCatalog _ (rGCatalog_lawful.go h6.out hw0 c0) wr6 (by have := HL.out; (try simp only [List.length_append]); omega))
 rintro e w7 ⟨rfl, g7, wr7, ch⟩
 have c7 := c0.trans ch
 clear ch
 clear wr6
 replace c0 := c7
 clear c7 x6 x7 x8 x9
 have x10 : w7.cell? ⟨w.heap.size, 10, none⟩ = some (.int .i64 x.fRoutes.fEpoch) := (row0.go hw0 c0 (.inr rfl)).cell 10
 have x11 : w7.cell? ⟨w.heap.size, 11, none⟩ = some (.int .i64 x.fRoutes.fBase) := (row0.go hw0 c0 (.inr rfl)).cell 11
 have x12 : w7.cell? ⟨w.heap.size, 12, none⟩ = some (.slice aRoutesSpans x.fRoutes.fSpans.length cRoutesSpans) := (row0.go hw0 c0 (.inr rfl)).cell 12
 have x13 : w7.cell? ⟨w.heap.size, 13, none⟩ = some (.int .i64 x.fRoutes.fMoving) := (row0.go hw0 c0 (.inr rfl)).cell 13
 have x14 : w7.cell? ⟨w.heap.size, 14, none⟩ = some (.slice aRoutesCut x.fRoutes.fCut.length cRoutesCut) := (row0.go hw0 c0 (.inr rfl)).cell 14
 go_wp2_with fail
 go_fit (wRoutes_c _ (w.heap.size + 1) _ _ _ x.fRoutes _ (rGRoutes_lawful.go h7.out hw0 c0) wr7 (by have := HL.out; (try simp only [List.length_append]); omega))
 rintro e w8 ⟨rfl, g8, wr8, ch⟩
 have c8 := c0.trans ch
 clear ch
 clear wr7
 replace c0 := c8
 clear c8 x10 x11 x12 x13 x14
 have HE : Hid (encGReply x = out ++ encI x.fErr ++ encU x.fTxn ++ encI x.fN ++ encF x.fFlag ++ encL encGPair x.fPairs ++ encL encU x.fTxns ++ encGCatalog x.fCatalog ++ encGRoutes x.fRoutes) := by show _ = _; rw [hout.out]; (try simp only [encGReply, List.nil_append, List.append_assoc])
 generalize out ++ encI x.fErr ++ encU x.fTxn ++ encI x.fN ++ encF x.fFlag ++ encL encGPair x.fPairs ++ encL encU x.fTxns ++ encGCatalog x.fCatalog ++ encGRoutes x.fRoutes = O at HE wr8
 obtain ⟨aw, capw, hcw, hfw, ownw, hgw, -⟩ := wr8.cell
 clear wr8 row0 hw0 HL
 go_wp2_with fail
 go_ret
 rw [HE.out]
 rw [hg.out] at c0
 exact made_of (by omega) (((Keep.refl Nix w).alloc _).alloc _) c0 ownw hgw
end Go.Proofs.YtibaehlfpgipfaaGreat
