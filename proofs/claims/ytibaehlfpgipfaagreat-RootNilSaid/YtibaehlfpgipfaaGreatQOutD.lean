/- THE WALKS of the reference's writer on lists and structs. Printed by gen5.py. -/
import Derived.Test.YtibaehlfpgipfaaGreatQOutB
import Derived.Test.YtibaehlfpgipfaaGreatQOutT
namespace Go.Proofs.YtibaehlfpgipfaaGreat
open Go.RowKit

set_option maxRecDepth 100000 in
set_option maxHeartbeats 16000000 in
theorem oTReply_c (w : World) (p : Nat → Prop) (hp : ∀ b, p b → b < w.heap.size) (x : GReply) (cs : List Value) (hx : rGReply w p cs x) (hb : (encGReply x).length ≤ far) :
    Calls Tryz.prog 20 #[.agg cs.toArray] w (Made (encGReply x) w) := by
  obtain ⟨aPairs, cPairs, aTxns, cTxns, aCatalogTables, cCatalogTables, aCatalogIndexes, cCatalogIndexes, aRoutesSpans, cRoutesSpans, aRoutesCut, cRoutesCut, rfl, h0, h1, h2, h4, h5, h6, h7, -⟩ := rGReply_open hx
  obtain ⟨out, hout⟩ : ∃ out : List UInt8, Hid (out = []) := ⟨[], rfl⟩
  obtain ⟨g, hg⟩ : ∃ g : Option Nat, Hid (g = none) := ⟨none, rfl⟩
  have hw0 : Wr ((w.alloc (.cells #[.int .i64 x.fErr, .int .u64 x.fTxn, .int .i64 x.fN, .bool x.fFlag, .slice aPairs x.fPairs.length cPairs, .slice aTxns x.fTxns.length cTxns, .int .i64 x.fCatalog.fVersion, .int .i64 x.fCatalog.fNext, .slice aCatalogTables x.fCatalog.fTables.length cCatalogTables, .slice aCatalogIndexes x.fCatalog.fIndexes.length cCatalogIndexes, .int .i64 x.fRoutes.fEpoch, .int .i64 x.fRoutes.fBase, .slice aRoutesSpans x.fRoutes.fSpans.length cRoutesSpans, .int .i64 x.fRoutes.fMoving, .slice aRoutesCut x.fRoutes.fCut.length cRoutesCut] 55)).alloc (.cells #[.slice none 0 0] 121)) 121 (w.heap.size + 1) g out (PB p w.heap.size) := by
    rw [hout.out, hg.out]
    have := Wr.new (w.alloc (.cells #[.int .i64 x.fErr, .int .u64 x.fTxn, .int .i64 x.fN, .bool x.fFlag, .slice aPairs x.fPairs.length cPairs, .slice aTxns x.fTxns.length cTxns, .int .i64 x.fCatalog.fVersion, .int .i64 x.fCatalog.fNext, .slice aCatalogTables x.fCatalog.fTables.length cCatalogTables, .slice aCatalogIndexes x.fCatalog.fIndexes.length cCatalogIndexes, .int .i64 x.fRoutes.fEpoch, .int .i64 x.fRoutes.fBase, .slice aRoutesSpans x.fRoutes.fSpans.length cRoutesSpans, .int .i64 x.fRoutes.fMoving, .slice aRoutesCut x.fRoutes.fCut.length cRoutesCut] 55)) 121 (PB p w.heap.size) (fun b hb => by
      rcases hb with hb | rfl
      · have := hp b hb; simp; omega
      · simp)
    simpa using this
  have row0 : RowIs ((w.alloc (.cells #[.int .i64 x.fErr, .int .u64 x.fTxn, .int .i64 x.fN, .bool x.fFlag, .slice aPairs x.fPairs.length cPairs, .slice aTxns x.fTxns.length cTxns, .int .i64 x.fCatalog.fVersion, .int .i64 x.fCatalog.fNext, .slice aCatalogTables x.fCatalog.fTables.length cCatalogTables, .slice aCatalogIndexes x.fCatalog.fIndexes.length cCatalogIndexes, .int .i64 x.fRoutes.fEpoch, .int .i64 x.fRoutes.fBase, .slice aRoutesSpans x.fRoutes.fSpans.length cRoutesSpans, .int .i64 x.fRoutes.fMoving, .slice aRoutesCut x.fRoutes.fCut.length cRoutesCut] 55)).alloc (.cells #[.slice none 0 0] 121)) w.heap.size 55 [.int .i64 x.fErr, .int .u64 x.fTxn, .int .i64 x.fN, .bool x.fFlag, .slice aPairs x.fPairs.length cPairs, .slice aTxns x.fTxns.length cTxns, .int .i64 x.fCatalog.fVersion, .int .i64 x.fCatalog.fNext, .slice aCatalogTables x.fCatalog.fTables.length cCatalogTables, .slice aCatalogIndexes x.fCatalog.fIndexes.length cCatalogIndexes, .int .i64 x.fRoutes.fEpoch, .int .i64 x.fRoutes.fBase, .slice aRoutesSpans x.fRoutes.fSpans.length cRoutesSpans, .int .i64 x.fRoutes.fMoving, .slice aRoutesCut x.fRoutes.fCut.length cRoutesCut] := (RowIs.alloc w _ _).keep ((Keep.refl Nix _).alloc _) id
  have hiErr : IntKind.i64.wrap x.fErr = x.fErr := by rw [IntKind.wrap_i64]; have := h0; unfold isI64 at this; omega
  replace h0 := Lib.hid h0
  replace h1 := Lib.hid h1
  replace h2 := Lib.hid h2
  replace h4 := (rList_lawful rGPair_lawful).nix ((rList_lawful rGPair_lawful).box h4 (.cells #[.int .i64 x.fErr, .int .u64 x.fTxn, .int .i64 x.fN, .bool x.fFlag, .slice aPairs x.fPairs.length cPairs, .slice aTxns x.fTxns.length cTxns, .int .i64 x.fCatalog.fVersion, .int .i64 x.fCatalog.fNext, .slice aCatalogTables x.fCatalog.fTables.length cCatalogTables, .slice aCatalogIndexes x.fCatalog.fIndexes.length cCatalogIndexes, .int .i64 x.fRoutes.fEpoch, .int .i64 x.fRoutes.fBase, .slice aRoutesSpans x.fRoutes.fSpans.length cRoutesSpans, .int .i64 x.fRoutes.fMoving, .slice aRoutesCut x.fRoutes.fCut.length cRoutesCut] 55)) ((Keep.refl Nix _).alloc (.cells #[.slice none 0 0] 121))
  replace h4 := Lib.hid h4
  replace h5 := (rList_lawful (rInt_lawful _)).nix ((rList_lawful (rInt_lawful _)).box h5 (.cells #[.int .i64 x.fErr, .int .u64 x.fTxn, .int .i64 x.fN, .bool x.fFlag, .slice aPairs x.fPairs.length cPairs, .slice aTxns x.fTxns.length cTxns, .int .i64 x.fCatalog.fVersion, .int .i64 x.fCatalog.fNext, .slice aCatalogTables x.fCatalog.fTables.length cCatalogTables, .slice aCatalogIndexes x.fCatalog.fIndexes.length cCatalogIndexes, .int .i64 x.fRoutes.fEpoch, .int .i64 x.fRoutes.fBase, .slice aRoutesSpans x.fRoutes.fSpans.length cRoutesSpans, .int .i64 x.fRoutes.fMoving, .slice aRoutesCut x.fRoutes.fCut.length cRoutesCut] 55)) ((Keep.refl Nix _).alloc (.cells #[.slice none 0 0] 121))
  replace h5 := Lib.hid h5
  replace h6 := rGCatalog_lawful.nix (rGCatalog_lawful.box h6 (.cells #[.int .i64 x.fErr, .int .u64 x.fTxn, .int .i64 x.fN, .bool x.fFlag, .slice aPairs x.fPairs.length cPairs, .slice aTxns x.fTxns.length cTxns, .int .i64 x.fCatalog.fVersion, .int .i64 x.fCatalog.fNext, .slice aCatalogTables x.fCatalog.fTables.length cCatalogTables, .slice aCatalogIndexes x.fCatalog.fIndexes.length cCatalogIndexes, .int .i64 x.fRoutes.fEpoch, .int .i64 x.fRoutes.fBase, .slice aRoutesSpans x.fRoutes.fSpans.length cRoutesSpans, .int .i64 x.fRoutes.fMoving, .slice aRoutesCut x.fRoutes.fCut.length cRoutesCut] 55)) ((Keep.refl Nix _).alloc (.cells #[.slice none 0 0] 121))
  replace h6 := Lib.hid h6
  replace h7 := rGRoutes_lawful.nix (rGRoutes_lawful.box h7 (.cells #[.int .i64 x.fErr, .int .u64 x.fTxn, .int .i64 x.fN, .bool x.fFlag, .slice aPairs x.fPairs.length cPairs, .slice aTxns x.fTxns.length cTxns, .int .i64 x.fCatalog.fVersion, .int .i64 x.fCatalog.fNext, .slice aCatalogTables x.fCatalog.fTables.length cCatalogTables, .slice aCatalogIndexes x.fCatalog.fIndexes.length cCatalogIndexes, .int .i64 x.fRoutes.fEpoch, .int .i64 x.fRoutes.fBase, .slice aRoutesSpans x.fRoutes.fSpans.length cRoutesSpans, .int .i64 x.fRoutes.fMoving, .slice aRoutesCut x.fRoutes.fCut.length cRoutesCut] 55)) ((Keep.refl Nix _).alloc (.cells #[.slice none 0 0] 121))
  replace h7 := Lib.hid h7
  have HL : Hid (out.length + ((encI x.fErr).length + (encU x.fTxn).length + (encI x.fN).length + (encF x.fFlag).length + (encL encGPair x.fPairs).length + (encL encU x.fTxns).length + (encGCatalog x.fCatalog).length + (encGRoutes x.fRoutes).length) ≤ far) := by
    show _ ≤ _
    rw [hout.out]
    simp only [encGReply, List.length_append] at hb; simp only [List.length_nil]; omega
  have c0 : Chain (w.heap.size + 1) ((w.alloc (.cells #[.int .i64 x.fErr, .int .u64 x.fTxn, .int .i64 x.fN, .bool x.fFlag, .slice aPairs x.fPairs.length cPairs, .slice aTxns x.fTxns.length cTxns, .int .i64 x.fCatalog.fVersion, .int .i64 x.fCatalog.fNext, .slice aCatalogTables x.fCatalog.fTables.length cCatalogTables, .slice aCatalogIndexes x.fCatalog.fIndexes.length cCatalogIndexes, .int .i64 x.fRoutes.fEpoch, .int .i64 x.fRoutes.fBase, .slice aRoutesSpans x.fRoutes.fSpans.length cRoutesSpans, .int .i64 x.fRoutes.fMoving, .slice aRoutesCut x.fRoutes.fCut.length cRoutesCut] 55)).alloc (.cells #[.slice none 0 0] 121)) g ((w.alloc (.cells #[.int .i64 x.fErr, .int .u64 x.fTxn, .int .i64 x.fN, .bool x.fFlag, .slice aPairs x.fPairs.length cPairs, .slice aTxns x.fTxns.length cTxns, .int .i64 x.fCatalog.fVersion, .int .i64 x.fCatalog.fNext, .slice aCatalogTables x.fCatalog.fTables.length cCatalogTables, .slice aCatalogIndexes x.fCatalog.fIndexes.length cCatalogIndexes, .int .i64 x.fRoutes.fEpoch, .int .i64 x.fRoutes.fBase, .slice aRoutesSpans x.fRoutes.fSpans.length cRoutesSpans, .int .i64 x.fRoutes.fMoving, .slice aRoutesCut x.fRoutes.fCut.length cRoutesCut] 55)).alloc (.cells #[.slice none 0 0] 121)) g := Chain.refl _ _ _
  clear hb hx
  go_enter Tryz.func20, Tryz.ntmps20
  have HX4 : Hid ((encL encGPair x.fPairs).length = (numB x.fPairs.length).length + (x.fPairs.flatMap encGPair).length) := List.length_append
  have HX5 : Hid ((encL encU x.fTxns).length = (numB x.fTxns.length).length + (x.fTxns.flatMap encU).length) := List.length_append
  go_wp2_with fail
  go_fit (oint_e _ (w.heap.size + 1) _ _ _ x.fErr hw0 h0.out (by have := HL.out; have := HX4.out; have := HX5.out; (try simp only [List.length_append]); omega))
  rintro e w1 ⟨rfl, g1, wr1, ch⟩
  have c1 := c0.trans ch
  clear ch c0
  have c0 := c1
  clear c1
  have x1 : w1.cell? ⟨w.heap.size, 1, none⟩ = some (.int .u64 x.fTxn) := (row0.go hw0 c0 (.inr rfl)).cell 1
  go_wp2_with fail
  go_fit (onum_e _ (w.heap.size + 1) _ _ _ x.fTxn wr1 h1.out (by have := HL.out; have := HX4.out; have := HX5.out; (try simp only [List.length_append]); omega))
  rintro e w2 ⟨rfl, g2, wr2, ch⟩
  have c2 := c0.trans ch
  clear ch c0 wr1 x1
  have c0 := c2
  clear c2
  have x2 : w2.cell? ⟨w.heap.size, 2, none⟩ = some (.int .i64 x.fN) := (row0.go hw0 c0 (.inr rfl)).cell 2
  go_wp2_with fail
  go_fit (oint_e _ (w.heap.size + 1) _ _ _ x.fN wr2 h2.out (by have := HL.out; have := HX4.out; have := HX5.out; (try simp only [List.length_append]); omega))
  rintro e w3 ⟨rfl, g3, wr3, ch⟩
  have c3 := c0.trans ch
  clear ch c0 wr2 x2
  have c0 := c3
  clear c3
  have x3 : w3.cell? ⟨w.heap.size, 3, none⟩ = some (.bool x.fFlag) := (row0.go hw0 c0 (.inr rfl)).cell 3
  go_wp2_with fail
  go_fit (oflag_c _ (w.heap.size + 1) _ _ _ x.fFlag wr3 (by have := HL.out; have := HX4.out; have := HX5.out; (try simp only [List.length_append]); omega))
  rintro e w4 ⟨rfl, g4, wr4, ch⟩
  have c4 := c0.trans ch
  clear ch c0 wr3 x3
  have c0 := c4
  clear c4
  have x4 : w4.cell? ⟨w.heap.size, 4, none⟩ = some (.slice aPairs x.fPairs.length cPairs) := (row0.go hw0 c0 (.inr rfl)).cell 4
  obtain ⟨hn4, -, hf4⟩ := rList_len h4.out
  have HF4 := Lib.hid hf4
  clear hf4 hn4
  have hlen4 : x.fPairs.length ≤ 9223372036854775807 := by have := HF4.out; have := far_len; unfold maxLen at this; omega
  have hwr4 : IntKind.u64.wrap (x.fPairs.length : Int) = (x.fPairs.length : Int) := by rw [IntKind.wrap_u64]; omega
  go_wp2_with fail
  go_fit (onumN _ (w.heap.size + 1) _ _ _ x.fPairs.length wr4 (by unfold isU64; omega) (by have := HL.out; have := HX4.out; have := HX5.out; (try simp only [List.length_append]); omega))
  rintro e w5 ⟨rfl, g5, wr5, ch⟩
  have c5 := c0.trans ch
  clear ch hwr4 wr4 x4
  go_wp2_with fail
  go_loopw [4] (fun i wr => ∃ (k : Nat) (g' : Option Nat), k ≤ x.fPairs.length ∧ i = .int .i64 k ∧ Wr wr 121 (w.heap.size + 1) g' (out ++ encI x.fErr ++ encU x.fTxn ++ encI x.fN ++ encF x.fFlag ++ numB x.fPairs.length ++ (x.fPairs.take k).flatMap encGPair) (PB p w.heap.size) ∧ Chain (w.heap.size + 1) ((w.alloc (.cells #[.int .i64 x.fErr, .int .u64 x.fTxn, .int .i64 x.fN, .bool x.fFlag, .slice aPairs x.fPairs.length cPairs, .slice aTxns x.fTxns.length cTxns, .int .i64 x.fCatalog.fVersion, .int .i64 x.fCatalog.fNext, .slice aCatalogTables x.fCatalog.fTables.length cCatalogTables, .slice aCatalogIndexes x.fCatalog.fIndexes.length cCatalogIndexes, .int .i64 x.fRoutes.fEpoch, .int .i64 x.fRoutes.fBase, .slice aRoutesSpans x.fRoutes.fSpans.length cRoutesSpans, .int .i64 x.fRoutes.fMoving, .slice aRoutesCut x.fRoutes.fCut.length cRoutesCut] 55)).alloc (.cells #[.slice none 0 0] 121)) g wr g') (fun i _ => x.fPairs.length - (intOf i).toNat)
  case atStart => exact ⟨0, _, by omega, rfl, by simpa using wr5, c5⟩
  case round =>
    clear wr5 c5 c0
    obtain ⟨k, gk, hk, rfl, wk, ck⟩ := hrel
    have x4 : wr.cell? ⟨w.heap.size, 4, none⟩ = some (.slice aPairs x.fPairs.length cPairs) := (row0.go hw0 ck (.inr rfl)).cell 4
    have HF4 := HF4
    have hlen4 := hlen4
    by_cases hll : k < x.fPairs.length
    · have HS : Hid (out ++ encI x.fErr ++ encU x.fTxn ++ encI x.fN ++ encF x.fFlag ++ numB x.fPairs.length ++ (x.fPairs.take (k + 1)).flatMap encGPair = out ++ encI x.fErr ++ encU x.fTxn ++ encI x.fN ++ encF x.fFlag ++ numB x.fPairs.length ++ (x.fPairs.take k).flatMap encGPair ++ encGPair x.fPairs[k]) := by
        show _ = _
        rw [take_flat encGPair x.fPairs k hll]; simp only [List.append_assoc]
      have HBk : Hid ((out ++ encI x.fErr ++ encU x.fTxn ++ encI x.fN ++ encF x.fFlag ++ numB x.fPairs.length ++ (x.fPairs.take k).flatMap encGPair).length + (encGPair x.fPairs[k]).length ≤ far) := by
        show _ ≤ _
        have h1 := take_flat_len encGPair x.fPairs k hll
        have h2 := HL.out
        have HY4 := HX4.out
        have HY5 := HX5.out
        simp only [List.length_append]; omega
      have wkf := wk.free
      obtain ⟨b, off, cap, c, z1, z2, z3, hx, h5⟩ := rList_at rGPair_lawful (by decide) h4.out k hll
      simp only [List.cons.injEq, Value.slice.injEq, and_true] at z1
      obtain ⟨e0, -, -⟩ := z1
      subst e0
      have hx' := rGPair_lawful.keep hx ck.keep hw0.free
      have hlt2 := Nat.lt_of_lt_of_le z3 ck.keep.size
      have hrng : ∀ (j : Nat) (u : Value), c[j]? = some u → wr.cell? ⟨b, off + k * 3 + j, none⟩ = some u := fun j u hu => (ck.keep.cell (p := ⟨b, off + k * 3 + j, none⟩) z3 (hw0.free b z2)).trans (h5 j u hu)
      clear h5 hx
      obtain ⟨aeKey, ceKey, aeValue, ceValue, rfl, q0, q1, q2, -⟩ := rGPair_open hx'
      have x100 : wr.cell? ⟨b, off + k * 3, none⟩ = some (.slice aeKey x.fPairs[k].fKey.length ceKey) := hrng 0 _ rfl
      have x101 : wr.cell? ⟨b, off + k * 3 + 1, none⟩ = some (.slice aeValue x.fPairs[k].fValue.length ceValue) := hrng 1 _ rfl
      have x102 : wr.cell? ⟨b, off + k * 3 + 2, none⟩ = some (.int .i64 x.fPairs[k].fVersion) := hrng 2 _ rfl
      clear hrng hlt2 q0 q1 q2
      generalize hv : x.fPairs[k] = v at *
      clear hv
      have wk3 := wk
      clear wk
      go_wp2_with fail
      go_fit (oPair_c _ (w.heap.size + 1) gk _ _ v _ hx' wk3 HBk.out)
      rintro e w2 ⟨rfl, g2, wr2, ch2⟩
      clear hx' wk3 x100 x101 x102
      have ck2 := ck.trans ch2
      clear ck ch2 wkf
      go_wp2
      go_roundw
      case rel => exact ⟨k + 1, g2, by omega, by go_num, by rw [HS.out]; exact wr2, ck2⟩
      case measure => simp [intOf]; omega
    · obtain rfl : k = x.fPairs.length := by omega
      have e0 : x.fPairs.take x.fPairs.length = x.fPairs := List.take_of_length_le (by omega)
      rw [e0] at wk
      have wq4 : Wr wr 121 (w.heap.size + 1) gk (out ++ encI x.fErr ++ encU x.fTxn ++ encI x.fN ++ encF x.fFlag ++ encL encGPair x.fPairs) (PB p w.heap.size) := by rw [show encL encGPair x.fPairs = numB x.fPairs.length ++ x.fPairs.flatMap encGPair from rfl, ← List.append_assoc]; exact wk
      clear wk
      obtain ⟨wo4, rfl⟩ : ∃ wo : World, wo = wr := ⟨_, rfl⟩
      have c0 := ck
      clear ck e0
      have x5 : wo4.cell? ⟨w.heap.size, 5, none⟩ = some (.slice aTxns x.fTxns.length cTxns) := (row0.go hw0 c0 (.inr rfl)).cell 5
      obtain ⟨hn5, -, hf5⟩ := rList_len h5.out
      have HF5 := Lib.hid hf5
      clear hf5 hn5
      have hlen5 : x.fTxns.length ≤ 9223372036854775807 := by have := HF5.out; have := far_len; unfold maxLen at this; omega
      have hwr5 : IntKind.u64.wrap (x.fTxns.length : Int) = (x.fTxns.length : Int) := by rw [IntKind.wrap_u64]; omega
      go_wp2_with fail
      go_fit (onumN _ (w.heap.size + 1) _ _ _ x.fTxns.length wq4 (by unfold isU64; omega) (by have := HL.out; have := HX4.out; have := HX5.out; (try simp only [List.length_append]); omega))
      rintro e w6 ⟨rfl, g6, wr6, ch⟩
      have c6 := c0.trans ch
      clear ch hwr5 wq4 x4 x5
      go_wp2_with fail
      go_loopw [5] (fun i wr => ∃ (k : Nat) (g' : Option Nat), k ≤ x.fTxns.length ∧ i = .int .i64 k ∧ Wr wr 121 (w.heap.size + 1) g' (out ++ encI x.fErr ++ encU x.fTxn ++ encI x.fN ++ encF x.fFlag ++ encL encGPair x.fPairs ++ numB x.fTxns.length ++ (x.fTxns.take k).flatMap encU) (PB p w.heap.size) ∧ Chain (w.heap.size + 1) ((w.alloc (.cells #[.int .i64 x.fErr, .int .u64 x.fTxn, .int .i64 x.fN, .bool x.fFlag, .slice aPairs x.fPairs.length cPairs, .slice aTxns x.fTxns.length cTxns, .int .i64 x.fCatalog.fVersion, .int .i64 x.fCatalog.fNext, .slice aCatalogTables x.fCatalog.fTables.length cCatalogTables, .slice aCatalogIndexes x.fCatalog.fIndexes.length cCatalogIndexes, .int .i64 x.fRoutes.fEpoch, .int .i64 x.fRoutes.fBase, .slice aRoutesSpans x.fRoutes.fSpans.length cRoutesSpans, .int .i64 x.fRoutes.fMoving, .slice aRoutesCut x.fRoutes.fCut.length cRoutesCut] 55)).alloc (.cells #[.slice none 0 0] 121)) g wr g') (fun i _ => x.fTxns.length - (intOf i).toNat)
      case atStart => exact ⟨0, _, by omega, rfl, by simpa using wr6, c6⟩
      case round =>
        clear wr6 c6 c0
        obtain ⟨k, gk, hk, rfl, wk, ck⟩ := hrel
        have x5 : wr.cell? ⟨w.heap.size, 5, none⟩ = some (.slice aTxns x.fTxns.length cTxns) := (row0.go hw0 ck (.inr rfl)).cell 5
        have HF5 := HF5
        have hlen5 := hlen5
        by_cases hll : k < x.fTxns.length
        · have HS : Hid (out ++ encI x.fErr ++ encU x.fTxn ++ encI x.fN ++ encF x.fFlag ++ encL encGPair x.fPairs ++ numB x.fTxns.length ++ (x.fTxns.take (k + 1)).flatMap encU = out ++ encI x.fErr ++ encU x.fTxn ++ encI x.fN ++ encF x.fFlag ++ encL encGPair x.fPairs ++ numB x.fTxns.length ++ (x.fTxns.take k).flatMap encU ++ encU x.fTxns[k]) := by
            show _ = _
            rw [take_flat encU x.fTxns k hll]; simp only [List.append_assoc]
          have HBk : Hid ((out ++ encI x.fErr ++ encU x.fTxn ++ encI x.fN ++ encF x.fFlag ++ encL encGPair x.fPairs ++ numB x.fTxns.length ++ (x.fTxns.take k).flatMap encU).length + (encU x.fTxns[k]).length ≤ far) := by
            show _ ≤ _
            have h1 := take_flat_len encU x.fTxns k hll
            have h2 := HL.out
            have HY4 := HX4.out
            have HY5 := HX5.out
            simp only [List.length_append]; omega
          have wkf := wk.free
          obtain ⟨b, off, e0, hcell, hv0⟩ := rInt_cell h5.out ck.keep hw0.free k hll
          subst e0
          have HV : Hid (isU64 x.fTxns[k]) := isU64_wf hv0
          clear hv0
          generalize x.fTxns[k] = v at hcell HBk HS HV
          go_wp2_with fail
          go_fit (onum_e wr (w.heap.size + 1) gk _ _ v wk HV.out HBk.out)
          rintro e w2 ⟨rfl, g2, wr2, ch2⟩
          clear wk hcell
          have ck2 := ck.trans ch2
          clear ck ch2 wkf
          go_wp2
          go_roundw
          case rel => exact ⟨k + 1, g2, by omega, by go_num, by rw [HS.out]; exact wr2, ck2⟩
          case measure => simp [intOf]; omega
        · obtain rfl : k = x.fTxns.length := by omega
          have e0 : x.fTxns.take x.fTxns.length = x.fTxns := List.take_of_length_le (by omega)
          rw [e0] at wk
          have wq5 : Wr wr 121 (w.heap.size + 1) gk (out ++ encI x.fErr ++ encU x.fTxn ++ encI x.fN ++ encF x.fFlag ++ encL encGPair x.fPairs ++ encL encU x.fTxns) (PB p w.heap.size) := by rw [show encL encU x.fTxns = numB x.fTxns.length ++ x.fTxns.flatMap encU from rfl, ← List.append_assoc]; exact wk
          clear wk
          obtain ⟨wo5, rfl⟩ : ∃ wo : World, wo = wr := ⟨_, rfl⟩
          have c0 := ck
          clear ck e0
          have x6 : wo5.cell? ⟨w.heap.size, 6, none⟩ = some (.int .i64 x.fCatalog.fVersion) := (row0.go hw0 c0 (.inr rfl)).cell 6
          have x7 : wo5.cell? ⟨w.heap.size, 7, none⟩ = some (.int .i64 x.fCatalog.fNext) := (row0.go hw0 c0 (.inr rfl)).cell 7
          have x8 : wo5.cell? ⟨w.heap.size, 8, none⟩ = some (.slice aCatalogTables x.fCatalog.fTables.length cCatalogTables) := (row0.go hw0 c0 (.inr rfl)).cell 8
          have x9 : wo5.cell? ⟨w.heap.size, 9, none⟩ = some (.slice aCatalogIndexes x.fCatalog.fIndexes.length cCatalogIndexes) := (row0.go hw0 c0 (.inr rfl)).cell 9
          go_wp2_with fail
          go_fit (oCatalog_c _ (w.heap.size + 1) _ _ _ x.fCatalog _ (rGCatalog_lawful.go h6.out hw0 c0) wq5 (by have := HL.out; have := HX4.out; have := HX5.out; (try simp only [List.length_append]); omega))
          rintro e w7 ⟨rfl, g7, wr7, ch⟩
          have c7 := c0.trans ch
          clear ch c0 wq5 x5 x6 x7 x8 x9
          have c0 := c7
          clear c7
          have x10 : w7.cell? ⟨w.heap.size, 10, none⟩ = some (.int .i64 x.fRoutes.fEpoch) := (row0.go hw0 c0 (.inr rfl)).cell 10
          have x11 : w7.cell? ⟨w.heap.size, 11, none⟩ = some (.int .i64 x.fRoutes.fBase) := (row0.go hw0 c0 (.inr rfl)).cell 11
          have x12 : w7.cell? ⟨w.heap.size, 12, none⟩ = some (.slice aRoutesSpans x.fRoutes.fSpans.length cRoutesSpans) := (row0.go hw0 c0 (.inr rfl)).cell 12
          have x13 : w7.cell? ⟨w.heap.size, 13, none⟩ = some (.int .i64 x.fRoutes.fMoving) := (row0.go hw0 c0 (.inr rfl)).cell 13
          have x14 : w7.cell? ⟨w.heap.size, 14, none⟩ = some (.slice aRoutesCut x.fRoutes.fCut.length cRoutesCut) := (row0.go hw0 c0 (.inr rfl)).cell 14
          go_wp2_with fail
          go_fit (oRoutes_c _ (w.heap.size + 1) _ _ _ x.fRoutes _ (rGRoutes_lawful.go h7.out hw0 c0) wr7 (by have := HL.out; have := HX4.out; have := HX5.out; (try simp only [List.length_append]); omega))
          rintro e w8 ⟨rfl, g8, wr8, ch⟩
          have c8 := c0.trans ch
          clear ch c0 wr7 x10 x11 x12 x13 x14
          have c0 := c8
          clear c8
          have HE : Hid (encGReply x = out ++ encI x.fErr ++ encU x.fTxn ++ encI x.fN ++ encF x.fFlag ++ encL encGPair x.fPairs ++ encL encU x.fTxns ++ encGCatalog x.fCatalog ++ encGRoutes x.fRoutes) := by show _ = _; rw [hout.out]; (try simp only [encGReply, List.nil_append, List.append_assoc])
          generalize out ++ encI x.fErr ++ encU x.fTxn ++ encI x.fN ++ encF x.fFlag ++ encL encGPair x.fPairs ++ encL encU x.fTxns ++ encGCatalog x.fCatalog ++ encGRoutes x.fRoutes = O at HE wr8
          obtain ⟨aw, capw, hcw, hfw, ownw, hgw, -⟩ := wr8.cell
          clear wr8 row0 hw0 HL
          go_wp2_with fail
          go_ret
          rw [HE.out]
          rw [hg.out] at c0
          exact made_of (by omega) (((Keep.refl Nix w).alloc _).alloc _) c0 ownw hgw
end Go.Proofs.YtibaehlfpgipfaaGreat
