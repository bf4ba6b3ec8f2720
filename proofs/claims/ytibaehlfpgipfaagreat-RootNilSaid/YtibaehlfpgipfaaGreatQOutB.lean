/- THE WALKS of the reference's writer on lists and structs. Printed by gen5.py. -/
import Derived.Test.YtibaehlfpgipfaaGreatQOutA
namespace Go.Proofs.YtibaehlfpgipfaaGreat
open Go.RowKit

set_option maxRecDepth 100000 in
set_option maxHeartbeats 8000000 in
theorem oCatalog_c (w : World) (r : Nat) (g : Option Nat) (out : List UInt8) (p : Nat → Prop) (x : GCatalog) (cs : List Value) (hx : rGCatalog w p cs x) (hw : Wr w 121 r g out p) (hb : out.length + (encGCatalog x).length ≤ far) :
    Calls Tryz.prog 61 #[.pointer (some ⟨r, 0, none⟩), .agg cs.toArray] w (Puts 121 r p w g (out ++ encGCatalog x)) := by
  obtain ⟨aTables, cTables, aIndexes, cIndexes, rfl, h0, h1, h2, h3, -⟩ := rGCatalog_open hx
  have hw0 := hw.box (.cells #[.int .i64 x.fVersion, .int .i64 x.fNext, .slice aTables x.fTables.length cTables, .slice aIndexes x.fIndexes.length cIndexes] 50)
  have row0 : RowIs (w.alloc (.cells #[.int .i64 x.fVersion, .int .i64 x.fNext, .slice aTables x.fTables.length cTables, .slice aIndexes x.fIndexes.length cIndexes] 50)) w.heap.size 50 [.int .i64 x.fVersion, .int .i64 x.fNext, .slice aTables x.fTables.length cTables, .slice aIndexes x.fIndexes.length cIndexes] := RowIs.alloc w _ _
  replace h0 := Lib.hid h0
  replace h1 := Lib.hid h1
  replace h2 := (rList_lawful rGTable_lawful).box h2 (.cells #[.int .i64 x.fVersion, .int .i64 x.fNext, .slice aTables x.fTables.length cTables, .slice aIndexes x.fIndexes.length cIndexes] 50)
  replace h2 := Lib.hid h2
  replace h3 := (rList_lawful rGIndex_lawful).box h3 (.cells #[.int .i64 x.fVersion, .int .i64 x.fNext, .slice aTables x.fTables.length cTables, .slice aIndexes x.fIndexes.length cIndexes] 50)
  replace h3 := Lib.hid h3
  have HL : Hid (out.length + ((encI x.fVersion).length + (encI x.fNext).length + (encL encGTable x.fTables).length + (encL encGIndex x.fIndexes).length) ≤ far) := by
    show _ ≤ _
    simp only [encGCatalog, List.length_append] at hb; omega
  have c0 : Chain r (w.alloc (.cells #[.int .i64 x.fVersion, .int .i64 x.fNext, .slice aTables x.fTables.length cTables, .slice aIndexes x.fIndexes.length cIndexes] 50)) g (w.alloc (.cells #[.int .i64 x.fVersion, .int .i64 x.fNext, .slice aTables x.fTables.length cTables, .slice aIndexes x.fIndexes.length cIndexes] 50)) g := Chain.refl _ _ _
  have cw : Chain r w g (w.alloc (.cells #[.int .i64 x.fVersion, .int .i64 x.fNext, .slice aTables x.fTables.length cTables, .slice aIndexes x.fIndexes.length cIndexes] 50)) g := (Chain.refl r w g).alloc _
  clear hb hx hw
  go_enter Tryz.func61, Tryz.ntmps61
  have HX2 : Hid ((encL encGTable x.fTables).length = (numB x.fTables.length).length + (x.fTables.flatMap encGTable).length) := List.length_append
  have HX3 : Hid ((encL encGIndex x.fIndexes).length = (numB x.fIndexes.length).length + (x.fIndexes.flatMap encGIndex).length) := List.length_append
  go_wp2_with fail
  go_fit (oint_e _ r _ _ _ x.fVersion hw0 h0.out (by have := HL.out; have := HX2.out; have := HX3.out; (try simp only [List.length_append]); omega))
  rintro e w1 ⟨rfl, g1, wr1, ch⟩
  have c1 := c0.trans ch
  clear ch c0
  have c0 := c1
  clear c1
  have x1 : w1.cell? ⟨w.heap.size, 1, none⟩ = some (.int .i64 x.fNext) := (row0.go hw0 c0 (.inr rfl)).cell 1
  go_wp2_with fail
  go_fit (oint_e _ r _ _ _ x.fNext wr1 h1.out (by have := HL.out; have := HX2.out; have := HX3.out; (try simp only [List.length_append]); omega))
  rintro e w2 ⟨rfl, g2, wr2, ch⟩
  have c2 := c0.trans ch
  clear ch c0 wr1 x1
  have c0 := c2
  clear c2
  have x2 : w2.cell? ⟨w.heap.size, 2, none⟩ = some (.slice aTables x.fTables.length cTables) := (row0.go hw0 c0 (.inr rfl)).cell 2
  obtain ⟨hn2, -, hf2⟩ := rList_len h2.out
  have HF2 := Lib.hid hf2
  clear hf2 hn2
  have hlen2 : x.fTables.length ≤ 9223372036854775807 := by have := HF2.out; have := far_len; unfold maxLen at this; omega
  have hwr2 : IntKind.u64.wrap (x.fTables.length : Int) = (x.fTables.length : Int) := by rw [IntKind.wrap_u64]; omega
  go_wp2_with fail
  go_fit (onumN _ r _ _ _ x.fTables.length wr2 (by unfold isU64; omega) (by have := HL.out; have := HX2.out; have := HX3.out; (try simp only [List.length_append]); omega))
  rintro e w3 ⟨rfl, g3, wr3, ch⟩
  have c3 := c0.trans ch
  clear ch hwr2 wr2 x2
  go_wp2_with fail
  go_loopw [4] (fun i wr => ∃ (k : Nat) (g' : Option Nat), k ≤ x.fTables.length ∧ i = .int .i64 k ∧ Wr wr 121 r g' (out ++ encI x.fVersion ++ encI x.fNext ++ numB x.fTables.length ++ (x.fTables.take k).flatMap encGTable) (PB p w.heap.size) ∧ Chain r (w.alloc (.cells #[.int .i64 x.fVersion, .int .i64 x.fNext, .slice aTables x.fTables.length cTables, .slice aIndexes x.fIndexes.length cIndexes] 50)) g wr g') (fun i _ => x.fTables.length - (intOf i).toNat)
  case atStart => exact ⟨0, _, by omega, rfl, by simpa using wr3, c3⟩
  case round =>
    clear wr3 c3 c0
    obtain ⟨k, gk, hk, rfl, wk, ck⟩ := hrel
    have x2 : wr.cell? ⟨w.heap.size, 2, none⟩ = some (.slice aTables x.fTables.length cTables) := (row0.go hw0 ck (.inr rfl)).cell 2
    have HF2 := HF2
    have hlen2 := hlen2
    by_cases hll : k < x.fTables.length
    · have HS : Hid (out ++ encI x.fVersion ++ encI x.fNext ++ numB x.fTables.length ++ (x.fTables.take (k + 1)).flatMap encGTable = out ++ encI x.fVersion ++ encI x.fNext ++ numB x.fTables.length ++ (x.fTables.take k).flatMap encGTable ++ encGTable x.fTables[k]) := by
        show _ = _
        rw [take_flat encGTable x.fTables k hll]; simp only [List.append_assoc]
      have HBk : Hid ((out ++ encI x.fVersion ++ encI x.fNext ++ numB x.fTables.length ++ (x.fTables.take k).flatMap encGTable).length + (encGTable x.fTables[k]).length ≤ far) := by
        show _ ≤ _
        have h1 := take_flat_len encGTable x.fTables k hll
        have h2 := HL.out
        have HY2 := HX2.out
        have HY3 := HX3.out
        simp only [List.length_append]; omega
      have wkf := wk.free
      obtain ⟨b, off, cap, c, z1, z2, z3, hx, h5⟩ := rList_at rGTable_lawful (by decide) h2.out k hll
      simp only [List.cons.injEq, Value.slice.injEq, and_true] at z1
      obtain ⟨e0, -, -⟩ := z1
      subst e0
      have hx' := rGTable_lawful.keep hx ck.keep hw0.free
      have hlt2 := Nat.lt_of_lt_of_le z3 ck.keep.size
      have hrng : ∀ (j : Nat) (u : Value), c[j]? = some u → wr.cell? ⟨b, off + k * 4 + j, none⟩ = some u := fun j u hu => (ck.keep.cell (p := ⟨b, off + k * 4 + j, none⟩) z3 (hw0.free b z2)).trans (h5 j u hu)
      clear h5 hx
      obtain ⟨aeColumns, ceColumns, aeKey, ceKey, rfl, q0, q1, q2, q3, -⟩ := rGTable_open hx'
      have x100 : wr.cell? ⟨b, off + k * 4, none⟩ = some (.int .i64 x.fTables[k].fID) := hrng 0 _ rfl
      have x101 : wr.cell? ⟨b, off + k * 4 + 1, none⟩ = some (.string (strB x.fTables[k].fName)) := hrng 1 _ rfl
      have x102 : wr.cell? ⟨b, off + k * 4 + 2, none⟩ = some (.slice aeColumns x.fTables[k].fColumns.length ceColumns) := hrng 2 _ rfl
      have x103 : wr.cell? ⟨b, off + k * 4 + 3, none⟩ = some (.slice aeKey x.fTables[k].fKey.length ceKey) := hrng 3 _ rfl
      clear hrng hlt2 q0 q1 q2 q3
      generalize hv : x.fTables[k] = v at *
      clear hv
      have wk3 := wk
      clear wk
      go_wp2_with fail
      go_fit (oTable_c _ r gk _ _ v _ hx' wk3 HBk.out)
      rintro e w2 ⟨rfl, g2, wr2, ch2⟩
      clear hx' wk3 x100 x101 x102 x103
      have ck2 := ck.trans ch2
      clear ck ch2 wkf
      go_wp2
      go_roundw
      case rel => exact ⟨k + 1, g2, by omega, by go_num, by rw [HS.out]; exact wr2, ck2⟩
      case measure => simp [intOf]; omega
    · obtain rfl : k = x.fTables.length := by omega
      have e0 : x.fTables.take x.fTables.length = x.fTables := List.take_of_length_le (by omega)
      rw [e0] at wk
      have wq2 : Wr wr 121 r gk (out ++ encI x.fVersion ++ encI x.fNext ++ encL encGTable x.fTables) (PB p w.heap.size) := by rw [show encL encGTable x.fTables = numB x.fTables.length ++ x.fTables.flatMap encGTable from rfl, ← List.append_assoc]; exact wk
      clear wk
      obtain ⟨wo2, rfl⟩ : ∃ wo : World, wo = wr := ⟨_, rfl⟩
      have c0 := ck
      clear ck e0
      have x3 : wo2.cell? ⟨w.heap.size, 3, none⟩ = some (.slice aIndexes x.fIndexes.length cIndexes) := (row0.go hw0 c0 (.inr rfl)).cell 3
      obtain ⟨hn3, -, hf3⟩ := rList_len h3.out
      have HF3 := Lib.hid hf3
      clear hf3 hn3
      have hlen3 : x.fIndexes.length ≤ 9223372036854775807 := by have := HF3.out; have := far_len; unfold maxLen at this; omega
      have hwr3 : IntKind.u64.wrap (x.fIndexes.length : Int) = (x.fIndexes.length : Int) := by rw [IntKind.wrap_u64]; omega
      go_wp2_with fail
      go_fit (onumN _ r _ _ _ x.fIndexes.length wq2 (by unfold isU64; omega) (by have := HL.out; have := HX2.out; have := HX3.out; (try simp only [List.length_append]); omega))
      rintro e w4 ⟨rfl, g4, wr4, ch⟩
      have c4 := c0.trans ch
      clear ch hwr3 wq2 x2 x3
      go_wp2_with fail
      go_loopw [5] (fun i wr => ∃ (k : Nat) (g' : Option Nat), k ≤ x.fIndexes.length ∧ i = .int .i64 k ∧ Wr wr 121 r g' (out ++ encI x.fVersion ++ encI x.fNext ++ encL encGTable x.fTables ++ numB x.fIndexes.length ++ (x.fIndexes.take k).flatMap encGIndex) (PB p w.heap.size) ∧ Chain r (w.alloc (.cells #[.int .i64 x.fVersion, .int .i64 x.fNext, .slice aTables x.fTables.length cTables, .slice aIndexes x.fIndexes.length cIndexes] 50)) g wr g') (fun i _ => x.fIndexes.length - (intOf i).toNat)
      case atStart => exact ⟨0, _, by omega, rfl, by simpa using wr4, c4⟩
      case round =>
        clear wr4 c4 c0
        obtain ⟨k, gk, hk, rfl, wk, ck⟩ := hrel
        have x3 : wr.cell? ⟨w.heap.size, 3, none⟩ = some (.slice aIndexes x.fIndexes.length cIndexes) := (row0.go hw0 ck (.inr rfl)).cell 3
        have HF3 := HF3
        have hlen3 := hlen3
        by_cases hll : k < x.fIndexes.length
        · have HS : Hid (out ++ encI x.fVersion ++ encI x.fNext ++ encL encGTable x.fTables ++ numB x.fIndexes.length ++ (x.fIndexes.take (k + 1)).flatMap encGIndex = out ++ encI x.fVersion ++ encI x.fNext ++ encL encGTable x.fTables ++ numB x.fIndexes.length ++ (x.fIndexes.take k).flatMap encGIndex ++ encGIndex x.fIndexes[k]) := by
            show _ = _
            rw [take_flat encGIndex x.fIndexes k hll]; simp only [List.append_assoc]
          have HBk : Hid ((out ++ encI x.fVersion ++ encI x.fNext ++ encL encGTable x.fTables ++ numB x.fIndexes.length ++ (x.fIndexes.take k).flatMap encGIndex).length + (encGIndex x.fIndexes[k]).length ≤ far) := by
            show _ ≤ _
            have h1 := take_flat_len encGIndex x.fIndexes k hll
            have h2 := HL.out
            have HY2 := HX2.out
            have HY3 := HX3.out
            simp only [List.length_append]; omega
          have wkf := wk.free
          obtain ⟨b, off, cap, c, z1, z2, z3, hx, h5⟩ := rList_at rGIndex_lawful (by decide) h3.out k hll
          simp only [List.cons.injEq, Value.slice.injEq, and_true] at z1
          obtain ⟨e0, -, -⟩ := z1
          subst e0
          have hx' := rGIndex_lawful.keep hx ck.keep hw0.free
          have hlt2 := Nat.lt_of_lt_of_le z3 ck.keep.size
          have hrng : ∀ (j : Nat) (u : Value), c[j]? = some u → wr.cell? ⟨b, off + k * 7 + j, none⟩ = some u := fun j u hu => (ck.keep.cell (p := ⟨b, off + k * 7 + j, none⟩) z3 (hw0.free b z2)).trans (h5 j u hu)
          clear h5 hx
          obtain ⟨aeColumns, ceColumns, rfl, q0, q1, q2, q3, q5, -⟩ := rGIndex_open hx'
          have x100 : wr.cell? ⟨b, off + k * 7, none⟩ = some (.int .i64 x.fIndexes[k].fID) := hrng 0 _ rfl
          have x101 : wr.cell? ⟨b, off + k * 7 + 1, none⟩ = some (.int .i64 x.fIndexes[k].fTable) := hrng 1 _ rfl
          have x102 : wr.cell? ⟨b, off + k * 7 + 2, none⟩ = some (.string (strB x.fIndexes[k].fName)) := hrng 2 _ rfl
          have x103 : wr.cell? ⟨b, off + k * 7 + 3, none⟩ = some (.slice aeColumns x.fIndexes[k].fColumns.length ceColumns) := hrng 3 _ rfl
          have x104 : wr.cell? ⟨b, off + k * 7 + 4, none⟩ = some (.bool x.fIndexes[k].fUnique) := hrng 4 _ rfl
          have x105 : wr.cell? ⟨b, off + k * 7 + 5, none⟩ = some (.int .i64 x.fIndexes[k].fState) := hrng 5 _ rfl
          have x106 : wr.cell? ⟨b, off + k * 7 + 6, none⟩ = some (.bool x.fIndexes[k].fBad) := hrng 6 _ rfl
          clear hrng hlt2 q0 q1 q2 q3 q5
          generalize hv : x.fIndexes[k] = v at *
          clear hv
          have wk3 := wk
          clear wk
          go_wp2_with fail
          go_fit (oIndex_c _ r gk _ _ v _ hx' wk3 HBk.out)
          rintro e w2 ⟨rfl, g2, wr2, ch2⟩
          clear hx' wk3 x100 x101 x102 x103 x104 x105 x106
          have ck2 := ck.trans ch2
          clear ck ch2 wkf
          go_wp2
          go_roundw
          case rel => exact ⟨k + 1, g2, by omega, by go_num, by rw [HS.out]; exact wr2, ck2⟩
          case measure => simp [intOf]; omega
        · obtain rfl : k = x.fIndexes.length := by omega
          have e0 : x.fIndexes.take x.fIndexes.length = x.fIndexes := List.take_of_length_le (by omega)
          rw [e0] at wk
          have wq3 : Wr wr 121 r gk (out ++ encI x.fVersion ++ encI x.fNext ++ encL encGTable x.fTables ++ encL encGIndex x.fIndexes) (PB p w.heap.size) := by rw [show encL encGIndex x.fIndexes = numB x.fIndexes.length ++ x.fIndexes.flatMap encGIndex from rfl, ← List.append_assoc]; exact wk
          clear wk
          obtain ⟨wo3, rfl⟩ : ∃ wo : World, wo = wr := ⟨_, rfl⟩
          have c0 := ck
          clear ck e0
          go_wp2_with fail
          go_end0
          refine ⟨rfl, _, ?_, cw.trans c0⟩
          simp only [encGCatalog, ← List.append_assoc]
          exact wq3.mono PB.of
set_option maxRecDepth 100000 in
set_option maxHeartbeats 8000000 in
theorem oRoutes_c (w : World) (r : Nat) (g : Option Nat) (out : List UInt8) (p : Nat → Prop) (x : GRoutes) (cs : List Value) (hx : rGRoutes w p cs x) (hw : Wr w 121 r g out p) (hb : out.length + (encGRoutes x).length ≤ far) :
    Calls Tryz.prog 62 #[.pointer (some ⟨r, 0, none⟩), .agg cs.toArray] w (Puts 121 r p w g (out ++ encGRoutes x)) := by
  obtain ⟨aSpans, cSpans, aCut, cCut, rfl, h0, h1, h2, h3, h4, -⟩ := rGRoutes_open hx
  have hw0 := hw.box (.cells #[.int .i64 x.fEpoch, .int .i64 x.fBase, .slice aSpans x.fSpans.length cSpans, .int .i64 x.fMoving, .slice aCut x.fCut.length cCut] 53)
  have row0 : RowIs (w.alloc (.cells #[.int .i64 x.fEpoch, .int .i64 x.fBase, .slice aSpans x.fSpans.length cSpans, .int .i64 x.fMoving, .slice aCut x.fCut.length cCut] 53)) w.heap.size 53 [.int .i64 x.fEpoch, .int .i64 x.fBase, .slice aSpans x.fSpans.length cSpans, .int .i64 x.fMoving, .slice aCut x.fCut.length cCut] := RowIs.alloc w _ _
  replace h0 := Lib.hid h0
  replace h1 := Lib.hid h1
  replace h2 := (rList_lawful rGOwner_lawful).box h2 (.cells #[.int .i64 x.fEpoch, .int .i64 x.fBase, .slice aSpans x.fSpans.length cSpans, .int .i64 x.fMoving, .slice aCut x.fCut.length cCut] 53)
  replace h2 := Lib.hid h2
  replace h3 := Lib.hid h3
  replace h4 := And.intro (h4.1.box (.cells #[.int .i64 x.fEpoch, .int .i64 x.fBase, .slice aSpans x.fSpans.length cSpans, .int .i64 x.fMoving, .slice aCut x.fCut.length cCut] 53)) h4.2
  replace h4 := Lib.hid h4
  have HL : Hid (out.length + ((encI x.fEpoch).length + (encI x.fBase).length + (encL encGOwner x.fSpans).length + (encI x.fMoving).length + (textB x.fCut).length) ≤ far) := by
    show _ ≤ _
    simp only [encGRoutes, List.length_append] at hb; omega
  have c0 : Chain r (w.alloc (.cells #[.int .i64 x.fEpoch, .int .i64 x.fBase, .slice aSpans x.fSpans.length cSpans, .int .i64 x.fMoving, .slice aCut x.fCut.length cCut] 53)) g (w.alloc (.cells #[.int .i64 x.fEpoch, .int .i64 x.fBase, .slice aSpans x.fSpans.length cSpans, .int .i64 x.fMoving, .slice aCut x.fCut.length cCut] 53)) g := Chain.refl _ _ _
  have cw : Chain r w g (w.alloc (.cells #[.int .i64 x.fEpoch, .int .i64 x.fBase, .slice aSpans x.fSpans.length cSpans, .int .i64 x.fMoving, .slice aCut x.fCut.length cCut] 53)) g := (Chain.refl r w g).alloc _
  clear hb hx hw
  go_enter Tryz.func62, Tryz.ntmps62
  have HX2 : Hid ((encL encGOwner x.fSpans).length = (numB x.fSpans.length).length + (x.fSpans.flatMap encGOwner).length) := List.length_append
  go_wp2_with fail
  go_fit (oint_e _ r _ _ _ x.fEpoch hw0 h0.out (by have := HL.out; have := HX2.out; (try simp only [List.length_append]); omega))
  rintro e w1 ⟨rfl, g1, wr1, ch⟩
  have c1 := c0.trans ch
  clear ch c0
  have c0 := c1
  clear c1
  have x1 : w1.cell? ⟨w.heap.size, 1, none⟩ = some (.int .i64 x.fBase) := (row0.go hw0 c0 (.inr rfl)).cell 1
  go_wp2_with fail
  go_fit (oint_e _ r _ _ _ x.fBase wr1 h1.out (by have := HL.out; have := HX2.out; (try simp only [List.length_append]); omega))
  rintro e w2 ⟨rfl, g2, wr2, ch⟩
  have c2 := c0.trans ch
  clear ch c0 wr1 x1
  have c0 := c2
  clear c2
  have x2 : w2.cell? ⟨w.heap.size, 2, none⟩ = some (.slice aSpans x.fSpans.length cSpans) := (row0.go hw0 c0 (.inr rfl)).cell 2
  obtain ⟨hn2, -, hf2⟩ := rList_len h2.out
  have HF2 := Lib.hid hf2
  clear hf2 hn2
  have hlen2 : x.fSpans.length ≤ 9223372036854775807 := by have := HF2.out; have := far_len; unfold maxLen at this; omega
  have hwr2 : IntKind.u64.wrap (x.fSpans.length : Int) = (x.fSpans.length : Int) := by rw [IntKind.wrap_u64]; omega
  go_wp2_with fail
  go_fit (onumN _ r _ _ _ x.fSpans.length wr2 (by unfold isU64; omega) (by have := HL.out; have := HX2.out; (try simp only [List.length_append]); omega))
  rintro e w3 ⟨rfl, g3, wr3, ch⟩
  have c3 := c0.trans ch
  clear ch hwr2 wr2 x2
  go_wp2_with fail
  go_loopw [4] (fun i wr => ∃ (k : Nat) (g' : Option Nat), k ≤ x.fSpans.length ∧ i = .int .i64 k ∧ Wr wr 121 r g' (out ++ encI x.fEpoch ++ encI x.fBase ++ numB x.fSpans.length ++ (x.fSpans.take k).flatMap encGOwner) (PB p w.heap.size) ∧ Chain r (w.alloc (.cells #[.int .i64 x.fEpoch, .int .i64 x.fBase, .slice aSpans x.fSpans.length cSpans, .int .i64 x.fMoving, .slice aCut x.fCut.length cCut] 53)) g wr g') (fun i _ => x.fSpans.length - (intOf i).toNat)
  case atStart => exact ⟨0, _, by omega, rfl, by simpa using wr3, c3⟩
  case round =>
    clear wr3 c3 c0
    obtain ⟨k, gk, hk, rfl, wk, ck⟩ := hrel
    have x2 : wr.cell? ⟨w.heap.size, 2, none⟩ = some (.slice aSpans x.fSpans.length cSpans) := (row0.go hw0 ck (.inr rfl)).cell 2
    have HF2 := HF2
    have hlen2 := hlen2
    by_cases hll : k < x.fSpans.length
    · have HS : Hid (out ++ encI x.fEpoch ++ encI x.fBase ++ numB x.fSpans.length ++ (x.fSpans.take (k + 1)).flatMap encGOwner = out ++ encI x.fEpoch ++ encI x.fBase ++ numB x.fSpans.length ++ (x.fSpans.take k).flatMap encGOwner ++ encGOwner x.fSpans[k]) := by
        show _ = _
        rw [take_flat encGOwner x.fSpans k hll]; simp only [List.append_assoc]
      have HBk : Hid ((out ++ encI x.fEpoch ++ encI x.fBase ++ numB x.fSpans.length ++ (x.fSpans.take k).flatMap encGOwner).length + (encGOwner x.fSpans[k]).length ≤ far) := by
        show _ ≤ _
        have h1 := take_flat_len encGOwner x.fSpans k hll
        have h2 := HL.out
        have HY2 := HX2.out
        simp only [List.length_append]; omega
      have wkf := wk.free
      obtain ⟨b, off, cap, c, z1, z2, z3, hx, h5⟩ := rList_at rGOwner_lawful (by decide) h2.out k hll
      simp only [List.cons.injEq, Value.slice.injEq, and_true] at z1
      obtain ⟨e0, -, -⟩ := z1
      subst e0
      have hx' := rGOwner_lawful.keep hx ck.keep hw0.free
      have hlt2 := Nat.lt_of_lt_of_le z3 ck.keep.size
      have hrng : ∀ (j : Nat) (u : Value), c[j]? = some u → wr.cell? ⟨b, off + k * 2 + j, none⟩ = some u := fun j u hu => (ck.keep.cell (p := ⟨b, off + k * 2 + j, none⟩) z3 (hw0.free b z2)).trans (h5 j u hu)
      have hrow2 : ∀ (w2 : World) (g2 : Option Nat), Chain r wr gk w2 g2 → ∀ (j : Nat) (u : Value), c[j]? = some u → w2.cell? ⟨b, off + k * 2 + j, none⟩ = some u := fun w2 g2 c2 j u hu => ((ck.trans c2).keep.cell (p := ⟨b, off + k * 2 + j, none⟩) z3 (hw0.free b z2)).trans (h5 j u hu)
      clear h5 hx
      obtain ⟨aeFrom, ceFrom, rfl, q0, q1, -⟩ := rGOwner_open hx'
      have x0 : wr.cell? ⟨b, off + k * 2, none⟩ = some (.int .i64 x.fSpans[k].fGroup) := hrng 0 _ rfl
      clear hrng
      have HQ0 := Lib.hid q0
      have HQ1 := Lib.hid q1
      clear q0 q1 hx' hlt2
      generalize hv : x.fSpans[k] = v at *
      clear hv
      have HBk' : Hid ((out ++ encI x.fEpoch ++ encI x.fBase ++ numB x.fSpans.length ++ (x.fSpans.take k).flatMap encGOwner).length + ((encI v.fGroup).length + (textB v.fFrom).length) ≤ far) := by
        show _ ≤ _
        have := HBk.out
        simp only [encGOwner, List.length_append] at this ⊢; omega
      go_wp2_with fail
      go_fit (oint_e wr r gk _ _ v.fGroup wk HQ0.out (by have := HBk'.out; simp only [List.length_append] at this ⊢; omega))
      rintro e w3 ⟨rfl, g3, wr3, ch3⟩
      have y2 : w3.cell? ⟨w.heap.size, 2, none⟩ = some (.slice _ x.fSpans.length cSpans) := (row0.go hw0 (ck.trans ch3) (.inr rfl)).cell 2
      have x1 := hrow2 w3 g3 ch3 1 _ rfl
      clear hrow2 x0 wk
      go_wp2_with fail
      go_fit (obytes_c w3 r g3 _ _ aeFrom v.fFrom.length ceFrom v.fFrom wr3 rfl (HQ1.out.1.keep ch3.keep (fun b hb => wkf b hb)) (by have := HQ1.out.2.2; have := far_len; omega) (by have := HBk'.out; simp only [List.length_append] at this ⊢; omega))
      rintro e w2 ⟨rfl, g2, wr2', ch4⟩
      have wr2 : Wr w2 121 r g2 (out ++ encI x.fEpoch ++ encI x.fBase ++ numB x.fSpans.length ++ (x.fSpans.take k).flatMap encGOwner ++ encGOwner v) (PB p w.heap.size) := by simp only [encGOwner, ← List.append_assoc]; exact wr2'
      have ch2 := ch3.trans ch4
      clear wr2' ch3 ch4 wr3 x1
      have ck2 := ck.trans ch2
      clear ck ch2 wkf
      go_wp2
      go_roundw
      case rel => exact ⟨k + 1, g2, by omega, by go_num, by rw [HS.out]; exact wr2, ck2⟩
      case measure => simp [intOf]; omega
    · obtain rfl : k = x.fSpans.length := by omega
      have e0 : x.fSpans.take x.fSpans.length = x.fSpans := List.take_of_length_le (by omega)
      rw [e0] at wk
      have wq2 : Wr wr 121 r gk (out ++ encI x.fEpoch ++ encI x.fBase ++ encL encGOwner x.fSpans) (PB p w.heap.size) := by rw [show encL encGOwner x.fSpans = numB x.fSpans.length ++ x.fSpans.flatMap encGOwner from rfl, ← List.append_assoc]; exact wk
      clear wk
      obtain ⟨wo2, rfl⟩ : ∃ wo : World, wo = wr := ⟨_, rfl⟩
      have c0 := ck
      clear ck e0
      have x3 : wo2.cell? ⟨w.heap.size, 3, none⟩ = some (.int .i64 x.fMoving) := (row0.go hw0 c0 (.inr rfl)).cell 3
      go_wp2_with fail
      go_fit (oint_e _ r _ _ _ x.fMoving wq2 h3.out (by have := HL.out; have := HX2.out; (try simp only [List.length_append]); omega))
      rintro e w4 ⟨rfl, g4, wr4, ch⟩
      have c4 := c0.trans ch
      clear ch c0 wq2 x2 x3
      have c0 := c4
      clear c4
      have x4 : w4.cell? ⟨w.heap.size, 4, none⟩ = some (.slice aCut x.fCut.length cCut) := (row0.go hw0 c0 (.inr rfl)).cell 4
      go_wp2_with fail
      go_fit (obytes_c _ r _ _ _ aCut _ cCut x.fCut wr4 rfl (h4.out.1.go hw0 c0) (by have := h4.out.2.2; have := far_len; omega) (by have := HL.out; have := HX2.out; (try simp only [List.length_append]); omega))
      rintro e w5 ⟨rfl, g5, wr5, ch⟩
      have c5 := c0.trans ch
      clear ch c0 wr4 x4
      have c0 := c5
      clear c5
      go_wp2_with fail
      go_end0
      refine ⟨rfl, _, ?_, cw.trans c0⟩
      simp only [encGRoutes, ← List.append_assoc]
      exact wr5.mono PB.of
end Go.Proofs.YtibaehlfpgipfaaGreat
