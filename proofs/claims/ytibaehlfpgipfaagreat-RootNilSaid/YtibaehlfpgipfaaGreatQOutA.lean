/- THE WALKS of the reference's writer on lists and structs. Printed by gen5.py. -/
import Derived.Test.YtibaehlfpgipfaaGreatQPre
namespace Go.Proofs.YtibaehlfpgipfaaGreat
open Go.RowKit

set_option maxRecDepth 100000 in
set_option maxHeartbeats 8000000 in
theorem ol_int (w : World) (r : Nat) (g : Option Nat) (out : List UInt8) (p : Nat → Prop) (a0 : Option Addr) (n ca : Nat) (l : List Int) (hl : rList (rInt .i64) w p [.slice a0 n ca] l) (hw : Wr w 121 r g out p) (hb : out.length + (encL encI l).length ≤ far) :
    Calls Tryz.prog 160 #[.pointer (some ⟨r, 0, none⟩), .slice a0 n ca] w (Puts 121 r p w g (out ++ encL encI l)) := by
  obtain ⟨hn, hnc, hnf⟩ := rList_len hl
  subst hn
  have hfl := far_len
  unfold maxLen at hfl
  have hnm : l.length ≤ 9223372036854775807 := by omega
  have hw0 : IntKind.u64.wrap (l.length : Int) = (l.length : Int) := by rw [IntKind.wrap_u64]; omega
  have hnu : isU64 (l.length : Int) := by unfold isU64; omega
  have HE : Hid (encL encI l = numB l.length ++ l.flatMap encI) := rfl
  have HB : Hid (out.length + ((numB l.length).length + (l.flatMap encI).length) ≤ far) := by
    show _ ≤ _
    rw [HE.out, List.length_append] at hb; exact hb
  clear hb hnf hfl
  go_enter Tryz.func160, Tryz.ntmps160
  go_wp2_with fail
  go_fit (onumN w r g out p l.length hw hnu (by have := HB.out; omega))
  rintro e w1 ⟨rfl, g1, wr1, ch1⟩
  clear hw0 hnu
  go_wp2_with fail
  go_loopw [4] (fun i wr => ∃ (k : Nat) (g' : Option Nat), k ≤ l.length ∧ i = .int .i64 k ∧ Wr wr 121 r g' (out ++ numB l.length ++ (l.take k).flatMap encI) p ∧ Chain r w g wr g') (fun i _ => l.length - (intOf i).toNat)
  case atStart => exact ⟨0, g1, by omega, rfl, by simpa using wr1, ch1⟩
  case round =>
    clear wr1 ch1
    obtain ⟨k, gk, hk, rfl, wk, ck⟩ := hrel
    by_cases hll : k < l.length
    · have HS : Hid (out ++ numB l.length ++ (l.take (k + 1)).flatMap encI = out ++ numB l.length ++ (l.take k).flatMap encI ++ encI l[k]) := by
        show _ = _
        rw [take_flat encI l k hll]; simp only [List.append_assoc]
      have HBk : Hid ((out ++ numB l.length ++ (l.take k).flatMap encI).length + (encI l[k]).length ≤ far) := by
        show _ ≤ _
        have h1 := take_flat_len encI l k hll
        have h2 := HB.out
        simp only [List.length_append]; omega
      have wkf := wk.free
      obtain ⟨b, off, e0, hcell, hv0⟩ := rInt_cell hl ck.keep hw.free k hll
      subst e0
      have HV : Hid (isI64 l[k]) := isI64_wf hv0
      clear hv0
      generalize l[k] = v at hcell HBk HS HV
      go_wp2_with fail
      go_fit (oint_e wr r gk _ _ v wk HV.out HBk.out)
      rintro e w2 ⟨rfl, g2, wr2, ch2⟩
      clear wk hcell
      have ck2 := ck.trans ch2
      clear ck ch2 wkf
      go_wp2
      go_roundw
      case rel => exact ⟨k + 1, g2, by omega, by go_num, by rw [HS.out]; exact wr2, ck2⟩
      case measure => simp [intOf]; omega
    · obtain rfl : k = l.length := by omega
      have e : l.take l.length = l := List.take_of_length_le (by omega)
      rw [e] at wk
      go_wp2_with fail
      go_end0
      exact ⟨rfl, gk, by rw [HE.out, ← List.append_assoc]; exact wk, ck⟩
set_option maxRecDepth 100000 in
set_option maxHeartbeats 8000000 in
theorem oColumn_c (w : World) (r : Nat) (g : Option Nat) (out : List UInt8) (p : Nat → Prop) (x : GColumn) (cs : List Value) (hx : rGColumn w p cs x) (hw : Wr w 121 r g out p) (hb : out.length + (encGColumn x).length ≤ far) :
    Calls Tryz.prog 159 #[.pointer (some ⟨r, 0, none⟩), .agg cs.toArray] w (Puts 121 r p w g (out ++ encGColumn x)) := by
  obtain ⟨rfl, h0, h1, -⟩ := rGColumn_open hx
  have hw0 := hw.box (.cells #[.string (strB x.fName), .int .i64 x.fKind, .bool x.fNull] 148)
  have row0 : RowIs (w.alloc (.cells #[.string (strB x.fName), .int .i64 x.fKind, .bool x.fNull] 148)) w.heap.size 148 [.string (strB x.fName), .int .i64 x.fKind, .bool x.fNull] := RowIs.alloc w _ _
  replace h0 := Lib.hid h0
  replace h1 := Lib.hid h1
  have HL : Hid (out.length + ((textB x.fName).length + (encI x.fKind).length + (encF x.fNull).length) ≤ far) := by
    show _ ≤ _
    simp only [encGColumn, List.length_append] at hb; omega
  have c0 : Chain r (w.alloc (.cells #[.string (strB x.fName), .int .i64 x.fKind, .bool x.fNull] 148)) g (w.alloc (.cells #[.string (strB x.fName), .int .i64 x.fKind, .bool x.fNull] 148)) g := Chain.refl _ _ _
  have cw : Chain r w g (w.alloc (.cells #[.string (strB x.fName), .int .i64 x.fKind, .bool x.fNull] 148)) g := (Chain.refl r w g).alloc _
  clear hb hx hw
  go_enter Tryz.func159, Tryz.ntmps159
  go_wp2_with fail
  go_fit (otext_c _ r _ _ _ x.fName hw0 h0.out (by have := HL.out; (try simp only [List.length_append]); omega))
  rintro e w1 ⟨rfl, g1, wr1, ch⟩
  have c1 := c0.trans ch
  clear ch c0
  have c0 := c1
  clear c1
  have x1 : w1.cell? ⟨w.heap.size, 1, none⟩ = some (.int .i64 x.fKind) := (row0.go hw0 c0 (.inr rfl)).cell 1
  go_wp2_with fail
  go_fit (oint_e _ r _ _ _ x.fKind wr1 h1.out (by have := HL.out; (try simp only [List.length_append]); omega))
  rintro e w2 ⟨rfl, g2, wr2, ch⟩
  have c2 := c0.trans ch
  clear ch c0 wr1 x1
  have c0 := c2
  clear c2
  have x2 : w2.cell? ⟨w.heap.size, 2, none⟩ = some (.bool x.fNull) := (row0.go hw0 c0 (.inr rfl)).cell 2
  go_wp2_with fail
  go_fit (oflag_c _ r _ _ _ x.fNull wr2 (by have := HL.out; (try simp only [List.length_append]); omega))
  rintro e w3 ⟨rfl, g3, wr3, ch⟩
  have c3 := c0.trans ch
  clear ch c0 wr2 x2
  have c0 := c3
  clear c3
  go_wp2_with fail
  go_end0
  refine ⟨rfl, _, ?_, cw.trans c0⟩
  simp only [encGColumn, ← List.append_assoc]
  exact wr3.mono PB.of
set_option maxRecDepth 100000 in
set_option maxHeartbeats 8000000 in
theorem oTable_c (w : World) (r : Nat) (g : Option Nat) (out : List UInt8) (p : Nat → Prop) (x : GTable) (cs : List Value) (hx : rGTable w p cs x) (hw : Wr w 121 r g out p) (hb : out.length + (encGTable x).length ≤ far) :
    Calls Tryz.prog 103 #[.pointer (some ⟨r, 0, none⟩), .agg cs.toArray] w (Puts 121 r p w g (out ++ encGTable x)) := by
  obtain ⟨aColumns, cColumns, aKey, cKey, rfl, h0, h1, h2, h3, -⟩ := rGTable_open hx
  have hw0 := hw.box (.cells #[.int .i64 x.fID, .string (strB x.fName), .slice aColumns x.fColumns.length cColumns, .slice aKey x.fKey.length cKey] 39)
  have row0 : RowIs (w.alloc (.cells #[.int .i64 x.fID, .string (strB x.fName), .slice aColumns x.fColumns.length cColumns, .slice aKey x.fKey.length cKey] 39)) w.heap.size 39 [.int .i64 x.fID, .string (strB x.fName), .slice aColumns x.fColumns.length cColumns, .slice aKey x.fKey.length cKey] := RowIs.alloc w _ _
  replace h0 := Lib.hid h0
  replace h1 := Lib.hid h1
  replace h2 := (rList_lawful rGColumn_lawful).box h2 (.cells #[.int .i64 x.fID, .string (strB x.fName), .slice aColumns x.fColumns.length cColumns, .slice aKey x.fKey.length cKey] 39)
  replace h2 := Lib.hid h2
  replace h3 := (rList_lawful (rInt_lawful _)).box h3 (.cells #[.int .i64 x.fID, .string (strB x.fName), .slice aColumns x.fColumns.length cColumns, .slice aKey x.fKey.length cKey] 39)
  replace h3 := Lib.hid h3
  have HL : Hid (out.length + ((encI x.fID).length + (textB x.fName).length + (encL encGColumn x.fColumns).length + (encL encI x.fKey).length) ≤ far) := by
    show _ ≤ _
    simp only [encGTable, List.length_append] at hb; omega
  have c0 : Chain r (w.alloc (.cells #[.int .i64 x.fID, .string (strB x.fName), .slice aColumns x.fColumns.length cColumns, .slice aKey x.fKey.length cKey] 39)) g (w.alloc (.cells #[.int .i64 x.fID, .string (strB x.fName), .slice aColumns x.fColumns.length cColumns, .slice aKey x.fKey.length cKey] 39)) g := Chain.refl _ _ _
  have cw : Chain r w g (w.alloc (.cells #[.int .i64 x.fID, .string (strB x.fName), .slice aColumns x.fColumns.length cColumns, .slice aKey x.fKey.length cKey] 39)) g := (Chain.refl r w g).alloc _
  clear hb hx hw
  go_enter Tryz.func103, Tryz.ntmps103
  have HX2 : Hid ((encL encGColumn x.fColumns).length = (numB x.fColumns.length).length + (x.fColumns.flatMap encGColumn).length) := List.length_append
  go_wp2_with fail
  go_fit (oint_e _ r _ _ _ x.fID hw0 h0.out (by have := HL.out; have := HX2.out; (try simp only [List.length_append]); omega))
  rintro e w1 ⟨rfl, g1, wr1, ch⟩
  have c1 := c0.trans ch
  clear ch c0
  have c0 := c1
  clear c1
  have x1 : w1.cell? ⟨w.heap.size, 1, none⟩ = some (.string (strB x.fName)) := (row0.go hw0 c0 (.inr rfl)).cell 1
  go_wp2_with fail
  go_fit (otext_c _ r _ _ _ x.fName wr1 h1.out (by have := HL.out; have := HX2.out; (try simp only [List.length_append]); omega))
  rintro e w2 ⟨rfl, g2, wr2, ch⟩
  have c2 := c0.trans ch
  clear ch c0 wr1 x1
  have c0 := c2
  clear c2
  have x2 : w2.cell? ⟨w.heap.size, 2, none⟩ = some (.slice aColumns x.fColumns.length cColumns) := (row0.go hw0 c0 (.inr rfl)).cell 2
  obtain ⟨hn2, -, hf2⟩ := rList_len h2.out
  have HF2 := Lib.hid hf2
  clear hf2 hn2
  have hlen2 : x.fColumns.length ≤ 9223372036854775807 := by have := HF2.out; have := far_len; unfold maxLen at this; omega
  have hwr2 : IntKind.u64.wrap (x.fColumns.length : Int) = (x.fColumns.length : Int) := by rw [IntKind.wrap_u64]; omega
  go_wp2_with fail
  go_fit (onumN _ r _ _ _ x.fColumns.length wr2 (by unfold isU64; omega) (by have := HL.out; have := HX2.out; (try simp only [List.length_append]); omega))
  rintro e w3 ⟨rfl, g3, wr3, ch⟩
  have c3 := c0.trans ch
  clear ch hwr2 wr2 x2
  go_wp2_with fail
  go_loopw [4] (fun i wr => ∃ (k : Nat) (g' : Option Nat), k ≤ x.fColumns.length ∧ i = .int .i64 k ∧ Wr wr 121 r g' (out ++ encI x.fID ++ textB x.fName ++ numB x.fColumns.length ++ (x.fColumns.take k).flatMap encGColumn) (PB p w.heap.size) ∧ Chain r (w.alloc (.cells #[.int .i64 x.fID, .string (strB x.fName), .slice aColumns x.fColumns.length cColumns, .slice aKey x.fKey.length cKey] 39)) g wr g') (fun i _ => x.fColumns.length - (intOf i).toNat)
  case atStart => exact ⟨0, _, by omega, rfl, by simpa using wr3, c3⟩
  case round =>
    clear wr3 c3 c0
    obtain ⟨k, gk, hk, rfl, wk, ck⟩ := hrel
    have x2 : wr.cell? ⟨w.heap.size, 2, none⟩ = some (.slice aColumns x.fColumns.length cColumns) := (row0.go hw0 ck (.inr rfl)).cell 2
    have HF2 := HF2
    have hlen2 := hlen2
    by_cases hll : k < x.fColumns.length
    · have HS : Hid (out ++ encI x.fID ++ textB x.fName ++ numB x.fColumns.length ++ (x.fColumns.take (k + 1)).flatMap encGColumn = out ++ encI x.fID ++ textB x.fName ++ numB x.fColumns.length ++ (x.fColumns.take k).flatMap encGColumn ++ encGColumn x.fColumns[k]) := by
        show _ = _
        rw [take_flat encGColumn x.fColumns k hll]; simp only [List.append_assoc]
      have HBk : Hid ((out ++ encI x.fID ++ textB x.fName ++ numB x.fColumns.length ++ (x.fColumns.take k).flatMap encGColumn).length + (encGColumn x.fColumns[k]).length ≤ far) := by
        show _ ≤ _
        have h1 := take_flat_len encGColumn x.fColumns k hll
        have h2 := HL.out
        have HY2 := HX2.out
        simp only [List.length_append]; omega
      have wkf := wk.free
      obtain ⟨b, off, cap, c, z1, z2, z3, hx, h5⟩ := rList_at rGColumn_lawful (by decide) h2.out k hll
      simp only [List.cons.injEq, Value.slice.injEq, and_true] at z1
      obtain ⟨e0, -, -⟩ := z1
      subst e0
      have hx' := rGColumn_lawful.keep hx ck.keep hw0.free
      have hlt2 := Nat.lt_of_lt_of_le z3 ck.keep.size
      have hrng : ∀ (j : Nat) (u : Value), c[j]? = some u → wr.cell? ⟨b, off + k * 3 + j, none⟩ = some u := fun j u hu => (ck.keep.cell (p := ⟨b, off + k * 3 + j, none⟩) z3 (hw0.free b z2)).trans (h5 j u hu)
      clear h5 hx
      obtain ⟨rfl, q0, q1, -⟩ := rGColumn_open hx'
      have x100 : wr.cell? ⟨b, off + k * 3, none⟩ = some (.string (strB x.fColumns[k].fName)) := hrng 0 _ rfl
      have x101 : wr.cell? ⟨b, off + k * 3 + 1, none⟩ = some (.int .i64 x.fColumns[k].fKind) := hrng 1 _ rfl
      have x102 : wr.cell? ⟨b, off + k * 3 + 2, none⟩ = some (.bool x.fColumns[k].fNull) := hrng 2 _ rfl
      clear hrng hlt2 q0 q1
      generalize hv : x.fColumns[k] = v at *
      clear hv
      have wk3 := wk
      clear wk
      go_wp2_with fail
      go_fit (oColumn_c _ r gk _ _ v _ hx' wk3 HBk.out)
      rintro e w2 ⟨rfl, g2, wr2, ch2⟩
      clear hx' wk3 x100 x101 x102
      have ck2 := ck.trans ch2
      clear ck ch2 wkf
      go_wp2
      go_roundw
      case rel => exact ⟨k + 1, g2, by omega, by go_num, by rw [HS.out]; exact wr2, ck2⟩
      case measure => simp [intOf]; omega
    · obtain rfl : k = x.fColumns.length := by omega
      have e0 : x.fColumns.take x.fColumns.length = x.fColumns := List.take_of_length_le (by omega)
      rw [e0] at wk
      have wq2 : Wr wr 121 r gk (out ++ encI x.fID ++ textB x.fName ++ encL encGColumn x.fColumns) (PB p w.heap.size) := by rw [show encL encGColumn x.fColumns = numB x.fColumns.length ++ x.fColumns.flatMap encGColumn from rfl, ← List.append_assoc]; exact wk
      clear wk
      obtain ⟨wo2, rfl⟩ : ∃ wo : World, wo = wr := ⟨_, rfl⟩
      have c0 := ck
      clear ck e0
      have x3 : wo2.cell? ⟨w.heap.size, 3, none⟩ = some (.slice aKey x.fKey.length cKey) := (row0.go hw0 c0 (.inr rfl)).cell 3
      go_wp2_with fail
      go_fit (ol_int _ r _ _ _ aKey _ cKey x.fKey ((rList_lawful (rInt_lawful _)).go h3.out hw0 c0) wq2 (by have := HL.out; have := HX2.out; (try simp only [List.length_append]); omega))
      rintro e w4 ⟨rfl, g4, wr4, ch⟩
      have c4 := c0.trans ch
      clear ch c0 wq2 x2 x3
      have c0 := c4
      clear c4
      go_wp2_with fail
      go_end0
      refine ⟨rfl, _, ?_, cw.trans c0⟩
      simp only [encGTable, ← List.append_assoc]
      exact wr4.mono PB.of
set_option maxRecDepth 100000 in
set_option maxHeartbeats 8000000 in
theorem oIndex_c (w : World) (r : Nat) (g : Option Nat) (out : List UInt8) (p : Nat → Prop) (x : GIndex) (cs : List Value) (hx : rGIndex w p cs x) (hw : Wr w 121 r g out p) (hb : out.length + (encGIndex x).length ≤ far) :
    Calls Tryz.prog 104 #[.pointer (some ⟨r, 0, none⟩), .agg cs.toArray] w (Puts 121 r p w g (out ++ encGIndex x)) := by
  obtain ⟨aColumns, cColumns, rfl, h0, h1, h2, h3, h5, -⟩ := rGIndex_open hx
  have hw0 := hw.box (.cells #[.int .i64 x.fID, .int .i64 x.fTable, .string (strB x.fName), .slice aColumns x.fColumns.length cColumns, .bool x.fUnique, .int .i64 x.fState, .bool x.fBad] 41)
  have row0 : RowIs (w.alloc (.cells #[.int .i64 x.fID, .int .i64 x.fTable, .string (strB x.fName), .slice aColumns x.fColumns.length cColumns, .bool x.fUnique, .int .i64 x.fState, .bool x.fBad] 41)) w.heap.size 41 [.int .i64 x.fID, .int .i64 x.fTable, .string (strB x.fName), .slice aColumns x.fColumns.length cColumns, .bool x.fUnique, .int .i64 x.fState, .bool x.fBad] := RowIs.alloc w _ _
  replace h0 := Lib.hid h0
  replace h1 := Lib.hid h1
  replace h2 := Lib.hid h2
  replace h3 := (rList_lawful (rInt_lawful _)).box h3 (.cells #[.int .i64 x.fID, .int .i64 x.fTable, .string (strB x.fName), .slice aColumns x.fColumns.length cColumns, .bool x.fUnique, .int .i64 x.fState, .bool x.fBad] 41)
  replace h3 := Lib.hid h3
  replace h5 := Lib.hid h5
  have HL : Hid (out.length + ((encI x.fID).length + (encI x.fTable).length + (textB x.fName).length + (encL encI x.fColumns).length + (encF x.fUnique).length + (encI x.fState).length + (encF x.fBad).length) ≤ far) := by
    show _ ≤ _
    simp only [encGIndex, List.length_append] at hb; omega
  have c0 : Chain r (w.alloc (.cells #[.int .i64 x.fID, .int .i64 x.fTable, .string (strB x.fName), .slice aColumns x.fColumns.length cColumns, .bool x.fUnique, .int .i64 x.fState, .bool x.fBad] 41)) g (w.alloc (.cells #[.int .i64 x.fID, .int .i64 x.fTable, .string (strB x.fName), .slice aColumns x.fColumns.length cColumns, .bool x.fUnique, .int .i64 x.fState, .bool x.fBad] 41)) g := Chain.refl _ _ _
  have cw : Chain r w g (w.alloc (.cells #[.int .i64 x.fID, .int .i64 x.fTable, .string (strB x.fName), .slice aColumns x.fColumns.length cColumns, .bool x.fUnique, .int .i64 x.fState, .bool x.fBad] 41)) g := (Chain.refl r w g).alloc _
  clear hb hx hw
  go_enter Tryz.func104, Tryz.ntmps104
  go_wp2_with fail
  go_fit (oint_e _ r _ _ _ x.fID hw0 h0.out (by have := HL.out; (try simp only [List.length_append]); omega))
  rintro e w1 ⟨rfl, g1, wr1, ch⟩
  have c1 := c0.trans ch
  clear ch c0
  have c0 := c1
  clear c1
  have x1 : w1.cell? ⟨w.heap.size, 1, none⟩ = some (.int .i64 x.fTable) := (row0.go hw0 c0 (.inr rfl)).cell 1
  go_wp2_with fail
  go_fit (oint_e _ r _ _ _ x.fTable wr1 h1.out (by have := HL.out; (try simp only [List.length_append]); omega))
  rintro e w2 ⟨rfl, g2, wr2, ch⟩
  have c2 := c0.trans ch
  clear ch c0 wr1 x1
  have c0 := c2
  clear c2
  have x2 : w2.cell? ⟨w.heap.size, 2, none⟩ = some (.string (strB x.fName)) := (row0.go hw0 c0 (.inr rfl)).cell 2
  go_wp2_with fail
  go_fit (otext_c _ r _ _ _ x.fName wr2 h2.out (by have := HL.out; (try simp only [List.length_append]); omega))
  rintro e w3 ⟨rfl, g3, wr3, ch⟩
  have c3 := c0.trans ch
  clear ch c0 wr2 x2
  have c0 := c3
  clear c3
  have x3 : w3.cell? ⟨w.heap.size, 3, none⟩ = some (.slice aColumns x.fColumns.length cColumns) := (row0.go hw0 c0 (.inr rfl)).cell 3
  go_wp2_with fail
  go_fit (ol_int _ r _ _ _ aColumns _ cColumns x.fColumns ((rList_lawful (rInt_lawful _)).go h3.out hw0 c0) wr3 (by have := HL.out; (try simp only [List.length_append]); omega))
  rintro e w4 ⟨rfl, g4, wr4, ch⟩
  have c4 := c0.trans ch
  clear ch c0 wr3 x3
  have c0 := c4
  clear c4
  have x4 : w4.cell? ⟨w.heap.size, 4, none⟩ = some (.bool x.fUnique) := (row0.go hw0 c0 (.inr rfl)).cell 4
  go_wp2_with fail
  go_fit (oflag_c _ r _ _ _ x.fUnique wr4 (by have := HL.out; (try simp only [List.length_append]); omega))
  rintro e w5 ⟨rfl, g5, wr5, ch⟩
  have c5 := c0.trans ch
  clear ch c0 wr4 x4
  have c0 := c5
  clear c5
  have x5 : w5.cell? ⟨w.heap.size, 5, none⟩ = some (.int .i64 x.fState) := (row0.go hw0 c0 (.inr rfl)).cell 5
  go_wp2_with fail
  go_fit (oint_e _ r _ _ _ x.fState wr5 h5.out (by have := HL.out; (try simp only [List.length_append]); omega))
  rintro e w6 ⟨rfl, g6, wr6, ch⟩
  have c6 := c0.trans ch
  clear ch c0 wr5 x5
  have c0 := c6
  clear c6
  have x6 : w6.cell? ⟨w.heap.size, 6, none⟩ = some (.bool x.fBad) := (row0.go hw0 c0 (.inr rfl)).cell 6
  go_wp2_with fail
  go_fit (oflag_c _ r _ _ _ x.fBad wr6 (by have := HL.out; (try simp only [List.length_append]); omega))
  rintro e w7 ⟨rfl, g7, wr7, ch⟩
  have c7 := c0.trans ch
  clear ch c0 wr6 x6
  have c0 := c7
  clear c7
  go_wp2_with fail
  go_end0
  refine ⟨rfl, _, ?_, cw.trans c0⟩
  simp only [encGIndex, ← List.append_assoc]
  exact wr7.mono PB.of
set_option maxRecDepth 100000 in
set_option maxHeartbeats 8000000 in
theorem oPair_c (w : World) (r : Nat) (g : Option Nat) (out : List UInt8) (p : Nat → Prop) (x : GPair) (cs : List Value) (hx : rGPair w p cs x) (hw : Wr w 121 r g out p) (hb : out.length + (encGPair x).length ≤ far) :
    Calls Tryz.prog 60 #[.pointer (some ⟨r, 0, none⟩), .agg cs.toArray] w (Puts 121 r p w g (out ++ encGPair x)) := by
  obtain ⟨aKey, cKey, aValue, cValue, rfl, h0, h1, h2, -⟩ := rGPair_open hx
  have hw0 := hw.box (.cells #[.slice aKey x.fKey.length cKey, .slice aValue x.fValue.length cValue, .int .i64 x.fVersion] 114)
  have row0 : RowIs (w.alloc (.cells #[.slice aKey x.fKey.length cKey, .slice aValue x.fValue.length cValue, .int .i64 x.fVersion] 114)) w.heap.size 114 [.slice aKey x.fKey.length cKey, .slice aValue x.fValue.length cValue, .int .i64 x.fVersion] := RowIs.alloc w _ _
  replace h0 := And.intro (h0.1.box (.cells #[.slice aKey x.fKey.length cKey, .slice aValue x.fValue.length cValue, .int .i64 x.fVersion] 114)) h0.2
  replace h0 := Lib.hid h0
  replace h1 := And.intro (h1.1.box (.cells #[.slice aKey x.fKey.length cKey, .slice aValue x.fValue.length cValue, .int .i64 x.fVersion] 114)) h1.2
  replace h1 := Lib.hid h1
  replace h2 := Lib.hid h2
  have HL : Hid (out.length + ((textB x.fKey).length + (textB x.fValue).length + (encI x.fVersion).length) ≤ far) := by
    show _ ≤ _
    simp only [encGPair, List.length_append] at hb; omega
  have c0 : Chain r (w.alloc (.cells #[.slice aKey x.fKey.length cKey, .slice aValue x.fValue.length cValue, .int .i64 x.fVersion] 114)) g (w.alloc (.cells #[.slice aKey x.fKey.length cKey, .slice aValue x.fValue.length cValue, .int .i64 x.fVersion] 114)) g := Chain.refl _ _ _
  have cw : Chain r w g (w.alloc (.cells #[.slice aKey x.fKey.length cKey, .slice aValue x.fValue.length cValue, .int .i64 x.fVersion] 114)) g := (Chain.refl r w g).alloc _
  clear hb hx hw
  go_enter Tryz.func60, Tryz.ntmps60
  go_wp2_with fail
  go_fit (obytes_c _ r _ _ _ aKey _ cKey x.fKey hw0 rfl (h0.out.1.go hw0 c0) (by have := h0.out.2.2; have := far_len; omega) (by have := HL.out; (try simp only [List.length_append]); omega))
  rintro e w1 ⟨rfl, g1, wr1, ch⟩
  have c1 := c0.trans ch
  clear ch c0
  have c0 := c1
  clear c1
  have x1 : w1.cell? ⟨w.heap.size, 1, none⟩ = some (.slice aValue x.fValue.length cValue) := (row0.go hw0 c0 (.inr rfl)).cell 1
  go_wp2_with fail
  go_fit (obytes_c _ r _ _ _ aValue _ cValue x.fValue wr1 rfl (h1.out.1.go hw0 c0) (by have := h1.out.2.2; have := far_len; omega) (by have := HL.out; (try simp only [List.length_append]); omega))
  rintro e w2 ⟨rfl, g2, wr2, ch⟩
  have c2 := c0.trans ch
  clear ch c0 wr1 x1
  have c0 := c2
  clear c2
  have x2 : w2.cell? ⟨w.heap.size, 2, none⟩ = some (.int .i64 x.fVersion) := (row0.go hw0 c0 (.inr rfl)).cell 2
  go_wp2_with fail
  go_fit (oint_e _ r _ _ _ x.fVersion wr2 h2.out (by have := HL.out; (try simp only [List.length_append]); omega))
  rintro e w3 ⟨rfl, g3, wr3, ch⟩
  have c3 := c0.trans ch
  clear ch c0 wr2 x2
  have c0 := c3
  clear c3
  go_wp2_with fail
  go_end0
  refine ⟨rfl, _, ?_, cw.trans c0⟩
  simp only [encGPair, ← List.append_assoc]
  exact wr3.mono PB.of
end Go.Proofs.YtibaehlfpgipfaaGreat
