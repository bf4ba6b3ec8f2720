/- THE STRUCTS: their cells written out, their rows in the table. Printed by gen16.py. -/
import Derived.Test.YtfagejfcibgigaaQTypes
import Derived.Test.YtfagejfcibgigaaQLst
namespace Go.Proofs.Ytfagejfcibgigaa
open Go.RowKit

theorem wf_of_isI64 {n : Int} (h : isI64 n) : (Lit.int .i64 n).wf = true := Go.WalkArith.wf_i64 h
theorem wf_of_isU64 {n : Int} (h : isU64 n) : (Lit.int .u64 n).wf = true := Go.WalkArith.wf_u64 h
theorem rGSpan_open {w : World} {p : Nat → Prop} {cs : List Value} {x : GSpan} (h : rGSpan w p cs x) : ∃ aFrom cFrom aTo cTo, cs = [.slice aFrom x.fFrom.length cFrom, .slice aTo x.fTo.length cTo] ∧ (Lies w p aFrom (x.fFrom.map bv) ∧ x.fFrom.length ≤ cFrom ∧ x.fFrom.length ≤ far) ∧ (Lies w p aTo (x.fTo.map bv) ∧ x.fTo.length ≤ cTo ∧ x.fTo.length ≤ far) ∧ True := by
  obtain ⟨k0, k1, rfl, h0, h1⟩ := h
  obtain ⟨aFrom, cFrom, rfl, f0⟩ := h0
  obtain ⟨aTo, cTo, rfl, f1⟩ := h1
  exact ⟨aFrom, cFrom, aTo, cTo, rfl, f0, f1, trivial⟩
theorem rGSpan_ones {w : World} {p : Nat → Prop} {cs : List Value} {x : GSpan} (h : rGSpan w p cs x) : ones cs = true := by
  obtain ⟨_, _, _, _, rfl, -⟩ := rGSpan_open h
  rfl
theorem rGSpan_mk (w : World) (p : Nat → Prop) {x : GSpan} {aFrom aTo : Option Addr} {cFrom cTo : Nat} (h0 : (Lies w p aFrom (x.fFrom.map bv) ∧ x.fFrom.length ≤ cFrom ∧ x.fFrom.length ≤ far)) (h1 : (Lies w p aTo (x.fTo.map bv) ∧ x.fTo.length ≤ cTo ∧ x.fTo.length ≤ far)) : rGSpan w p [.slice aFrom x.fFrom.length cFrom, .slice aTo x.fTo.length cTo] x :=
  ⟨[.slice aFrom x.fFrom.length cFrom], [.slice aTo x.fTo.length cTo], rfl, ⟨_, _, rfl, h0⟩, ⟨_, _, rfl, h1⟩⟩
theorem S_Span : StructT Try.prog 46 2 := ⟨⟨_, Try.underlying46⟩, by kernel_rfl⟩
theorem B_Span : BuildT Try.prog 46 [1, 1] := by
  obtain ⟨i, hi, hz, -, -⟩ := info_parts (by kernel_rfl : (Try.prog.info? 46).map (fun i => (i.zero, i.size, i.bytes)) = some (some (.agg #[.slice none 0 0, .slice none 0 0]), 2, 48))
  exact ⟨_, i, _, [(0, 1), (1, 1)], Try.underlying46, hi, hz, rfl, by kernel_rfl, rfl, by decide⟩
theorem ldz_Span (a : Act) (dst : Option Tmp) (x : Operand) (ty : TypeId) (pos : String) (after : Array Edge) (guard : Option (Nat × Bool)) : execOp a.eval { dst := dst, op := .load 46 x, type := ty, pos := pos, after := after, guard := guard } = wholeSem 46 (a.eval x) := rfl
theorem stz_Span (a : Act) (dst : Option Tmp) (x y : Operand) (ty : TypeId) (pos : String) (after : Array Edge) (guard : Option (Nat × Bool)) : execOp a.eval { dst := dst, op := .store 46 x y, type := ty, pos := pos, after := after, guard := guard } = storeSem 46 (a.eval x) (a.eval y) := rfl
theorem bdz_Span (a : Act) (dst : Option Tmp) (parts : Array (Nat × Operand)) (ty : TypeId) (pos : String) (after : Array Edge) (guard : Option (Nat × Bool)) : execOp a.eval { dst := dst, op := .build 46 parts, type := ty, pos := pos, after := after, guard := guard } = buildSem 46 (parts.map fun x => (x.1, a.eval x.2)) := rfl
theorem T_lSpan : SliceT Try.prog 25 46 2 48 := SliceT.mk' Try.underlying25 (z := .agg #[.slice none 0 0, .slice none 0 0]) (by kernel_rfl) rfl (by decide)
theorem lsz_Span (a : Act) (dst : Option Tmp) (parts : Array (Nat × Operand)) (ty : TypeId) (pos : String) (after : Array Edge) (guard : Option (Nat × Bool)) : execOp a.eval { dst := dst, op := .buildSlice 25 1 parts, type := ty, pos := pos, after := after, guard := guard } = listSem 25 1 (parts.map fun x => (x.1, a.eval x.2)) := rfl
theorem rGWrite_open {w : World} {p : Nat → Prop} {cs : List Value} {x : GWrite} (h : rGWrite w p cs x) : ∃ aKey cKey aValue cValue, cs = [.slice aKey x.fKey.length cKey, .slice aValue x.fValue.length cValue, .bool x.fDrop] ∧ (Lies w p aKey (x.fKey.map bv) ∧ x.fKey.length ≤ cKey ∧ x.fKey.length ≤ far) ∧ (Lies w p aValue (x.fValue.map bv) ∧ x.fValue.length ≤ cValue ∧ x.fValue.length ≤ far) ∧ True := by
  obtain ⟨k0, k1, k2, rfl, h0, h1, h2⟩ := h
  obtain ⟨aKey, cKey, rfl, f0⟩ := h0
  obtain ⟨aValue, cValue, rfl, f1⟩ := h1
  obtain rfl := h2
  exact ⟨aKey, cKey, aValue, cValue, rfl, f0, f1, trivial⟩
theorem rGWrite_ones {w : World} {p : Nat → Prop} {cs : List Value} {x : GWrite} (h : rGWrite w p cs x) : ones cs = true := by
  obtain ⟨_, _, _, _, rfl, -⟩ := rGWrite_open h
  rfl
theorem rGWrite_mk (w : World) (p : Nat → Prop) {x : GWrite} {aKey aValue : Option Addr} {cKey cValue : Nat} (h0 : (Lies w p aKey (x.fKey.map bv) ∧ x.fKey.length ≤ cKey ∧ x.fKey.length ≤ far)) (h1 : (Lies w p aValue (x.fValue.map bv) ∧ x.fValue.length ≤ cValue ∧ x.fValue.length ≤ far)) : rGWrite w p [.slice aKey x.fKey.length cKey, .slice aValue x.fValue.length cValue, .bool x.fDrop] x :=
  ⟨[.slice aKey x.fKey.length cKey], [.slice aValue x.fValue.length cValue], [.bool x.fDrop], rfl, ⟨_, _, rfl, h0⟩, ⟨_, _, rfl, h1⟩, rfl⟩
theorem S_Write : StructT Try.prog 48 3 := ⟨⟨_, Try.underlying48⟩, by kernel_rfl⟩
theorem B_Write : BuildT Try.prog 48 [1, 1, 1] := by
  obtain ⟨i, hi, hz, -, -⟩ := info_parts (by kernel_rfl : (Try.prog.info? 48).map (fun i => (i.zero, i.size, i.bytes)) = some (some (.agg #[.slice none 0 0, .slice none 0 0, .bool false]), 3, 56))
  exact ⟨_, i, _, [(0, 1), (1, 1), (2, 1)], Try.underlying48, hi, hz, rfl, by kernel_rfl, rfl, by decide⟩
theorem ldz_Write (a : Act) (dst : Option Tmp) (x : Operand) (ty : TypeId) (pos : String) (after : Array Edge) (guard : Option (Nat × Bool)) : execOp a.eval { dst := dst, op := .load 48 x, type := ty, pos := pos, after := after, guard := guard } = wholeSem 48 (a.eval x) := rfl
theorem stz_Write (a : Act) (dst : Option Tmp) (x y : Operand) (ty : TypeId) (pos : String) (after : Array Edge) (guard : Option (Nat × Bool)) : execOp a.eval { dst := dst, op := .store 48 x y, type := ty, pos := pos, after := after, guard := guard } = storeSem 48 (a.eval x) (a.eval y) := rfl
theorem bdz_Write (a : Act) (dst : Option Tmp) (parts : Array (Nat × Operand)) (ty : TypeId) (pos : String) (after : Array Edge) (guard : Option (Nat × Bool)) : execOp a.eval { dst := dst, op := .build 48 parts, type := ty, pos := pos, after := after, guard := guard } = buildSem 48 (parts.map fun x => (x.1, a.eval x.2)) := rfl
theorem T_lWrite : SliceT Try.prog 26 48 3 56 := SliceT.mk' Try.underlying26 (z := .agg #[.slice none 0 0, .slice none 0 0, .bool false]) (by kernel_rfl) rfl (by decide)
theorem lsz_Write (a : Act) (dst : Option Tmp) (parts : Array (Nat × Operand)) (ty : TypeId) (pos : String) (after : Array Edge) (guard : Option (Nat × Bool)) : execOp a.eval { dst := dst, op := .buildSlice 26 1 parts, type := ty, pos := pos, after := after, guard := guard } = listSem 26 1 (parts.map fun x => (x.1, a.eval x.2)) := rfl
theorem rGHeld_open {w : World} {p : Nat → Prop} {cs : List Value} {x : GHeld} (h : rGHeld w p cs x) : ∃ aKeys cKeys aSpans cSpans aWrites cWrites, cs = [.int .u64 x.fTxn, .slice aKeys x.fKeys.length cKeys, .slice aSpans x.fSpans.length cSpans, .slice aWrites x.fWrites.length cWrites] ∧ isU64 x.fTxn ∧ rList rBytes w p [.slice aKeys x.fKeys.length cKeys] x.fKeys ∧ rList rGSpan w p [.slice aSpans x.fSpans.length cSpans] x.fSpans ∧ rList rGWrite w p [.slice aWrites x.fWrites.length cWrites] x.fWrites ∧ True := by
  obtain ⟨k0, k1, k2, k3, rfl, h0, h1, h2, h3⟩ := h
  obtain ⟨rfl, f0⟩ := h0
  obtain ⟨aKeys, cKeys, rfl, f1⟩ := rList_open h1
  obtain ⟨aSpans, cSpans, rfl, f2⟩ := rList_open h2
  obtain ⟨aWrites, cWrites, rfl, f3⟩ := rList_open h3
  exact ⟨aKeys, cKeys, aSpans, cSpans, aWrites, cWrites, rfl, isU64_wf f0, f1, f2, f3, trivial⟩
theorem rGHeld_ones {w : World} {p : Nat → Prop} {cs : List Value} {x : GHeld} (h : rGHeld w p cs x) : ones cs = true := by
  obtain ⟨_, _, _, _, _, _, rfl, -⟩ := rGHeld_open h
  rfl
theorem rGHeld_mk (w : World) (p : Nat → Prop) {x : GHeld} {aKeys aSpans aWrites : Option Addr} {cKeys cSpans cWrites : Nat} (h0 : isU64 x.fTxn) (h1 : rList rBytes w p [.slice aKeys x.fKeys.length cKeys] x.fKeys) (h2 : rList rGSpan w p [.slice aSpans x.fSpans.length cSpans] x.fSpans) (h3 : rList rGWrite w p [.slice aWrites x.fWrites.length cWrites] x.fWrites) : rGHeld w p [.int .u64 x.fTxn, .slice aKeys x.fKeys.length cKeys, .slice aSpans x.fSpans.length cSpans, .slice aWrites x.fWrites.length cWrites] x :=
  ⟨[.int .u64 x.fTxn], [.slice aKeys x.fKeys.length cKeys], [.slice aSpans x.fSpans.length cSpans], [.slice aWrites x.fWrites.length cWrites], rfl, ⟨rfl, wf_of_isU64 h0⟩, h1, h2, h3⟩
theorem S_Held : StructT Try.prog 28 4 := ⟨⟨_, Try.underlying28⟩, by kernel_rfl⟩
theorem B_Held : BuildT Try.prog 28 [1, 1, 1, 1] := by
  obtain ⟨i, hi, hz, -, -⟩ := info_parts (by kernel_rfl : (Try.prog.info? 28).map (fun i => (i.zero, i.size, i.bytes)) = some (some (.agg #[.int .u64 0, .slice none 0 0, .slice none 0 0, .slice none 0 0]), 4, 80))
  exact ⟨_, i, _, [(0, 1), (1, 1), (2, 1), (3, 1)], Try.underlying28, hi, hz, rfl, by kernel_rfl, rfl, by decide⟩
theorem ldz_Held (a : Act) (dst : Option Tmp) (x : Operand) (ty : TypeId) (pos : String) (after : Array Edge) (guard : Option (Nat × Bool)) : execOp a.eval { dst := dst, op := .load 28 x, type := ty, pos := pos, after := after, guard := guard } = wholeSem 28 (a.eval x) := rfl
theorem stz_Held (a : Act) (dst : Option Tmp) (x y : Operand) (ty : TypeId) (pos : String) (after : Array Edge) (guard : Option (Nat × Bool)) : execOp a.eval { dst := dst, op := .store 28 x y, type := ty, pos := pos, after := after, guard := guard } = storeSem 28 (a.eval x) (a.eval y) := rfl
theorem bdz_Held (a : Act) (dst : Option Tmp) (parts : Array (Nat × Operand)) (ty : TypeId) (pos : String) (after : Array Edge) (guard : Option (Nat × Bool)) : execOp a.eval { dst := dst, op := .build 28 parts, type := ty, pos := pos, after := after, guard := guard } = buildSem 28 (parts.map fun x => (x.1, a.eval x.2)) := rfl
theorem T_lHeld : SliceT Try.prog 22 28 4 80 := SliceT.mk' Try.underlying22 (z := .agg #[.int .u64 0, .slice none 0 0, .slice none 0 0, .slice none 0 0]) (by kernel_rfl) rfl (by decide)
theorem lsz_Held (a : Act) (dst : Option Tmp) (parts : Array (Nat × Operand)) (ty : TypeId) (pos : String) (after : Array Edge) (guard : Option (Nat × Bool)) : execOp a.eval { dst := dst, op := .buildSlice 22 1 parts, type := ty, pos := pos, after := after, guard := guard } = listSem 22 1 (parts.map fun x => (x.1, a.eval x.2)) := rfl
theorem rInt_ones {k : IntKind} {w : World} {p : Nat → Prop} {cs : List Value} {x : Int} (h : rInt k w p cs x) : ones cs = true := by rw [h.1]; rfl
end Go.Proofs.Ytfagejfcibgigaa
