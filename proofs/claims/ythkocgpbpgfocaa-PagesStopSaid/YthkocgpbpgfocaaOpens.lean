/- THE STRUCTS: their cells written out, their rows in the table. Printed by gen16.py. -/
import Derived.Test.YthkocgpbpgfocaaTypes
import Derived.Test.YthkocgpbpgfocaaLst
namespace Go.Proofs.Ythkocgpbpgfocaa
open Go.RowKit

theorem wf_of_isI64 {n : Int} (h : isI64 n) : (Lit.int .i64 n).wf = true := Go.WalkArith.wf_i64 h
theorem wf_of_isU64 {n : Int} (h : isU64 n) : (Lit.int .u64 n).wf = true := Go.WalkArith.wf_u64 h
theorem rGPair_open {w : World} {p : Nat → Prop} {cs : List Value} {x : GPair} (h : rGPair w p cs x) : ∃ aKey cKey aValue cValue, cs = [.slice aKey x.fKey.length cKey, .slice aValue x.fValue.length cValue, .int .i64 x.fVersion] ∧ (Lies w p aKey (x.fKey.map bv) ∧ x.fKey.length ≤ cKey ∧ x.fKey.length ≤ far) ∧ (Lies w p aValue (x.fValue.map bv) ∧ x.fValue.length ≤ cValue ∧ x.fValue.length ≤ far) ∧ isI64 x.fVersion ∧ True := by
  obtain ⟨k0, k1, k2, rfl, h0, h1, h2⟩ := h
  obtain ⟨aKey, cKey, rfl, f0⟩ := h0
  obtain ⟨aValue, cValue, rfl, f1⟩ := h1
  obtain ⟨rfl, f2⟩ := h2
  exact ⟨aKey, cKey, aValue, cValue, rfl, f0, f1, isI64_wf f2, trivial⟩
theorem rGPair_ones {w : World} {p : Nat → Prop} {cs : List Value} {x : GPair} (h : rGPair w p cs x) : ones cs = true := by
  obtain ⟨_, _, _, _, rfl, -⟩ := rGPair_open h
  rfl
theorem rGPair_mk (w : World) (p : Nat → Prop) {x : GPair} {aKey aValue : Option Addr} {cKey cValue : Nat} (h0 : (Lies w p aKey (x.fKey.map bv) ∧ x.fKey.length ≤ cKey ∧ x.fKey.length ≤ far)) (h1 : (Lies w p aValue (x.fValue.map bv) ∧ x.fValue.length ≤ cValue ∧ x.fValue.length ≤ far)) (h2 : isI64 x.fVersion) : rGPair w p [.slice aKey x.fKey.length cKey, .slice aValue x.fValue.length cValue, .int .i64 x.fVersion] x :=
  ⟨[.slice aKey x.fKey.length cKey], [.slice aValue x.fValue.length cValue], [.int .i64 x.fVersion], rfl, ⟨_, _, rfl, h0⟩, ⟨_, _, rfl, h1⟩, ⟨rfl, wf_of_isI64 h2⟩⟩
theorem S_Pair : StructT Try.prog 29 3 := ⟨⟨_, Try.underlying29⟩, by kernel_rfl⟩
theorem B_Pair : BuildT Try.prog 29 [1, 1, 1] := by
  obtain ⟨i, hi, hz, -, -⟩ := info_parts (by kernel_rfl : (Try.prog.info? 29).map (fun i => (i.zero, i.size, i.bytes)) = some (some (.agg #[.slice none 0 0, .slice none 0 0, .int .i64 0]), 3, 56))
  exact ⟨_, i, _, [(0, 1), (1, 1), (2, 1)], Try.underlying29, hi, hz, rfl, by kernel_rfl, rfl, by decide⟩
theorem ldz_Pair (a : Act) (dst : Option Tmp) (x : Operand) (ty : TypeId) (pos : String) (after : Array Edge) (guard : Option (Nat × Bool)) : execOp a.eval { dst := dst, op := .load 29 x, type := ty, pos := pos, after := after, guard := guard } = wholeSem 29 (a.eval x) := rfl
theorem stz_Pair (a : Act) (dst : Option Tmp) (x y : Operand) (ty : TypeId) (pos : String) (after : Array Edge) (guard : Option (Nat × Bool)) : execOp a.eval { dst := dst, op := .store 29 x y, type := ty, pos := pos, after := after, guard := guard } = storeSem 29 (a.eval x) (a.eval y) := rfl
theorem bdz_Pair (a : Act) (dst : Option Tmp) (parts : Array (Nat × Operand)) (ty : TypeId) (pos : String) (after : Array Edge) (guard : Option (Nat × Bool)) : execOp a.eval { dst := dst, op := .build 29 parts, type := ty, pos := pos, after := after, guard := guard } = buildSem 29 (parts.map fun x => (x.1, a.eval x.2)) := rfl
theorem T_lPair : SliceT Try.prog 22 29 3 56 := SliceT.mk' Try.underlying22 (z := .agg #[.slice none 0 0, .slice none 0 0, .int .i64 0]) (by kernel_rfl) rfl (by decide)
theorem lsz_Pair (a : Act) (dst : Option Tmp) (parts : Array (Nat × Operand)) (ty : TypeId) (pos : String) (after : Array Edge) (guard : Option (Nat × Bool)) : execOp a.eval { dst := dst, op := .buildSlice 22 1 parts, type := ty, pos := pos, after := after, guard := guard } = listSem 22 1 (parts.map fun x => (x.1, a.eval x.2)) := rfl
theorem rGSpan_open {w : World} {p : Nat → Prop} {cs : List Value} {x : GSpan} (h : rGSpan w p cs x) : ∃ aFrom cFrom aTo cTo, cs = [.slice aFrom x.fFrom.length cFrom, .slice aTo x.fTo.length cTo] ∧ (Lies w p aFrom (x.fFrom.map bv) ∧ x.fFrom.length ≤ cFrom ∧ x.fFrom.length ≤ far) ∧ (Lies w p aTo (x.fTo.map bv) ∧ x.fTo.length ≤ cTo ∧ x.fTo.length ≤ far) ∧ True := by
  obtain ⟨k0, k1, rfl, h0, h1⟩ := h
  obtain ⟨aFrom, cFrom, rfl, f0⟩ := h0
  obtain ⟨aTo, cTo, rfl, f1⟩ := h1
  exact ⟨aFrom, cFrom, aTo, cTo, rfl, f0, f1, trivial⟩
theorem rGSpan_ones {w : World} {p : Nat → Prop} {cs : List Value} {x : GSpan} (h : rGSpan w p cs x) : ones cs = true := by
  obtain ⟨_, _, _, _, rfl, -⟩ := rGSpan_open h
  rfl
theorem rGSpan_mk (w : World) (p : Nat → Prop) {x : GSpan} {aFrom aTo : Option Addr} {cFrom cTo : Nat} (h0 : (Lies w p aFrom (x.fFrom.map bv) ∧ x.fFrom.length ≤ cFrom ∧ x.fFrom.length ≤ far)) (h1 : (Lies w p aTo (x.fTo.map bv) ∧ x.fTo.length ≤ cTo ∧ x.fTo.length ≤ far)) : rGSpan w p [.slice aFrom x.fFrom.length cFrom, .slice aTo x.fTo.length cTo] x :=
  ⟨[.slice aFrom x.fFrom.length cFrom], [.slice aTo x.fTo.length cTo], rfl, ⟨_, _, rfl, h0⟩, ⟨_, _, rfl, h1⟩⟩
theorem S_Span : StructT Try.prog 37 2 := ⟨⟨_, Try.underlying37⟩, by kernel_rfl⟩
theorem B_Span : BuildT Try.prog 37 [1, 1] := by
  obtain ⟨i, hi, hz, -, -⟩ := info_parts (by kernel_rfl : (Try.prog.info? 37).map (fun i => (i.zero, i.size, i.bytes)) = some (some (.agg #[.slice none 0 0, .slice none 0 0]), 2, 48))
  exact ⟨_, i, _, [(0, 1), (1, 1)], Try.underlying37, hi, hz, rfl, by kernel_rfl, rfl, by decide⟩
theorem ldz_Span (a : Act) (dst : Option Tmp) (x : Operand) (ty : TypeId) (pos : String) (after : Array Edge) (guard : Option (Nat × Bool)) : execOp a.eval { dst := dst, op := .load 37 x, type := ty, pos := pos, after := after, guard := guard } = wholeSem 37 (a.eval x) := rfl
theorem stz_Span (a : Act) (dst : Option Tmp) (x y : Operand) (ty : TypeId) (pos : String) (after : Array Edge) (guard : Option (Nat × Bool)) : execOp a.eval { dst := dst, op := .store 37 x y, type := ty, pos := pos, after := after, guard := guard } = storeSem 37 (a.eval x) (a.eval y) := rfl
theorem bdz_Span (a : Act) (dst : Option Tmp) (parts : Array (Nat × Operand)) (ty : TypeId) (pos : String) (after : Array Edge) (guard : Option (Nat × Bool)) : execOp a.eval { dst := dst, op := .build 37 parts, type := ty, pos := pos, after := after, guard := guard } = buildSem 37 (parts.map fun x => (x.1, a.eval x.2)) := rfl
theorem rInt_ones {k : IntKind} {w : World} {p : Nat → Prop} {cs : List Value} {x : Int} (h : rInt k w p cs x) : ones cs = true := by rw [h.1]; rfl
theorem T_lint : SliceT Try.prog 60 3 1 8 := SliceT.mk' Try.underlying60 (z := .int .i64 0) (by kernel_rfl) rfl (by decide)
end Go.Proofs.Ythkocgpbpgfocaa
