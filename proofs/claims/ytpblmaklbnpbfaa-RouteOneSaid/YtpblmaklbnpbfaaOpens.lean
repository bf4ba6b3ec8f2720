/- THE STRUCTS: their cells written out, their rows in the table. Printed by gen16.py. -/
import Derived.Test.YtpblmaklbnpbfaaTypes
import Derived.Test.YtpblmaklbnpbfaaLst
namespace Go.Proofs.Ytpblmaklbnpbfaa
open Go.RowKit

theorem wf_of_isI64 {n : Int} (h : isI64 n) : (Lit.int .i64 n).wf = true := Go.WalkArith.wf_i64 h
theorem wf_of_isU64 {n : Int} (h : isU64 n) : (Lit.int .u64 n).wf = true := Go.WalkArith.wf_u64 h
theorem rGOwner_open {w : World} {p : Nat → Prop} {cs : List Value} {x : GOwner} (h : rGOwner w p cs x) : ∃ aFrom cFrom, cs = [.int .i64 x.fGroup, .slice aFrom x.fFrom.length cFrom] ∧ isI64 x.fGroup ∧ (Lies w p aFrom (x.fFrom.map bv) ∧ x.fFrom.length ≤ cFrom ∧ x.fFrom.length ≤ far) ∧ True := by
  obtain ⟨k0, k1, rfl, h0, h1⟩ := h
  obtain ⟨rfl, f0⟩ := h0
  obtain ⟨aFrom, cFrom, rfl, f1⟩ := h1
  exact ⟨aFrom, cFrom, rfl, isI64_wf f0, f1, trivial⟩
theorem rGOwner_ones {w : World} {p : Nat → Prop} {cs : List Value} {x : GOwner} (h : rGOwner w p cs x) : ones cs = true := by
  obtain ⟨_, _, rfl, -⟩ := rGOwner_open h
  rfl
theorem rGOwner_mk (w : World) (p : Nat → Prop) {x : GOwner} {aFrom : Option Addr} {cFrom : Nat} (h0 : isI64 x.fGroup) (h1 : (Lies w p aFrom (x.fFrom.map bv) ∧ x.fFrom.length ≤ cFrom ∧ x.fFrom.length ≤ far)) : rGOwner w p [.int .i64 x.fGroup, .slice aFrom x.fFrom.length cFrom] x :=
  ⟨[.int .i64 x.fGroup], [.slice aFrom x.fFrom.length cFrom], rfl, ⟨rfl, wf_of_isI64 h0⟩, ⟨_, _, rfl, h1⟩⟩
theorem S_Owner : StructT Try.prog 32 2 := ⟨⟨_, Try.underlying32⟩, by kernel_rfl⟩
theorem B_Owner : BuildT Try.prog 32 [1, 1] := by
  obtain ⟨i, hi, hz, -, -⟩ := info_parts (by kernel_rfl : (Try.prog.info? 32).map (fun i => (i.zero, i.size, i.bytes)) = some (some (.agg #[.int .i64 0, .slice none 0 0]), 2, 32))
  exact ⟨_, i, _, [(0, 1), (1, 1)], Try.underlying32, hi, hz, rfl, by kernel_rfl, rfl, by decide⟩
theorem ldz_Owner (a : Act) (dst : Option Tmp) (x : Operand) (ty : TypeId) (pos : String) (after : Array Edge) (guard : Option (Nat × Bool)) : execOp a.eval { dst := dst, op := .load 32 x, type := ty, pos := pos, after := after, guard := guard } = wholeSem 32 (a.eval x) := rfl
theorem stz_Owner (a : Act) (dst : Option Tmp) (x y : Operand) (ty : TypeId) (pos : String) (after : Array Edge) (guard : Option (Nat × Bool)) : execOp a.eval { dst := dst, op := .store 32 x y, type := ty, pos := pos, after := after, guard := guard } = storeSem 32 (a.eval x) (a.eval y) := rfl
theorem bdz_Owner (a : Act) (dst : Option Tmp) (parts : Array (Nat × Operand)) (ty : TypeId) (pos : String) (after : Array Edge) (guard : Option (Nat × Bool)) : execOp a.eval { dst := dst, op := .build 32 parts, type := ty, pos := pos, after := after, guard := guard } = buildSem 32 (parts.map fun x => (x.1, a.eval x.2)) := rfl
theorem T_lOwner : SliceT Try.prog 22 32 2 32 := SliceT.mk' Try.underlying22 (z := .agg #[.int .i64 0, .slice none 0 0]) (by kernel_rfl) rfl (by decide)
theorem lsz_Owner (a : Act) (dst : Option Tmp) (parts : Array (Nat × Operand)) (ty : TypeId) (pos : String) (after : Array Edge) (guard : Option (Nat × Bool)) : execOp a.eval { dst := dst, op := .buildSlice 22 1 parts, type := ty, pos := pos, after := after, guard := guard } = listSem 22 1 (parts.map fun x => (x.1, a.eval x.2)) := rfl
theorem rGRoutes_open {w : World} {p : Nat → Prop} {cs : List Value} {x : GRoutes} (h : rGRoutes w p cs x) : ∃ aSpans cSpans aCut cCut, cs = [.int .i64 x.fEpoch, .int .i64 x.fBase, .slice aSpans x.fSpans.length cSpans, .int .i64 x.fMoving, .slice aCut x.fCut.length cCut] ∧ isI64 x.fEpoch ∧ isI64 x.fBase ∧ rList rGOwner w p [.slice aSpans x.fSpans.length cSpans] x.fSpans ∧ isI64 x.fMoving ∧ (Lies w p aCut (x.fCut.map bv) ∧ x.fCut.length ≤ cCut ∧ x.fCut.length ≤ far) ∧ True := by
  obtain ⟨k0, k1, k2, k3, k4, rfl, h0, h1, h2, h3, h4⟩ := h
  obtain ⟨rfl, f0⟩ := h0
  obtain ⟨rfl, f1⟩ := h1
  obtain ⟨aSpans, cSpans, rfl, f2⟩ := rList_open h2
  obtain ⟨rfl, f3⟩ := h3
  obtain ⟨aCut, cCut, rfl, f4⟩ := h4
  exact ⟨aSpans, cSpans, aCut, cCut, rfl, isI64_wf f0, isI64_wf f1, f2, isI64_wf f3, f4, trivial⟩
theorem rGRoutes_ones {w : World} {p : Nat → Prop} {cs : List Value} {x : GRoutes} (h : rGRoutes w p cs x) : ones cs = true := by
  obtain ⟨_, _, _, _, rfl, -⟩ := rGRoutes_open h
  rfl
theorem rGRoutes_mk (w : World) (p : Nat → Prop) {x : GRoutes} {aSpans aCut : Option Addr} {cSpans cCut : Nat} (h0 : isI64 x.fEpoch) (h1 : isI64 x.fBase) (h2 : rList rGOwner w p [.slice aSpans x.fSpans.length cSpans] x.fSpans) (h3 : isI64 x.fMoving) (h4 : (Lies w p aCut (x.fCut.map bv) ∧ x.fCut.length ≤ cCut ∧ x.fCut.length ≤ far)) : rGRoutes w p [.int .i64 x.fEpoch, .int .i64 x.fBase, .slice aSpans x.fSpans.length cSpans, .int .i64 x.fMoving, .slice aCut x.fCut.length cCut] x :=
  ⟨[.int .i64 x.fEpoch], [.int .i64 x.fBase], [.slice aSpans x.fSpans.length cSpans], [.int .i64 x.fMoving], [.slice aCut x.fCut.length cCut], rfl, ⟨rfl, wf_of_isI64 h0⟩, ⟨rfl, wf_of_isI64 h1⟩, h2, ⟨rfl, wf_of_isI64 h3⟩, ⟨_, _, rfl, h4⟩⟩
theorem S_Routes : StructT Try.prog 25 5 := ⟨⟨_, Try.underlying25⟩, by kernel_rfl⟩
theorem B_Routes : BuildT Try.prog 25 [1, 1, 1, 1, 1] := by
  obtain ⟨i, hi, hz, -, -⟩ := info_parts (by kernel_rfl : (Try.prog.info? 25).map (fun i => (i.zero, i.size, i.bytes)) = some (some (.agg #[.int .i64 0, .int .i64 0, .slice none 0 0, .int .i64 0, .slice none 0 0]), 5, 72))
  exact ⟨_, i, _, [(0, 1), (1, 1), (2, 1), (3, 1), (4, 1)], Try.underlying25, hi, hz, rfl, by kernel_rfl, rfl, by decide⟩
theorem ldz_Routes (a : Act) (dst : Option Tmp) (x : Operand) (ty : TypeId) (pos : String) (after : Array Edge) (guard : Option (Nat × Bool)) : execOp a.eval { dst := dst, op := .load 25 x, type := ty, pos := pos, after := after, guard := guard } = wholeSem 25 (a.eval x) := rfl
theorem stz_Routes (a : Act) (dst : Option Tmp) (x y : Operand) (ty : TypeId) (pos : String) (after : Array Edge) (guard : Option (Nat × Bool)) : execOp a.eval { dst := dst, op := .store 25 x y, type := ty, pos := pos, after := after, guard := guard } = storeSem 25 (a.eval x) (a.eval y) := rfl
theorem bdz_Routes (a : Act) (dst : Option Tmp) (parts : Array (Nat × Operand)) (ty : TypeId) (pos : String) (after : Array Edge) (guard : Option (Nat × Bool)) : execOp a.eval { dst := dst, op := .build 25 parts, type := ty, pos := pos, after := after, guard := guard } = buildSem 25 (parts.map fun x => (x.1, a.eval x.2)) := rfl
theorem rGSpan_open {w : World} {p : Nat → Prop} {cs : List Value} {x : GSpan} (h : rGSpan w p cs x) : ∃ aFrom cFrom aTo cTo, cs = [.slice aFrom x.fFrom.length cFrom, .slice aTo x.fTo.length cTo] ∧ (Lies w p aFrom (x.fFrom.map bv) ∧ x.fFrom.length ≤ cFrom ∧ x.fFrom.length ≤ far) ∧ (Lies w p aTo (x.fTo.map bv) ∧ x.fTo.length ≤ cTo ∧ x.fTo.length ≤ far) ∧ True := by
  obtain ⟨k0, k1, rfl, h0, h1⟩ := h
  obtain ⟨aFrom, cFrom, rfl, f0⟩ := h0
  obtain ⟨aTo, cTo, rfl, f1⟩ := h1
  exact ⟨aFrom, cFrom, aTo, cTo, rfl, f0, f1, trivial⟩
theorem rGSpan_ones {w : World} {p : Nat → Prop} {cs : List Value} {x : GSpan} (h : rGSpan w p cs x) : ones cs = true := by
  obtain ⟨_, _, _, _, rfl, -⟩ := rGSpan_open h
  rfl
theorem rGSpan_mk (w : World) (p : Nat → Prop) {x : GSpan} {aFrom aTo : Option Addr} {cFrom cTo : Nat} (h0 : (Lies w p aFrom (x.fFrom.map bv) ∧ x.fFrom.length ≤ cFrom ∧ x.fFrom.length ≤ far)) (h1 : (Lies w p aTo (x.fTo.map bv) ∧ x.fTo.length ≤ cTo ∧ x.fTo.length ≤ far)) : rGSpan w p [.slice aFrom x.fFrom.length cFrom, .slice aTo x.fTo.length cTo] x :=
  ⟨[.slice aFrom x.fFrom.length cFrom], [.slice aTo x.fTo.length cTo], rfl, ⟨_, _, rfl, h0⟩, ⟨_, _, rfl, h1⟩⟩
theorem S_Span : StructT Try.prog 29 2 := ⟨⟨_, Try.underlying29⟩, by kernel_rfl⟩
theorem B_Span : BuildT Try.prog 29 [1, 1] := by
  obtain ⟨i, hi, hz, -, -⟩ := info_parts (by kernel_rfl : (Try.prog.info? 29).map (fun i => (i.zero, i.size, i.bytes)) = some (some (.agg #[.slice none 0 0, .slice none 0 0]), 2, 48))
  exact ⟨_, i, _, [(0, 1), (1, 1)], Try.underlying29, hi, hz, rfl, by kernel_rfl, rfl, by decide⟩
theorem ldz_Span (a : Act) (dst : Option Tmp) (x : Operand) (ty : TypeId) (pos : String) (after : Array Edge) (guard : Option (Nat × Bool)) : execOp a.eval { dst := dst, op := .load 29 x, type := ty, pos := pos, after := after, guard := guard } = wholeSem 29 (a.eval x) := rfl
theorem stz_Span (a : Act) (dst : Option Tmp) (x y : Operand) (ty : TypeId) (pos : String) (after : Array Edge) (guard : Option (Nat × Bool)) : execOp a.eval { dst := dst, op := .store 29 x y, type := ty, pos := pos, after := after, guard := guard } = storeSem 29 (a.eval x) (a.eval y) := rfl
theorem bdz_Span (a : Act) (dst : Option Tmp) (parts : Array (Nat × Operand)) (ty : TypeId) (pos : String) (after : Array Edge) (guard : Option (Nat × Bool)) : execOp a.eval { dst := dst, op := .build 29 parts, type := ty, pos := pos, after := after, guard := guard } = buildSem 29 (parts.map fun x => (x.1, a.eval x.2)) := rfl
theorem T_lSpan : SliceT Try.prog 41 29 2 48 := SliceT.mk' Try.underlying41 (z := .agg #[.slice none 0 0, .slice none 0 0]) (by kernel_rfl) rfl (by decide)
theorem lsz_Span (a : Act) (dst : Option Tmp) (parts : Array (Nat × Operand)) (ty : TypeId) (pos : String) (after : Array Edge) (guard : Option (Nat × Bool)) : execOp a.eval { dst := dst, op := .buildSlice 41 1 parts, type := ty, pos := pos, after := after, guard := guard } = listSem 41 1 (parts.map fun x => (x.1, a.eval x.2)) := rfl
theorem rInt_ones {k : IntKind} {w : World} {p : Nat → Prop} {cs : List Value} {x : Int} (h : rInt k w p cs x) : ones cs = true := by rw [h.1]; rfl
theorem T_lint : SliceT Try.prog 38 3 1 8 := SliceT.mk' Try.underlying38 (z := .int .i64 0) (by kernel_rfl) rfl (by decide)
end Go.Proofs.Ytpblmaklbnpbfaa
